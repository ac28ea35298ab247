/-
  Texts of one proof, one behind the other.
-/
import Derived.Test.YtccmboenpbjhnaaGreatDoorA4
import Derived.ProofKit
import Derived.ChangeArms
import Derived.ChangeCalls
set_option linter.all false
section
namespace Go.Am
open Go Go.Proofs Go.Proofs.Tryz
variable [Inhabited bB]
set_option maxRecDepth 20000
@[reducible] noncomputable def bL(p:List Nat):Code:=Code.at (bq f37) p
section
variable {x:Sm} {v:Nat} {k:Kt} {R1:bW} {a b:AV} (A:k .ret ⟨258,aA,[(2,true,.d (.bool false))],[⟨300,v,bg x⟩]⟩=R1)
def Ip(x:Sm):Bool:=decide (1<=bf x/\bf x<=9)&&(if bf x=4\/bf x=9 then cL (gC x)else decide (gC x=[]))
def Iq(x:Sm):Bool:=if bf x=1 then decide (cA (fq x)=3\/cA (fq x)=4)&&dI (fq x)else fj (fq x)
def El(x:Sm):Bool:=(if bf x=1\/bf x=3\/bf x=5\/bf x=6 then !fj (dk x)&&dI (dk x)else fj (dk x))&&cR (bV x)
include A
theorem apG{d6 d7:AV}:aK ctx 37 (bL [1,0,1,0,0,1,0,0,1,1,0]) ⟨258,aA,[(0,true,a),(3,true,b),(4,true,.ptr 300 v 0),(5,true,.d (.bool (decide (bf x=4\/bf x=9)))),(6,true,d6),(7,true,d7)],[⟨300,v,bg x⟩]⟩ k=
 if Ip x=true then k .normal ⟨258,aA,[(0,true,a),(3,true,b),(4,true,.ptr 300 v 0),(6,true,d6),(7,true,d7),(59,true,.d (.bool false))],[⟨300,v,bg x⟩]⟩else R1:=by
 have M:=ed (gC x);unfold Ip;simp only[bg]at A;generalize cL (gC x)=N at*;by_cases D:bf x<1
 ·have J:¬1<=bf x:=by omega
  simp[bL,f37];simp[D,J,A]
 ·have J:1<=bf x:=by omega
  by_cases U:9<bf x
  ·have E:¬bf x<=9:=by omega
   simp[bL,f37];simp[D,J,U,E,A]
  ·have E:bf x<=9:=by omega
   by_cases H:bf x=4
   ·simp only[H]at A⊢;cases N<;>(simp[bL,f37];simp[H,M,A])
   ·by_cases O:bf x=9
    ·simp only[O]at A⊢;cases N<;>(simp[bL,f37];simp[O,M,A])
    ·by_cases he:gC x=[]
     ·simp only[he]at A⊢;simp[bL,f37];simp[D,J,U,E,H,O,he,A]
     ·simp[bL,f37];simp[D,J,U,E,H,O,he,A]
theorem apH{d7:AV}(V:(dY (fq x)).length<100000000/\(eW (fq x)).length<100000000/\(cQ (fq x)).length<100000000)(I:KF [fq x]):aK ctx 37 (bL [1,0,1,0,0,1,0,0,1,1,1,0]) ⟨258,aA,[(0,true,a),(3,true,b),(4,true,.ptr 300 v 0),(6,true,.d (.bool (decide (bf x=1)))),(7,true,d7),(59,true,.d (.bool false))],[⟨300,v,bg x⟩]⟩ k=
 if Iq x=true then k .normal ⟨258,aA,[(0,true,a),(3,true,b),(4,true,.ptr 300 v 0),(7,true,d7),(89,true,.d (.bool false))],[⟨300,v,bg x⟩]⟩else R1:=by
 have M:=M4 V;unfold KF at I;simp[aZ,cR]at I;unfold Iq;simp only[bg]at A;generalize fj (fq x)=N at*;generalize dI (fq x)=T at*;by_cases D:bf x=1
 ·simp only[D]at A;by_cases E:cA (fq x)=3
  ·simp only[E]at A I;cases T<;>(simp[bL,f37];simp[D,E,I,A])
  ·by_cases H:cA (fq x)=4
   ·simp only[H]at A I;cases T<;>(simp[bL,f37];simp[D,H,I,A])
   ·simp[bL,f37];simp[D,E,H,A]
 ·cases N<;>(simp[bL,f37];simp[D,M,A])
end
section
variable {x:Sm} {v:Nat} {k:Kt} {R1:bW} {a b:AV}
theorem apI(A:k .ret ⟨258,aA,[(2,true,.d (.bool false))],[⟨300,v,bg x⟩]⟩=R1){V:Bool}(A5:V=decide (bf x=1\/bf x=3\/bf x=5\/bf x=6))(A6:(dY (dk x)).length<100000000/\(eW (dk x)).length<100000000/\(cQ (dk x)).length<100000000)(A2:KF [dk x])(A3:KF (bV x)):aK ctx 37 (bL [1,0,1,0,0,1,0,0,1,1,1,1,0]) ⟨258,aA,[(0,true,a),(3,true,b),(4,true,.ptr 300 v 0),(7,true,.d (.bool V)),(89,true,.d (.bool false))],[⟨300,v,bg x⟩]⟩ k=
 if El x=true then k .normal ⟨258,aA,[(0,true,a),(3,true,b),(4,true,.ptr 300 v 0),(118,true,.d (.bool false))],[⟨300,v,bg x⟩]⟩else R1:=by
 have A4:=M4 A6;unfold KF at A2 A3;simp[aZ,cR]at A2;have e:El x=((if V=true then !fj (dk x)&&dI (dk x)else fj (dk x))&&cR (bV x)):=by
  unfold El;rw[A5];by_cases h:bf x=1\/bf x=3\/bf x=5\/bf x=6
  ·rw[aal h,aal (by simpa using h)]
  ·rw[aac h,aac (by simpa using h)]
 rw[e];simp only[bg]at A;generalize fj (dk x)=N at*;generalize dI (dk x)=T at*;generalize cR (bV x)=W at*;clear A5 e;cases V with
 |true=>
  cases N with
  |true=>(simp[bL,f37];simp[A4,A])
  |false=>cases T<;>cases W<;>(simp[bL,f37];simp[A4,A2,A3,A])
 |false=>cases N<;>cases W<;>(simp[bL,f37];simp[A4,A3,A])
theorem apJ{X:Env}:aK ctx 37 (bL [1,0,1,0,0,1,0,0,1,1,1,1,1,0]) ⟨258,aA,[(0,true,a),(3,true,b),(4,true,.ptr 300 v 0),(118,true,.d (.bool false))],[⟨300,v,bg x⟩]⟩ k=
 k .normal ⟨258,aA,[(0,true,a),(3,true,b),(4,true,.ptr 300 v 0),(8,true,.d (.int .i64 0)),(9,true,.d (.int .i64 0)),(10,true,.d (.int .i64 0)),(11,true,.d (.int .i64 0)),(12,true,.d (.int .i64 0))],[⟨300,v,bg x⟩]⟩:=by
 simp[bL,f37]
def zC(n:Int):Int:=if 1<n then n else 1
def oL(x:Sm):Int:=if bf x=2 then zC (bV x).length else if bf x=4 then 3 else if bf x=9 then (dn x).length else 0
def oM(x:Sm):Int:=if bf x=3 then (cq x).length else 0
def kY(x:Sm):Int:=if bf x=9 then (dn x).length else 0
def iq(x:Sm):Int:=if bf x=2 then zC (bV x).length else if bf x=3 then (cq x).length else if bf x=4\/bf x=5\/bf x=6 then 1 else 0
def iM(x:Sm):Int:=if bf x=2\/bf x=3 then 1 else 0
def cX(x:Sm):Env:=if bf x=2\/bf x=3\/bf x=4\/bf x=5\/bf x=6\/bf x=9 then []else [(144,true,.d (.bool false))]
theorem aeU(Z:bf x=2):aK ctx 37 (bL [1,0,1,0,0,1,0,0,1,1,1,1,1,1,0]) ⟨258,aA,[(0,true,a),(3,true,b),(4,true,.ptr 300 v 0),(8,true,.d (.int .i64 0)),(9,true,.d (.int .i64 0)),(10,true,.d (.int .i64 0)),(11,true,.d (.int .i64 0)),(12,true,.d (.int .i64 0))],[⟨300,v,bg x⟩]⟩ k=
 k .normal ⟨258,aA,[(0,true,a),(3,true,b),(4,true,.ptr 300 v 0),(8,true,.d (.int .i64 (oL x))),(9,true,.d (.int .i64 (oM x))),(10,true,.d (.int .i64 (kY x))),(11,true,.d (.int .i64 (iq x))),(12,true,.d (.int .i64 (iM x)))]++cX x,[⟨300,v,bg x⟩]⟩:=by
 unfold oL oM kY iq iM cX;simp[bL,f37];simp[Z,aj,zC]
theorem aeV(q:bf x=3):aK ctx 37 (bL [1,0,1,0,0,1,0,0,1,1,1,1,1,1,0]) ⟨258,aA,[(0,true,a),(3,true,b),(4,true,.ptr 300 v 0),(8,true,.d (.int .i64 0)),(9,true,.d (.int .i64 0)),(10,true,.d (.int .i64 0)),(11,true,.d (.int .i64 0)),(12,true,.d (.int .i64 0))],[⟨300,v,bg x⟩]⟩ k=
 k .normal ⟨258,aA,[(0,true,a),(3,true,b),(4,true,.ptr 300 v 0),(8,true,.d (.int .i64 (oL x))),(9,true,.d (.int .i64 (oM x))),(10,true,.d (.int .i64 (kY x))),(11,true,.d (.int .i64 (iq x))),(12,true,.d (.int .i64 (iM x)))]++cX x,[⟨300,v,bg x⟩]⟩:=by
 unfold oL oM kY iq iM cX;simp[bL,f37];simp[q,aj,zC]
theorem aeW(y:bf x=4):aK ctx 37 (bL [1,0,1,0,0,1,0,0,1,1,1,1,1,1,0]) ⟨258,aA,[(0,true,a),(3,true,b),(4,true,.ptr 300 v 0),(8,true,.d (.int .i64 0)),(9,true,.d (.int .i64 0)),(10,true,.d (.int .i64 0)),(11,true,.d (.int .i64 0)),(12,true,.d (.int .i64 0))],[⟨300,v,bg x⟩]⟩ k=
 k .normal ⟨258,aA,[(0,true,a),(3,true,b),(4,true,.ptr 300 v 0),(8,true,.d (.int .i64 (oL x))),(9,true,.d (.int .i64 (oM x))),(10,true,.d (.int .i64 (kY x))),(11,true,.d (.int .i64 (iq x))),(12,true,.d (.int .i64 (iM x)))]++cX x,[⟨300,v,bg x⟩]⟩:=by
 unfold oL oM kY iq iM cX;simp[bL,f37];simp[y,aj,zC]
theorem aeX(A':bf x=5):aK ctx 37 (bL [1,0,1,0,0,1,0,0,1,1,1,1,1,1,0]) ⟨258,aA,[(0,true,a),(3,true,b),(4,true,.ptr 300 v 0),(8,true,.d (.int .i64 0)),(9,true,.d (.int .i64 0)),(10,true,.d (.int .i64 0)),(11,true,.d (.int .i64 0)),(12,true,.d (.int .i64 0))],[⟨300,v,bg x⟩]⟩ k=
 k .normal ⟨258,aA,[(0,true,a),(3,true,b),(4,true,.ptr 300 v 0),(8,true,.d (.int .i64 (oL x))),(9,true,.d (.int .i64 (oM x))),(10,true,.d (.int .i64 (kY x))),(11,true,.d (.int .i64 (iq x))),(12,true,.d (.int .i64 (iM x)))]++cX x,[⟨300,v,bg x⟩]⟩:=by
 unfold oL oM kY iq iM cX;simp[bL,f37];simp[A',aj,zC]
theorem aeY(A0:bf x=6):aK ctx 37 (bL [1,0,1,0,0,1,0,0,1,1,1,1,1,1,0]) ⟨258,aA,[(0,true,a),(3,true,b),(4,true,.ptr 300 v 0),(8,true,.d (.int .i64 0)),(9,true,.d (.int .i64 0)),(10,true,.d (.int .i64 0)),(11,true,.d (.int .i64 0)),(12,true,.d (.int .i64 0))],[⟨300,v,bg x⟩]⟩ k=
 k .normal ⟨258,aA,[(0,true,a),(3,true,b),(4,true,.ptr 300 v 0),(8,true,.d (.int .i64 (oL x))),(9,true,.d (.int .i64 (oM x))),(10,true,.d (.int .i64 (kY x))),(11,true,.d (.int .i64 (iq x))),(12,true,.d (.int .i64 (iM x)))]++cX x,[⟨300,v,bg x⟩]⟩:=by
 unfold oL oM kY iq iM cX;simp[bL,f37];simp[A0,aj,zC]
theorem aeZ(D:bf x=9):aK ctx 37 (bL [1,0,1,0,0,1,0,0,1,1,1,1,1,1,0]) ⟨258,aA,[(0,true,a),(3,true,b),(4,true,.ptr 300 v 0),(8,true,.d (.int .i64 0)),(9,true,.d (.int .i64 0)),(10,true,.d (.int .i64 0)),(11,true,.d (.int .i64 0)),(12,true,.d (.int .i64 0))],[⟨300,v,bg x⟩]⟩ k=
 k .normal ⟨258,aA,[(0,true,a),(3,true,b),(4,true,.ptr 300 v 0),(8,true,.d (.int .i64 (oL x))),(9,true,.d (.int .i64 (oM x))),(10,true,.d (.int .i64 (kY x))),(11,true,.d (.int .i64 (iq x))),(12,true,.d (.int .i64 (iM x)))]++cX x,[⟨300,v,bg x⟩]⟩:=by
 unfold oL oM kY iq iM cX;simp[bL,f37];simp[D,aj,zC]
theorem ae0(Z:¬bf x=2)(q:¬bf x=3)(y:¬bf x=4)(A':¬bf x=5)(A0:¬bf x=6)(D:¬bf x=9):aK ctx 37 (bL [1,0,1,0,0,1,0,0,1,1,1,1,1,1,0]) ⟨258,aA,[(0,true,a),(3,true,b),(4,true,.ptr 300 v 0),(8,true,.d (.int .i64 0)),(9,true,.d (.int .i64 0)),(10,true,.d (.int .i64 0)),(11,true,.d (.int .i64 0)),(12,true,.d (.int .i64 0))],[⟨300,v,bg x⟩]⟩ k=
 k .normal ⟨258,aA,[(0,true,a),(3,true,b),(4,true,.ptr 300 v 0),(8,true,.d (.int .i64 (oL x))),(9,true,.d (.int .i64 (oM x))),(10,true,.d (.int .i64 (kY x))),(11,true,.d (.int .i64 (iq x))),(12,true,.d (.int .i64 (iM x)))]++cX x,[⟨300,v,bg x⟩]⟩:=by
 unfold oL oM kY iq iM cX;simp[bL,f37];simp[Z,q,y,A',A0,D,aj,zC]
theorem apK:aK ctx 37 (bL [1,0,1,0,0,1,0,0,1,1,1,1,1,1,0]) ⟨258,aA,[(0,true,a),(3,true,b),(4,true,.ptr 300 v 0),(8,true,.d (.int .i64 0)),(9,true,.d (.int .i64 0)),(10,true,.d (.int .i64 0)),(11,true,.d (.int .i64 0)),(12,true,.d (.int .i64 0))],[⟨300,v,bg x⟩]⟩ k=
 k .normal ⟨258,aA,[(0,true,a),(3,true,b),(4,true,.ptr 300 v 0),(8,true,.d (.int .i64 (oL x))),(9,true,.d (.int .i64 (oM x))),(10,true,.d (.int .i64 (kY x))),(11,true,.d (.int .i64 (iq x))),(12,true,.d (.int .i64 (iM x)))]++cX x,[⟨300,v,bg x⟩]⟩:=by
 by_cases Z:bf x=2
 ·exact aeU Z
 ·by_cases q:bf x=3
  ·exact aeV q
  ·by_cases y:bf x=4
   ·exact aeW y
   ·by_cases A':bf x=5
    ·exact aeX A'
    ·by_cases A0:bf x=6
     ·exact aeY A0
     ·by_cases D:bf x=9
      ·exact aeZ D
      ·exact ae0 Z q y A' A0 D
theorem aje(A:k .ret ⟨258,aA,[(2,true,.d (.bool false))],[⟨300,v,bg x⟩]⟩=R1){M O U E I:Int}(hw:IntKind.i64.wrap (E+I)=E+I):aK ctx 37 (bL [1,0,1,0,0,1,0,0,1,1,1,1,1,1,1,0]) ⟨258,aA,[(0,true,a),(3,true,b),(4,true,.ptr 300 v 0),(8,true,.d (.int .i64 M)),(9,true,.d (.int .i64 O)),(10,true,.d (.int .i64 U)),(11,true,.d (.int .i64 E)),(12,true,.d (.int .i64 I))],[⟨300,v,bg x⟩]⟩ k=
 if (((bV x).length:Int)=M/\((cq x).length:Int)=O/\((dn x).length:Int)=U/\¬((aV x).length:Int)<E/\¬E+I<((aV x).length:Int))then k .normal ⟨258,aA,[(0,true,a),(3,true,b),(4,true,.ptr 300 v 0),(186,true,.d (.bool false))],[⟨300,v,bg x⟩]⟩else R1:=by
 simp only[bg]at A;by_cases H:((bV x).length:Int)=M
 ·by_cases D:((cq x).length:Int)=O
  ·by_cases J:((dn x).length:Int)=U
   ·by_cases Y:((aV x).length:Int)<E
    ·(simp[bL,f37];simp[H,D,J,Y,A];intros;exfalso;omega)
    ·by_cases A1:E+I<((aV x).length:Int)
     ·(simp[bL,f37];simp[H,D,J,Y,hw,A1,A];intros;exfalso;omega)
     ·(simp[bL,f37];simp[H,D,J,Y,hw,A1,A])
   ·(simp[bL,f37];simp[H,D,J,A])
  ·(simp[bL,f37];simp[H,D,A])
 ·(simp[bL,f37];simp[H,A])
theorem ajf(A:k .ret ⟨258,aA,[(2,true,.d (.bool false))],[⟨300,v,bg x⟩]⟩=R1){M O U E I:Int}(hw:IntKind.i64.wrap (E+I)=E+I):aK ctx 37 (bL [1,0,1,0,0,1,0,0,1,1,1,1,1,1,1,0]) ⟨258,aA,[(0,true,a),(3,true,b),(4,true,.ptr 300 v 0),(8,true,.d (.int .i64 M)),(9,true,.d (.int .i64 O)),(10,true,.d (.int .i64 U)),(11,true,.d (.int .i64 E)),(12,true,.d (.int .i64 I)),(144,true,.d (.bool false))],[⟨300,v,bg x⟩]⟩ k=
 if (((bV x).length:Int)=M/\((cq x).length:Int)=O/\((dn x).length:Int)=U/\¬((aV x).length:Int)<E/\¬E+I<((aV x).length:Int))then k .normal ⟨258,aA,[(0,true,a),(3,true,b),(4,true,.ptr 300 v 0),(186,true,.d (.bool false))],[⟨300,v,bg x⟩]⟩else R1:=by
 simp only[bg]at A;by_cases H:((bV x).length:Int)=M
 ·by_cases D:((cq x).length:Int)=O
  ·by_cases J:((dn x).length:Int)=U
   ·by_cases Y:((aV x).length:Int)<E
    ·(simp[bL,f37];simp[H,D,J,Y,A];intros;exfalso;omega)
    ·by_cases A1:E+I<((aV x).length:Int)
     ·(simp[bL,f37];simp[H,D,J,Y,hw,A1,A];intros;exfalso;omega)
     ·(simp[bL,f37];simp[H,D,J,Y,hw,A1,A])
   ·(simp[bL,f37];simp[H,D,J,A])
  ·(simp[bL,f37];simp[H,D,A])
 ·(simp[bL,f37];simp[H,A])
end
def KS(b:List Sm):Prop:=ah ctx 37 [.d (.list (b.map cG))] []=some (.ret (.d (.bool (ga b))),[])
section
variable {x:Sm} {v:Nat} {k:Kt} {R1 R2:bW} {a b:AV}
theorem It(M:(dn x).length<100000000)(D:k .ret ⟨258,aA,[(2,true,.d (.bool false))],[⟨300,v,bg x⟩]⟩=R1)
 (E:k (.exit 3) ⟨258,aA,[(0,true,a),(3,true,b),(4,true,.ptr 300 v 0),(13,true,.d (.int .i64 (dn x).length)),(191,true,.d (.bool false))],[⟨300,v,bg x⟩]⟩=R2):∀(rest pre:List Tx),dn x=pre++rest->
 aK ctx 37 (.loop (bL [1,0,1,0,0,1,0,0,1,1,1,1,1,1,1,1,0,1,0,0])) ⟨258,aA,[(0,true,a),(3,true,b),(4,true,.ptr 300 v 0),(13,true,.d (.int .i64 pre.length))],[⟨300,v,bg x⟩]⟩ k=if rest.all cL=true then R2 else R1
 |[],pre,A=>by
  have O:pre.length=(dn x).length:=by rw[A];simp
  simp only[bg]at E;rw[O,ai];simp[bL,f37,E]
 |c::rest,pre,A=>by
  have H:pre.length<(dn x).length:=by rw[A];simp
  have I:(dn x)[pre.length]=c:=by simp[A]
  have ih:=It M D E rest (pre++[c]) (by simp[A]);have J:=ed c;have T:IntKind.i64.wrap ((pre.length:Int)+1)=(pre.length:Int)+1:=aE (by unfold aG;omega);simp only[bg]at D;rw[ajW];generalize cL c=N at*;rw[ai];cases N with
  |true=>
   simp[bL,f37]at ih⊢;simp[H,I,J,T,ih]
  |false=>
   simp[bL,f37];simp[H,I,J,D]
theorem Iu{l:List Int}{i:Nat}(hi:i<(cq x).length)(U:(cq x)[i]=l)(M:l.length<100000000)(D:k .ret ⟨258,aA,[(2,true,.d (.bool false))],[⟨300,v,bg x⟩]⟩=R1)
 (E:k (.exit 7) ⟨258,aA,[(0,true,a),(3,true,b),(4,true,.ptr 300 v 0),(14,true,.d (.int .i64 i)),(15,true,.d (.int .i64 l.length)),(232,true,.d (.bool false))],[⟨300,v,bg x⟩]⟩=R2):∀(rest pre:List Int),l=pre++rest->
 aK ctx 37 (.loop (bL [1,0,1,0,0,1,0,0,1,1,1,1,1,1,1,1,1,0,1,0,0,1,0,0,1,1,0,0])) ⟨258,aA,[(0,true,a),(3,true,b),(4,true,.ptr 300 v 0),(14,true,.d (.int .i64 i)),(15,true,.d (.int .i64 pre.length))],[⟨300,v,bg x⟩]⟩ k=if rest.all (λn=>decide (n≠ -9223372036854775808))=true then R2 else R1
 |[],pre,A=>by
  have O:pre.length=l.length:=by rw[A];simp
  simp only[bg]at E;rw[O,ai];simp[bL,f37];simp[hi,U,gX,E]
 |c::rest,pre,A=>by
  have H:pre.length<l.length:=by rw[A];simp
  have I:l[pre.length]=c:=by simp[A]
  have ih:=Iu hi U M D E rest (pre++[c]) (by simp[A]);have T:IntKind.i64.wrap ((pre.length:Int)+1)=(pre.length:Int)+1:=aE (by unfold aG;omega);simp only[bg]at D;rw[ajW];rw[ai];by_cases V:c= -9223372036854775808
  ·simp[bL,f37];simp[hi,U,gX,H,I,V,D]
  ·simp[bL,f37]at ih⊢;simp[hi,U,gX,H,I,V,T,ih]
theorem Iw(M:(aV x).length<100000000)(Y:∀c∈aV x,KS c)(D:k .ret ⟨258,aA,[(2,true,.d (.bool false))],[⟨300,v,bg x⟩]⟩=R1)
 (E:k (.exit 9) ⟨258,aA,[(0,true,a),(3,true,b),(4,true,.ptr 300 v 0),(16,true,.d (.int .i64 (aV x).length)),(248,true,.d (.bool false))],[⟨300,v,bg x⟩]⟩=R2):∀(rest pre:List (List Sm)),aV x=pre++rest->
 aK ctx 37 (.loop (bL [1,0,1,0,0,1,0,0,1,1,1,1,1,1,1,1,1,1,1,0,0])) ⟨258,aA,[(0,true,a),(3,true,b),(4,true,.ptr 300 v 0),(16,true,.d (.int .i64 pre.length))],[⟨300,v,bg x⟩]⟩ k=if fm rest=true then R2 else R1
 |[],pre,A=>by
  have O:pre.length=(aV x).length:=by rw[A];simp
  simp only[bg]at E;rw[O,ai];simp[bL,f37,E,fm]
 |c::rest,pre,A=>by
  have H:pre.length<(aV x).length:=by rw[A];simp
  have I:(aV x)[pre.length]=c:=by simp[A]
  have ih:=Iw M Y D E rest (pre++[c]) (by simp[A]);have J:=Y c (by rw[A];simp);have T:IntKind.i64.wrap ((pre.length:Int)+1)=(pre.length:Int)+1:=aE (by unfold aG;omega);simp only[bg]at D;unfold KS at J;have key:fm (c::rest)=(ga c&&fm rest):=by rw[fm]
  rw[key];generalize ga c=N at*;rw[ai];cases N with
  |true=>
   simp[bL,f37]at ih⊢;simp[H,I,J,oK,T,ih]
  |false=>
   simp[bL,f37];simp[H,I,J,oK,D]
end
section
variable {x:Sm} {v:Nat} {k:Kt} {R1 R2:bW} {a b:AV}
theorem Ix(Y:(cq x).length<100000000)(U:∀l∈cq x,l.length<100000000)(A:k .ret ⟨258,aA,[(2,true,.d (.bool false))],[⟨300,v,bg x⟩]⟩=R1)
 (E:k (.exit 5) ⟨258,aA,[(0,true,a),(3,true,b),(4,true,.ptr 300 v 0),(14,true,.d (.int .i64 (cq x).length)),(205,true,.d (.bool false))],[⟨300,v,bg x⟩]⟩=R2):∀(rest pre:List (List Int)),cq x=pre++rest->
 aK ctx 37 (.loop (bL [1,0,1,0,0,1,0,0,1,1,1,1,1,1,1,1,1,0,1,0,0])) ⟨258,aA,[(0,true,a),(3,true,b),(4,true,.ptr 300 v 0),(14,true,.d (.int .i64 pre.length))],[⟨300,v,bg x⟩]⟩ k=if rest.all zA=true then R2 else R1
 |[],pre,D=>by
  have Z:pre.length=(cq x).length:=by rw[D];simp
  simp only[bg]at E;rw[Z,ai];simp[bL,f37,E]
 |c::rest,pre,D=>by
  have I:pre.length<(cq x).length:=by rw[D];simp
  have J:(cq x)[pre.length]=c:=by simp[D]
  have q:=U c (by rw[D];simp);have ih:=Ix Y U A E rest (pre++[c]) (by simp[D]);have y:IntKind.i64.wrap ((pre.length:Int)+1)=(pre.length:Int)+1:=aE (by unfold aG;omega);have V:=λk R1 R2 A E=>Iu (a:=a) (b:=b) (v:=v) (k:=k) (R1:=R1) (R2:=R2) I J q A E c [] rfl;simp only[bg]at A;rw[ajW];have key:zA c=(!decide (c.length=0)&&(decide (c.length%2=0)&&c.all λn=>decide (n≠ -9223372036854775808))):=rfl;rw[key];generalize (c.all λn=>decide (n≠ -9223372036854775808))=B at*;rw[ai];have M:((c.length:Int)).tmod 2=((c.length%2:Nat):Int):=(Int.ofNat_tmod c.length 2).symm;by_cases H:c.length=0
  ·have N:c=[]:=acp H;simp[bL,f37];simp[I,J,gX,H,N,A]
  ·have N:¬c=[]:=λh=>H (by rw[h];rfl);by_cases T:c.length%2=1
   ·have O:¬c.length%2=0:=by omega
    rw[T]at M;simp[bL,f37];simp[I,J,gX,H,N,T,O,M,A]
   ·have O:c.length%2=0:=by omega
    rw[O]at M;simp[bL,f37]at ih V⊢;simp[I,J,gX,H,N,T,O,M];rw[V];cases B<;>simp[A,y,ih]
end
section
variable {x:Sm} {v:Nat} {k:Kt} {R1 R2:bW} {a b:AV}
theorem apL(H:(dn x).length<100000000)(A:k .ret ⟨258,aA,[(2,true,.d (.bool false))],[⟨300,v,bg x⟩]⟩=R1):
 aK ctx 37 (bL [1,0,1,0,0,1,0,0,1,1,1,1,1,1,1,1,0]) ⟨258,aA,[(0,true,a),(3,true,b),(4,true,.ptr 300 v 0),(186,true,.d (.bool false))],[⟨300,v,bg x⟩]⟩ k=
 if (dn x).all cL=true then k .normal ⟨258,aA,[(0,true,a),(3,true,b),(4,true,.ptr 300 v 0),(13,true,.d (.int .i64 (dn x).length)),(191,true,.d (.bool false))],[⟨300,v,bg x⟩]⟩else R1:=by
 have D:=λk R1 R2 A E=>It (a:=a) (b:=b) (v:=v) (k:=k) (R1:=R1) (R2:=R2) H A E (dn x) [] rfl;simp only[bg]at A;generalize (dn x).all cL=B at*;simp[bL,f37]at D⊢;rw[D];cases B<;>simp[A]
theorem apM(H:(cq x).length<100000000)(T:∀l∈cq x,l.length<100000000)(A:k .ret ⟨258,aA,[(2,true,.d (.bool false))],[⟨300,v,bg x⟩]⟩=R1){d1 d2:AV}:
 aK ctx 37 (bL [1,0,1,0,0,1,0,0,1,1,1,1,1,1,1,1,1,0]) ⟨258,aA,[(0,true,a),(3,true,b),(4,true,.ptr 300 v 0),(13,true,d1),(191,true,d2)],[⟨300,v,bg x⟩]⟩ k=
 if (cq x).all zA=true then k .normal ⟨258,aA,[(0,true,a),(3,true,b),(4,true,.ptr 300 v 0),(14,true,.d (.int .i64 (cq x).length)),(205,true,.d (.bool false))],[⟨300,v,bg x⟩]⟩else R1:=by
 have D:=λk R1 R2 A E=>Ix (a:=a) (b:=b) (v:=v) (k:=k) (R1:=R1) (R2:=R2) H T A E (cq x) [] rfl;simp only[bg]at A;generalize (cq x).all zA=B at*;simp[bL,f37]at D⊢;rw[D];cases B<;>simp[A]
theorem apN(H:(aV x).length<100000000)(U:∀c∈aV x,KS c)(A:k .ret ⟨258,aA,[(2,true,.d (.bool false))],[⟨300,v,bg x⟩]⟩=R1){d1 d2:AV}:
 aK ctx 37 (bL [1,0,1,0,0,1,0,0,1,1,1,1,1,1,1,1,1,1]) ⟨258,aA,[(0,true,a),(3,true,b),(4,true,.ptr 300 v 0),(14,true,d1),(205,true,d2)],[⟨300,v,bg x⟩]⟩ k=
 if fm (aV x)=true then k .normal ⟨258,aA,[(0,true,a),(3,true,b),(4,true,.ptr 300 v 0),(16,true,.d (.int .i64 (aV x).length)),(248,true,.d (.bool false))],[⟨300,v,bg x⟩]⟩else R1:=by
 have D:=λk R1 R2 A E=>Iw (a:=a) (b:=b) (v:=v) (k:=k) (R1:=R1) (R2:=R2) H U A E (aV x) [] rfl;simp only[bg]at A;generalize fm (aV x)=B at*;simp[bL,f37]at D⊢;rw[D];cases B<;>simp[A]
theorem apO:aK ctx 37 (bL [1,0,1,0,0,1,0,0,1,0]) ⟨258,aA,[(0,true,a),(3,true,b),(4,true,.ptr 300 v 0)],[⟨300,v,bg x⟩]⟩ k=
 k .normal ⟨258,aA,[(0,true,a),(3,true,b),(4,true,.ptr 300 v 0),(5,true,.d (.bool (decide (bf x=4\/bf x=9)))),(6,true,.d (.bool (decide (bf x=1)))),(7,true,.d (.bool (decide (bf x=1\/bf x=3\/bf x=5\/bf x=6))))],[⟨300,v,bg x⟩]⟩:=by
 have V:=Wz (bf x);simp[bL,f37];simp[V]
end
def Em(x:Sm):Bool:=decide (((bV x).length:Int)=oL x/\((cq x).length:Int)=oM x/\((dn x).length:Int)=kY x/\¬((aV x).length:Int)<iq x/\¬iq x+iM x<((aV x).length:Int))
theorem QB(x:Sm):Em x=gM (bf x) (bV x).length (cq x).length (dn x).length (aV x).length:=by
 unfold Em gM oL oM kY iq iM zC;generalize bf x=o;generalize (bV x).length=Y;generalize (cq x).length=Z;generalize (dn x).length=q;generalize (aV x).length=y;rw[Bool.eq_iff_iff];by_cases E:o=2
 ·subst E;by_cases h:(1:Int)<Y
  ·simp[h];omega
  ·simp[h];omega
 ·by_cases I:o=3
  ·subst I;simp;omega
  ·by_cases J:o=4
   ·subst J;simp;omega
   ·by_cases M:o=5
    ·subst M;simp;omega
    ·by_cases N:o=6
     ·subst N;simp;omega
     ·by_cases O:o=9
      ·subst O;simp;omega
      ·simp[E,I,J,M,N,O]
theorem ae1(x:Sm):og x=(Ip x&&(Iq x&&(El x&&(Em x&&((dn x).all cL&&((cq x).all zA&&fm (aV x))))))):=by
 rw[QB];obtain⟨op,name,to,val,A',A0,fields,A1,line⟩:=x;unfold og Ip Iq El;simp only[Bool.and_assoc];rfl
end Go.Am
end
section
namespace Go.Am
open Go Go.Proofs
variable [Inhabited bB]
set_option maxRecDepth 20000
theorem Z7(x:Ex):vE x↔((dY x).length<100000000/\(eW x).length<100000000/\(cQ x).length<100000000)/\oq (cQ x):=by
 obtain⟨op,nn,name,field,sub,line⟩:=x;simp only[vE,SX,SY,SZ]
mutual
def FI:Sm->Prop
 | .mk _ _ to val E H fields I _=>(vE to/\vE val/\(E.length<100000000/\oq E)/\(H.length<100000000/\∀l∈H,l.length<100000000)/\fields.length<100000000/\I.length<100000000)/\pr I
def kZ:List Sm->Prop
 |[]=>True
 |x::r=>FI x/\kZ r
def pr:List (List Sm)->Prop
 |[]=>True
 |b::r=>(b.length<100000000/\kZ b)/\pr r
end
def tV(x:Sm):Prop:=vE (fq x)/\vE (dk x)/\((bV x).length<100000000/\oq (bV x))/\((cq x).length<100000000/\∀l∈cq x,l.length<100000000)/\(dn x).length<100000000/\(aV x).length<100000000
theorem QC(x:Sm):FI x↔tV x/\pr (aV x):=by
 obtain⟨op,name,to,val,E,H,fields,I,line⟩:=x;unfold FI tV;rfl
theorem WB(x:Sm):cX x=[]\/cX x=[(144,true,.d (.bool false))]:=by
 unfold cX;split
 ·exact .inl rfl
 ·exact .inr rfl
theorem ajg{x:Sm}(h:tV x):IntKind.i64.wrap (iq x+iM x)=iq x+iM x:=by
 obtain⟨_,_,⟨J,_⟩,⟨AE,_⟩,_,_⟩:=h;apply aE;have AF:0<=iq x/\iq x<200000000:=by
  unfold iq zC;split
  ·split<;>omega
  ·split
   ·omega
   ·split<;>omega
 have a2:0<=iM x/\iM x<=1:=by
  unfold iM;split<;>omega
 unfold aG;omega
section
variable {x:Sm} {v:Nat} {k:Kt} {R1:bW} {a b:AV}
theorem ae2(N:tV x)(V:∀c∈aV x,KS c)(J:k .ret ⟨258,aA,[(2,true,.d (.bool false))],[⟨300,v,bg x⟩]⟩=R1):
 aK ctx 37 (bL [1,0,1,0,0,1,0,0,1]) ⟨258,aA,[(0,true,a),(3,true,b),(4,true,.ptr 300 v 0)],[⟨300,v,bg x⟩]⟩ k=
 if og x=true then k .normal ⟨258,aA,[(0,true,a),(3,true,b),(4,true,.ptr 300 v 0),(16,true,.d (.int .i64 (aV x).length)),(248,true,.d (.bool false))],[⟨300,v,bg x⟩]⟩else R1:=by
 have Y:bL [1,0,1,0,0,1,0,0,1]=Code.seq (bL [1,0,1,0,0,1,0,0,1,0]) (bL [1,0,1,0,0,1,0,0,1,1]):=rfl;have Z:bL [1,0,1,0,0,1,0,0,1,1]=Code.seq (bL [1,0,1,0,0,1,0,0,1,1,0]) (bL [1,0,1,0,0,1,0,0,1,1,1]):=rfl;have q:bL [1,0,1,0,0,1,0,0,1,1,1]=Code.seq (bL [1,0,1,0,0,1,0,0,1,1,1,0]) (bL [1,0,1,0,0,1,0,0,1,1,1,1]):=rfl;have y:bL [1,0,1,0,0,1,0,0,1,1,1,1]=Code.seq (bL [1,0,1,0,0,1,0,0,1,1,1,1,0]) (bL [1,0,1,0,0,1,0,0,1,1,1,1,1]):=rfl;have A':bL [1,0,1,0,0,1,0,0,1,1,1,1,1]=Code.seq (bL [1,0,1,0,0,1,0,0,1,1,1,1,1,0]) (bL [1,0,1,0,0,1,0,0,1,1,1,1,1,1]):=rfl;have A0:bL [1,0,1,0,0,1,0,0,1,1,1,1,1,1]=Code.seq (bL [1,0,1,0,0,1,0,0,1,1,1,1,1,1,0]) (bL [1,0,1,0,0,1,0,0,1,1,1,1,1,1,1]):=rfl;have A1:bL [1,0,1,0,0,1,0,0,1,1,1,1,1,1,1]=Code.seq (bL [1,0,1,0,0,1,0,0,1,1,1,1,1,1,1,0]) (bL [1,0,1,0,0,1,0,0,1,1,1,1,1,1,1,1]):=rfl;have A2:bL [1,0,1,0,0,1,0,0,1,1,1,1,1,1,1,1]=Code.seq (bL [1,0,1,0,0,1,0,0,1,1,1,1,1,1,1,1,0]) (bL [1,0,1,0,0,1,0,0,1,1,1,1,1,1,1,1,1]):=rfl;have A3:bL [1,0,1,0,0,1,0,0,1,1,1,1,1,1,1,1,1]=Code.seq (bL [1,0,1,0,0,1,0,0,1,1,1,1,1,1,1,1,1,0]) (bL [1,0,1,0,0,1,0,0,1,1,1,1,1,1,1,1,1,1]):=rfl;have A:∀c,zb ctx 37 c k .ret ⟨258,aA,[(2,true,.d (.bool false))],[⟨300,v,bg x⟩]⟩=R1:=λ_=>J;have hw:=ajg N;obtain⟨O,T,⟨A4,A5⟩,⟨A6,A7⟩,A8,A9⟩:=N;have AA:KF [fq x]:=BL (l:=[fq x]) (by simp) ⟨O,trivial⟩;have AB:KF [dk x]:=BL (l:=[dk x]) (by simp) ⟨T,trivial⟩;have AC:KF (bV x):=BL A4 A5;rw[ae1];rw[Y,fB,apO,iI,Z,fB,apG (A _)];cases Ip x
 ·rw[aj0,aac acv,aac acv]
 rw[aal rfl,aka,iI,q,fB,apH (A _) ((Z7 _).1 O).1 AA];cases Iq x
 ·rw[aj0,aac acv,aac acv]
 rw[aal rfl,aka,iI,y,fB,apI (A _) rfl ((Z7 _).1 T).1 AB AC];cases El x
 ·rw[aj0,aac acv,aac acv]
 rw[aal rfl,aka,iI,A',fB,apJ (X:=[]),iI,A0,fB,apK,iI,A1,fB];have AD:∀D:Kt,D .ret ⟨258,aA,[(2,true,.d (.bool false))],[⟨300,v,bg x⟩]⟩=R1->aK ctx 37 (bL [1,0,1,0,0,1,0,0,1,1,1,1,1,1,1,0]) ⟨258,aA,[(0,true,a),(3,true,b),(4,true,.ptr 300 v 0),(8,true,.d (.int .i64 (oL x))),(9,true,.d (.int .i64 (oM x))),(10,true,.d (.int .i64 (kY x))),(11,true,.d (.int .i64 (iq x))),(12,true,.d (.int .i64 (iM x)))]++cX x,[⟨300,v,bg x⟩]⟩ D=
  if Em x=true then D .normal ⟨258,aA,[(0,true,a),(3,true,b),(4,true,.ptr 300 v 0),(186,true,.d (.bool false))],[⟨300,v,bg x⟩]⟩else R1:=by
  intro D U;unfold Em;rcases WB x with M|M
  ·rw[M,afn,aje U hw];simp only[aag]
  ·rw[M];simp only[List.cons_append,List.nil_append];rw[ajf U hw];simp only[aag]
 rw[AD _ (A _)];cases Em x
 ·rw[aj0,aac acv,aac acv]
 rw[aal rfl,aka,iI,A2,fB,apL A8 (A _)];cases (dn x).all cL
 ·rw[aj0,aac acv,aac acv]
 rw[aal rfl,aka,iI,A3,fB,apM A6 A7 (A _)];cases (cq x).all zA
 ·rw[aj0,aac acv,aac acv]
 rw[aal rfl,aka,iI,apN A9 V J]
end
end Go.Am
end
section
namespace Go.Am
open Go Go.Proofs Go.Proofs.Tryz
variable [Inhabited bB]
set_option maxRecDepth 20000
theorem Iy(l:List Sm)(I:l.length<100000000)(O:∀x∈l,tV x)(T:∀x∈l,∀c∈aV x,KS c)(k:Kt)(R1 R2:bW)
 (D:∀v X,k .ret ⟨258,aA,[(2,true,.d (.bool false))],[⟨300,v,X⟩]⟩=R1)
 (E:∀(Y:Env) v X,k (.exit 0) ⟨258,aA,Y,[⟨300,v,X⟩]⟩=R2):∀(rest pre:List Sm)(v:Nat)(X:ax),l=pre++rest->
 aK ctx 37 (.loop (bL [1,0,1,0,0])) ⟨258,aA,[(0,true,.d (.list (l.map cG))),(3,true,.d (.int .i64 pre.length))],[⟨300,v,X⟩]⟩ k=if ga rest=true then R2 else R1
 |[],pre,v,X,H=>by
  have V:pre.length=l.length:=by rw[H];simp
  rw[V,ai];simp[bL,f37,E,ga]
 |x::rest,pre,v,X,H=>by
  have Z:pre.length<l.length:=by rw[H];simp
  have q:l[pre.length]=x:=by simp[H]
  have hm:x∈l:=by rw[H];simp
  have U:=λ(v:Nat) (a b:AV) (k:Kt)=>ae2 (v:=v) (a:=a) (b:=b) (k:=k) (O x hm) (T x hm) rfl;have ih:∀v X,aK ctx 37 (.loop (bL [1,0,1,0,0])) ⟨258,aA,[(0,true,.d (.list (l.map cG))),(3,true,.d (.int .i64 (pre.length+1)))],[⟨300,v,X⟩]⟩ k=if ga rest=true then R2 else R1:=λv X=>by
   have:=Iy l I O T k R1 R2 D E rest (pre++[x]) v X (by simp[H]);simpa using this
  have A':IntKind.i64.wrap ((pre.length:Int)+1)=(pre.length:Int)+1:=aE (by unfold aG;omega);have key:ga (x::rest)=(og x&&ga rest):=by rw[ga]
  rw[key];generalize og x=N at*;generalize ga rest=M at*;rw[ai];simp[bL,f37]at U ih⊢;simp[Z,q,cu];simp[U];cases N<;>simp[D,A',ih]
theorem T1{l:List Sm}(I:l.length<100000000)(O:∀x∈l,tV x)(T:∀x∈l,∀c∈aV x,KS c):KS l:=by
 have h:=λk R1 R2 D E v X=>Iy l I O T k R1 R2 D E l [] v X rfl;unfold KS;rw[aiS (by simp)];simp[bL,f37]at h⊢;rw[h _ (some (.ret (.d (.bool false)),[])) (some (.ret (.d (.bool true)),[]))]
 ·cases ga l<;>simp
 ·intro v X;simp
 ·intro Y v X;simp
mutual
theorem ae4:∀x:Sm,FI x->tV x/\∀c∈aV x,KS c
 | .mk op name to val A1 A2 fields A0 line,h=>by
  have h:=(QC _).1 h;exact⟨h.1,M6 A0 h.2⟩
theorem Ao:∀l:List Sm,kZ l->∀x∈l,tV x/\∀c∈aV x,KS c
 |[],_,x,A=>by simp at A
 |y::r,h,x,A=>by
  simp only[kZ]at h;have D:=ae4 y h.1;have E:=Ao r h.2;rcases aak.1 A with e|A
  ·rw[e];exact D
  ·exact E x A
theorem M6:∀l:List (List Sm),pr l->∀c∈l,KS c
 |[],_,c,J=>by simp at J
 |b::r,h,c,J=>by
  simp only[pr]at h;have D:=Ao b h.1.2;have E:=M6 r h.2;rcases aak.1 J with e|J
  ·rw[e];exact T1 h.1.1 (λx A=>(D x A).1) (λx A=>(D x A).2)
  ·exact E c J
end
theorem WC{l:List Sm}(I:l.length<100000000)(h:kZ l):KS l:=
 T1 I (λx A=>(Ao l h x A).1) (λx A=>(Ao l h x A).2)
end Go.Am
end
section
namespace Go.Am
open Go Go.Proofs
variable [Inhabited bB]
set_option maxRecDepth 20000
theorem apP:ah ctx 52 [.d (.int .i64 10)] []=some (.ret (.d (.list ((br 10).map cD))),[]):=bk 120 (by kernel_rfl)
theorem apQ:ah ctx 52 [.d (.int .i64 11)] []=some (.ret (.d (.list ((br 11).map cD))),[]):=bk 120 (by kernel_rfl)
theorem apR:ah ctx 52 [.d (.int .i64 12)] []=some (.ret (.d (.list ((br 12).map cD))),[]):=bk 120 (by kernel_rfl)
theorem apS:ah ctx 52 [.d (.int .i64 13)] []=some (.ret (.d (.list ((br 13).map cD))),[]):=bk 120 (by kernel_rfl)
theorem apT:ah ctx 52 [.d (.int .i64 14)] []=some (.ret (.d (.list ((br 14).map cD))),[]):=bk 120 (by kernel_rfl)
theorem apU:ah ctx 52 [.d (.int .i64 15)] []=some (.ret (.d (.list ((br 15).map cD))),[]):=bk 120 (by kernel_rfl)
theorem apV:ah ctx 52 [.d (.int .i64 16)] []=some (.ret (.d (.list ((br 16).map cD))),[]):=bk 120 (by kernel_rfl)
theorem apW:ah ctx 52 [.d (.int .i64 17)] []=some (.ret (.d (.list ((br 17).map cD))),[]):=bk 120 (by kernel_rfl)
theorem apX:ah ctx 52 [.d (.int .i64 18)] []=some (.ret (.d (.list ((br 18).map cD))),[]):=bk 120 (by kernel_rfl)
theorem apY:ah ctx 52 [.d (.int .i64 19)] []=some (.ret (.d (.list ((br 19).map cD))),[]):=bk 120 (by kernel_rfl)
theorem apZ:ah ctx 52 [.d (.int .i64 20)] []=some (.ret (.d (.list ((br 20).map cD))),[]):=bk 120 (by kernel_rfl)
theorem ap0:ah ctx 52 [.d (.int .i64 21)] []=some (.ret (.d (.list ((br 21).map cD))),[]):=bk 120 (by kernel_rfl)
theorem ap1:ah ctx 52 [.d (.int .i64 22)] []=some (.ret (.d (.list ((br 22).map cD))),[]):=bk 120 (by kernel_rfl)
theorem ap2:ah ctx 52 [.d (.int .i64 23)] []=some (.ret (.d (.list ((br 23).map cD))),[]):=bk 120 (by kernel_rfl)
theorem ap3:ah ctx 52 [.d (.int .i64 24)] []=some (.ret (.d (.list ((br 24).map cD))),[]):=bk 120 (by kernel_rfl)
theorem ap4:ah ctx 52 [.d (.int .i64 25)] []=some (.ret (.d (.list ((br 25).map cD))),[]):=bk 120 (by kernel_rfl)
theorem ap5:ah ctx 52 [.d (.int .i64 26)] []=some (.ret (.d (.list ((br 26).map cD))),[]):=bk 120 (by kernel_rfl)
theorem ap6:ah ctx 52 [.d (.int .i64 27)] []=some (.ret (.d (.list ((br 27).map cD))),[]):=bk 120 (by kernel_rfl)
theorem ap7:ah ctx 52 [.d (.int .i64 28)] []=some (.ret (.d (.list ((br 28).map cD))),[]):=bk 120 (by kernel_rfl)
theorem ap8:ah ctx 52 [.d (.int .i64 29)] []=some (.ret (.d (.list ((br 29).map cD))),[]):=bk 120 (by kernel_rfl)
theorem ap9:ah ctx 52 [.d (.int .i64 30)] []=some (.ret (.d (.list ((br 30).map cD))),[]):=bk 120 (by kernel_rfl)
theorem aqa:ah ctx 52 [.d (.int .i64 31)] []=some (.ret (.d (.list ((br 31).map cD))),[]):=bk 120 (by kernel_rfl)
end Go.Am
end
section
namespace Go.Am
open Go Go.Proofs Go.Proofs.Tryz
variable [Inhabited bB]
set_option maxRecDepth 20000
abbrev Rw:=Int×Tx×Tx×List Tx
def Dh:List Rw:=[
 (10,[84,79,78],[105,73,111,79],[[73,78],[80,84],[81],[69,84]]),
 (11,[84,79,70],[105,73,111,79],[[73,78],[80,84],[81],[69,84]]),
 (12,[84,80],[105,73,111,79,46,46],[[73,78],[80,84],[81],[69,84]]),
 (13,[67,84,85],[105,105,73,111,79,46],[[67,85],[82],[80,86],[81],[67,86]]),
 (14,[67,84,68],[105,105,73,111,79,46],[[67,68],[76,68],[80,86],[81],[67,86]]),
 (15,[82,95,84,82,73,71],[105,111,46],[[67,76,75],[81]]),
 (16,[70,95,84,82,73,71],[105,111,46],[[67,76,75],[81]]),
 (17,[83,82],[105,105,111],[[83,49],[82],[81,49]]),
 (18,[82,83],[105,105,111],[[83],[82,49],[81,49]]),
 (20,[77,67,95,80,111,119,101,114],[73,105,111,111],[[65,120,105,115],[69,110,97,98,108,101],[83,116,97,116,117,115],[69,114,114,111,114]]),
 (21,[77,67,95,72,111,109,101],[73,105,111,111,111,111,111,46,46],[[65,120,105,115],[69,120,101,99,117,116,101],[68,111,110,101],[66,117,115,121],[65,99,116,105,118,101],[67,111,109,109,97,110,100,65,98,111,114,116,101,100],[69,114,114,111,114]]),
 (22,[77,67,95,83,116,111,112],[73,105,111,111,111,111,111,46,46],[[65,120,105,115],[69,120,101,99,117,116,101],[68,111,110,101],[66,117,115,121],[65,99,116,105,118,101],[67,111,109,109,97,110,100,65,98,111,114,116,101,100],[69,114,114,111,114]]),
 (23,[77,67,95,72,97,108,116],[73,105,111,111,111,111,111,46,46],[[65,120,105,115],[69,120,101,99,117,116,101],[68,111,110,101],[66,117,115,121],[65,99,116,105,118,101],[67,111,109,109,97,110,100,65,98,111,114,116,101,100],[69,114,114,111,114]]),
 (24,[77,67,95,77,111,118,101,65,98,115,111,108,117,116,101],[73,105,73,73,73,111,111,111,111,111,46,46],[[65,120,105,115],[69,120,101,99,117,116,101],[80,111,115,105,116,105,111,110],[86,101,108,111,99,105,116,121],[66,117,102,102,101,114,77,111,100,101],[68,111,110,101],[66,117,115,121],[65,99,116,105,118,101],[67,111,109,109,97,110,100,65,98,111,114,116,101,100],[69,114,114,111,114]]),
 (25,[77,67,95,77,111,118,101,82,101,108,97,116,105,118,101],[73,105,73,73,73,111,111,111,111,111,46,46],[[65,120,105,115],[69,120,101,99,117,116,101],[68,105,115,116,97,110,99,101],[86,101,108,111,99,105,116,121],[66,117,102,102,101,114,77,111,100,101],[68,111,110,101],[66,117,115,121],[65,99,116,105,118,101],[67,111,109,109,97,110,100,65,98,111,114,116,101,100],[69,114,114,111,114]]),
 (26,[77,67,95,77,111,118,101,65,100,100,105,116,105,118,101],[73,105,73,73,73,111,111,111,111,111,46,46],[[65,120,105,115],[69,120,101,99,117,116,101],[68,105,115,116,97,110,99,101],[86,101,108,111,99,105,116,121],[66,117,102,102,101,114,77,111,100,101],[68,111,110,101],[66,117,115,121],[65,99,116,105,118,101],[67,111,109,109,97,110,100,65,98,111,114,116,101,100],[69,114,114,111,114]]),
 (27,[77,67,95,77,111,118,101,86,101,108,111,99,105,116,121],[73,105,73,111,111,111,111,111,46,46],[[65,120,105,115],[69,120,101,99,117,116,101],[86,101,108,111,99,105,116,121],[73,110,86,101,108,111,99,105,116,121],[66,117,115,121],[65,99,116,105,118,101],[67,111,109,109,97,110,100,65,98,111,114,116,101,100],[69,114,114,111,114]]),
 (28,[77,67,95,71,101,97,114,73,110],[73,105,73,73,73,111,111,111,111,111,46,46],[[65,120,105,115],[69,120,101,99,117,116,101],[77,97,115,116,101,114],[78,117,109,101,114,97,116,111,114],[68,101,110,111,109,105,110,97,116,111,114],[73,110,71,101,97,114],[66,117,115,121],[65,99,116,105,118,101],[67,111,109,109,97,110,100,65,98,111,114,116,101,100],[69,114,114,111,114]]),
 (29,[77,67,95,82,101,115,101,116],[73,105,111,111,46],[[65,120,105,115],[69,120,101,99,117,116,101],[68,111,110,101],[69,114,114,111,114]]),
 (30,[77,67,95,83,101,116,80,111,115,105,116,105,111,110],[73,105,73,111,111,46],[[65,120,105,115],[69,120,101,99,117,116,101],[80,111,115,105,116,105,111,110],[68,111,110,101],[69,114,114,111,114]]),
 (31,[77,67,95,83,101,116,79,118,101,114,114,105,100,101],[73,105,73,111],[[65,120,105,115],[69,110,97,98,108,101],[80,101,114,99,101,110,116],[69,110,97,98,108,101,100]])]
def Z8(r:Rw):D:=.agg [.int .i64 r.1,.str r.2.1,.str r.2.2.1,.list (r.2.2.2.map .str)]
theorem ae5:ah ctx 67 [] []=some (.ret (.d (.list (Dh.map Z8))),[]):=bk 120 (by kernel_rfl)
def uP(k:Int):List Rw->Tx
 |[]=>[]
 |r::l=>if r.1=k then r.2.1 else uP k l
theorem M7(q:Int)(l:List Rw)(N:l.length<1000)(k:Kt)(RF:Tx->bW)
 (E:∀t,k .ret ⟨24,aA,[(2,true,.d (.str t))],[]⟩=RF t)
 (H:∀Y:Env,k (.exit 0) ⟨24,aA,Y,[]⟩=RF []):∀(rest pre:List Rw),l=pre++rest->
 aK ctx 36 (.loop (Code.at (bq f36) [1,1,0,1,0,0])) ⟨24,aA,[(0,true,.d (.int .i64 q)),(3,true,.d (.list (l.map Z8))),(4,true,.d (.int .i64 pre.length))],[]⟩ k=RF (uP q rest)
 |[],pre,A=>by
  have O:pre.length=l.length:=by rw[A];simp
  rw[O,ai];simp[f36,H,uP]
 |x::rest,pre,A=>by
  have I:pre.length<l.length:=by rw[A];simp
  have J:l[pre.length]=x:=by simp[A]
  have ih:=M7 q l N k RF E H rest (pre++[x]) (by simp[A]);have T:IntKind.i64.wrap ((pre.length:Int)+1)=(pre.length:Int)+1:=aE (by unfold aG;omega);rw[ai];by_cases M:x.1=q
  ·simp[f36];simp[I,J,Z8,M,E,uP]
  ·simp[f36]at ih⊢;simp[I,J,Z8,M,T,ih,uP]
theorem aqb(q:Int):ah ctx 36 [.d (.int .i64 q)] []=some (.ret (.d (.str (uP q Dh))),[]):=by
 have h:=λk RF E H=>M7 q Dh (by decide) k RF E H Dh [] rfl;have U:=ae5;rw[aiR (by simp)];generalize Dh=l at*;simp[f36]at h⊢;simp[U];rw[h _ (λt=>some (.ret (.d (.str t)),[])) (by simp) (by simp)]
theorem aaU(q:Int):(uP q Dh=[])↔pN q=false:=by
 by_cases h:10<=q/\q<=31
 ·have:q=10\/q=11\/q=12\/q=13\/q=14\/q=15\/q=16\/q=17\/q=18\/q=19\/q=20\/q=21\/q=22\/q=23\/q=24\/q=25\/q=26\/q=27\/q=28\/q=29\/q=30\/q=31:=by omega
  rcases this with h|h|h|h|h|h|h|h|h|h|h|h|h|h|h|h|h|h|h|h|h|h<;>subst h<;>decide
 ·have e:∀n:Int,10<=n->n<=31->¬n=q:=λn a b c=>h (by omega);have V:br q=[]:=by
   unfold br KL;simp only[xe];rw[aac (e _ (by decide) (by decide)),aac (e _ (by decide) (by decide)),aac (e _ (by decide) (by decide)),aac (e _ (by decide) (by decide)),aac (e _ (by decide) (by decide)),aac (e _ (by decide) (by decide)),aac (e _ (by decide) (by decide)),aac (e _ (by decide) (by decide)),aac (e _ (by decide) (by decide)),aac (e _ (by decide) (by decide)),aac (e _ (by decide) (by decide)),aac (e _ (by decide) (by decide)),aac (e _ (by decide) (by decide)),aac (e _ (by decide) (by decide)),aac (e _ (by decide) (by decide)),aac (e _ (by decide) (by decide)),aac (e _ (by decide) (by decide)),aac (e _ (by decide) (by decide)),aac (e _ (by decide) (by decide)),aac (e _ (by decide) (by decide)),aac (e _ (by decide) (by decide))]
  have Z:uP q Dh=[]:=by
   unfold Dh;simp only[uP];rw[aac (e _ (by decide) (by decide)),aac (e _ (by decide) (by decide)),aac (e _ (by decide) (by decide)),aac (e _ (by decide) (by decide)),aac (e _ (by decide) (by decide)),aac (e _ (by decide) (by decide)),aac (e _ (by decide) (by decide)),aac (e _ (by decide) (by decide)),aac (e _ (by decide) (by decide)),aac (e _ (by decide) (by decide)),aac (e _ (by decide) (by decide)),aac (e _ (by decide) (by decide)),aac (e _ (by decide) (by decide)),aac (e _ (by decide) (by decide)),aac (e _ (by decide) (by decide)),aac (e _ (by decide) (by decide)),aac (e _ (by decide) (by decide)),aac (e _ (by decide) (by decide)),aac (e _ (by decide) (by decide)),aac (e _ (by decide) (by decide)),aac (e _ (by decide) (by decide))]
  rw[Z];unfold pN;rw[V];simp
end Go.Am
end
section
namespace Go.Am
open Go Go.Proofs
variable [Inhabited bB]
set_option maxRecDepth 20000
section
variable {vs:List Vr} {n:Int} (A:vs.length<1000000) (D:∀v∈vs,dA v=true)
def T4(vs:List Vr)(x:Sm):EL:=match bu vs (gC x)with
 |none=>(9,kO x)
 |some v=>if v.ty<=2 then (10,kO x)else jq vs v.ty (kO x) (dn x) (bV x) []
def coE(vs:List Vr)(x:Sm):EL:=match bu vs (gC x)with
 |none=>(9,kO x)
 |some v=>if v.sec=1 then (1,kO x)else if v.arr=true\/v.ty≠1 then (10,kO x)else eN (lU vs 1 (bV x)) (zB vs (aV x))
include A D
end
theorem rJ(vs:List Vr)(lp:Bool)(x:Sm):AW vs lp x=
 if bf x=1 then Z6 vs (fq x) (dk x) (kO x)
 else if bf x=2 then gD vs lp (bV x) (aV x)
 else if bf x=3 then eN (dx vs (dk x) 1) (gD vs lp [] (aV x))
 else if bf x=4 then coE vs x
 else if bf x=5 then eN (dx vs (dk x) 2) (zB vs (aV x))
 else if bf x=6 then eN (zB vs (aV x)) (dx vs (dk x) 2)
 else if bf x=7 then (if lp=true then (0,0)else (14,kO x))
 else if bf x=9 then T4 vs x
 else (0,0):=by
 obtain⟨op,name,to,val,A,D,fields,E,line⟩:=x;unfold AW coE T4;rfl
mutual
def M8:Sm->Nat
 | .mk _ _ _ _ A D fields E _=>1+A.length+D.length+fields.length+uQ E
def qK:List Sm->Nat
 |[]=>0
 |x::r=>M8 x+qK r
def uQ:List (List Sm)->Nat
 |[]=>0
 |b::r=>qK b+1+uQ r
end
theorem BM:∀l:List Sm,l.length<=qK l
 |[]=>by simp[qK]
 | .mk _ _ _ _ c H f I _::r=>by have:=BM r;simp only[qK,M8,ab2];omega
theorem Iz:∀l:List (List Sm),l.length<=uQ l
 |[]=>by simp[uQ]
 |b::r=>by have:=Iz r;simp only[uQ,ab2];omega
section
variable {vs:List Vr} {n:Int} (J:vs.length<1000000) (M:∀v∈vs,dA v=true)
end
section
variable {vs:List Vr} {n:Int} (A:vs.length<1000000) (D:∀v∈vs,dA v=true)
theorem kG{a b:EL}(h:a.1=0):eN a b=b:=by unfold eN;rw[aac (by simp[h])]
theorem ot{a b:EL}(h:¬a.1=0):eN a b=a:=by unfold eN;rw[aal h]
include A D
end
def dh(e:EL):EL:=if e.1=0 then (0,0)else e
end Go.Am
end
section
namespace Go.Am
open Go Go.Proofs Go.Proofs.Tryz
variable [Inhabited bB]
set_option maxRecDepth 20000
@[reducible] noncomputable def eX(p:List Nat):Code:=Code.at (bq f14) p
def T6(w:Vr):Bool:=cL w.name&&decide (0<=w.sec/\w.sec<=2)
def T7(w:Vr):Bool:=decide (w.ty=1\/w.ty=2)||pN w.ty
def T8(w:Vr):Bool:=if w.arr=true then decide (w.ty<=2/\0<=w.lo/\w.lo<=w.hi/\w.hi<=255)else decide (w.lo=0/\w.hi=0)
def Z9(w:Vr):Bool:=!decide (((w.arr=true\/2<w.ty)/\w.init≠0)\/(w.ty=2/\(w.init<0\/1<w.init))\/w.init= -9223372036854775808)
theorem ae7(w:Vr):dA w=(T6 w&&(T7 w&&(T8 w&&Z9 w))):=by
 unfold dA T6 T7 T8 Z9;simp only[Bool.and_assoc]
section
variable {w:Vr} {v:Nat} {k:Kt} {R1:bW} {a b:AV} {B:ax} (A:k .ret ⟨129,aA,[(2,true,.d (.bool false))],[⟨150,1,B⟩,⟨300,v,ix w⟩]⟩=R1)
include A
theorem ajh:aK ctx 14 (eX [1,1,0,1,0,0,1,0,0,1,0]) ⟨129,aA,[(1,true,a),(3,true,b),(4,true,.ptr 300 v 0)],[⟨150,1,B⟩,⟨300,v,ix w⟩]⟩ k=
 if T6 w=true then k .normal ⟨129,aA,[(1,true,a),(3,true,b),(4,true,.ptr 300 v 0),(40,true,.d (.bool false))],[⟨150,1,B⟩,⟨300,v,ix w⟩]⟩else R1:=by
 have O:=ed w.name;unfold T6;simp only[ix]at A;generalize cL w.name=N at*;cases N with
 |false=>(simp[eX,f14];simp[O,A])
 |true=>
  by_cases D:w.sec<0
  ·have E:¬0<=w.sec:=by omega
   (simp[eX,f14];simp[O,D,E,A])
  ·have E:0<=w.sec:=by omega
   by_cases H:2<w.sec
   ·have J:¬w.sec<=2:=by omega
    (simp[eX,f14];simp[O,D,E,H,J,A])
   ·have J:w.sec<=2:=by omega
    (simp[eX,f14];simp[O,D,E,H,J,A])
theorem aji{d:AV}:aK ctx 14 (eX [1,1,0,1,0,0,1,0,0,1,1,0]) ⟨129,aA,[(1,true,a),(3,true,b),(4,true,.ptr 300 v 0),(40,true,d)],[⟨150,1,B⟩,⟨300,v,ix w⟩]⟩ k=
 if T7 w=true then k .normal ⟨129,aA,[(1,true,a),(3,true,b),(4,true,.ptr 300 v 0),(54,true,.d (.bool false))],[⟨150,1,B⟩,⟨300,v,ix w⟩]⟩else R1:=by
 have O:=aqb w.ty;have A':=aaU w.ty;unfold T7;simp only[ix]at A;generalize uP w.ty Dh=T at*;generalize pN w.ty=Q at*;by_cases D:w.ty=1
 ·(simp only[D]at A⊢;simp[eX,f14];simp[D])
 ·by_cases E:w.ty=2
  ·(simp only[E]at A⊢;simp[eX,f14];simp[E])
  ·by_cases V:T=[]
   ·have q:=A'.1 V
    (simp[eX,f14];simp[O,D,E,V,q,A])
   ·have q:Q=true:=by cases Q with|true=>rfl|false=>exact absurd (A'.2 rfl) V
    (simp[eX,f14];simp[O,D,E,V,q,A])
theorem ajj{d:AV}:aK ctx 14 (eX [1,1,0,1,0,0,1,0,0,1,1,1,0]) ⟨129,aA,[(1,true,a),(3,true,b),(4,true,.ptr 300 v 0),(54,true,d)],[⟨150,1,B⟩,⟨300,v,ix w⟩]⟩ k=
 if T8 w=true then k .normal ⟨129,aA,[(1,true,a),(3,true,b),(4,true,.ptr 300 v 0),(93,true,.d (.bool false))],[⟨150,1,B⟩,⟨300,v,ix w⟩]⟩else R1:=by
 unfold T8;simp only[ix]at A;obtain⟨name,ty,sec,arr,lo,hi,init,line⟩:=w;simp only at A⊢;cases arr with
 |false=>
  by_cases D:lo=0
  ·by_cases E:hi=0
   ·(simp[eX,f14];simp[D,E,A])
   ·(simp only[D]at A;simp[eX,f14];simp[D,E,A])
  ·(simp[eX,f14];simp[D,A])
 |true=>
  by_cases D:2<ty
  ·have I:¬ty<=2:=by omega
   (simp[eX,f14];simp[D,I,A])
  ·have I:ty<=2:=by omega
   by_cases E:lo<0
   ·have U:¬0<=lo:=by omega
    (simp[eX,f14];simp[D,I,E,U,A])
   ·have U:0<=lo:=by omega
    by_cases H:hi<lo
    ·have Y:¬lo<=hi:=by omega
     (simp[eX,f14];simp[D,I,E,U,H,Y,A])
    ·have Y:lo<=hi:=by omega
     by_cases J:255<hi
     ·have M:¬hi<=255:=by omega
      (simp[eX,f14];simp[D,I,E,U,H,Y,J,M,A])
     ·have M:hi<=255:=by omega
      (simp[eX,f14];simp[D,I,E,U,H,Y,J,M,A])
theorem ajk{d:AV}:aK ctx 14 (eX [1,1,0,1,0,0,1,0,0,1,1,1,1]) ⟨129,aA,[(1,true,a),(3,true,b),(4,true,.ptr 300 v 0),(93,true,d)],[⟨150,1,B⟩,⟨300,v,ix w⟩]⟩ k=
 if Z9 w=true then k .normal ⟨129,aA,[(1,true,a),(3,true,b),(125,true,.d (.bool false))],[⟨150,1,B⟩,⟨300,v,ix w⟩]⟩else R1:=by
 unfold Z9;simp only[ix]at A;obtain⟨name,ty,sec,arr,lo,hi,init,line⟩:=w;simp only at A⊢;cases arr with
 |true=>
  by_cases E:init=0
  ·subst E;by_cases H:ty=2
   ·subst H;(simp[eX,f14];all_goals simp[A])
   ·(simp[eX,f14];all_goals simp[H,A])
  ·(simp[eX,f14];all_goals simp[E,A])
 |false=>
  by_cases D:2<ty
  ·have H:¬ty=2:=by omega
   have I:¬ty<=2:=by omega
   by_cases E:init=0
   ·subst E;(simp[eX,f14];all_goals simp[D,I,H,A])
   ·(simp[eX,f14];all_goals simp[D,I,E,H,A])
  ·have I:ty<=2:=by omega
   by_cases H:ty=2
   ·subst H;by_cases J:init<0
    ·have M:¬0<=init:=by omega
     (simp[eX,f14];all_goals simp[J,M,A])
    ·have M:0<=init:=by omega
     by_cases A0:1<init
     ·have y:¬init<=1:=by omega
      (simp[eX,f14];all_goals simp[J,M,A0,y,A])
     ·have Z:¬init= -9223372036854775808:=by omega
      have y:init<=1:=by omega
      (simp[eX,f14];all_goals simp[J,M,A0,y,Z,A])
   ·by_cases Z:init= -9223372036854775808
    ·subst Z;(simp[eX,f14];all_goals simp[D,I,H,A])
    ·(simp[eX,f14];all_goals simp[D,I,H,Z,A])
end
section
variable {w:Vr} {v:Nat} {k:Kt} {R1:bW} {a b:AV} {B:ax}
theorem ae9(Y:k .ret ⟨129,aA,[(2,true,.d (.bool false))],[⟨150,1,B⟩,⟨300,v,ix w⟩]⟩=R1):
 aK ctx 14 (eX [1,1,0,1,0,0,1,0,0,1]) ⟨129,aA,[(1,true,a),(3,true,b),(4,true,.ptr 300 v 0)],[⟨150,1,B⟩,⟨300,v,ix w⟩]⟩ k=
 if dA w=true then k .normal ⟨129,aA,[(1,true,a),(3,true,b),(125,true,.d (.bool false))],[⟨150,1,B⟩,⟨300,v,ix w⟩]⟩else R1:=by
 have A':eX [1,1,0,1,0,0,1,0,0,1]=Code.seq (eX [1,1,0,1,0,0,1,0,0,1,0]) (eX [1,1,0,1,0,0,1,0,0,1,1]):=rfl;have A0:eX [1,1,0,1,0,0,1,0,0,1,1]=Code.seq (eX [1,1,0,1,0,0,1,0,0,1,1,0]) (eX [1,1,0,1,0,0,1,0,0,1,1,1]):=rfl;have A1:eX [1,1,0,1,0,0,1,0,0,1,1,1]=Code.seq (eX [1,1,0,1,0,0,1,0,0,1,1,1,0]) (eX [1,1,0,1,0,0,1,0,0,1,1,1,1]):=rfl;have T:∀c,zb ctx 14 c k .ret ⟨129,aA,[(2,true,.d (.bool false))],[⟨150,1,B⟩,⟨300,v,ix w⟩]⟩=R1:=λ_=>Y;rw[ae7,A',fB,ajh (T _)];cases T6 w
 ·rw[aj0,aac acv,aac acv]
 rw[aal rfl,aka,iI,A0,fB,aji (T _)];cases T7 w
 ·rw[aj0,aac acv,aac acv]
 rw[aal rfl,aka,iI,A1,fB,ajj (T _)];cases T8 w
 ·rw[aj0,aac acv,aac acv]
 rw[aal rfl,aka,iI,ajk Y]
end
theorem M9(l:List Vr)(A2:l.length<=64)(A D:AV)(k:Kt)(R1 R2:bW)
 (H:∀v X,k .ret ⟨129,aA,[(2,true,.d (.bool false))],[⟨150,1,.box [A,.d (.list (l.map bm)),D]⟩,⟨300,v,X⟩]⟩=R1)
 (I:∀(b c:AV) v X,k (.exit 0) ⟨129,aA,[(1,true,.ptr 150 1 0),(3,true,b),(19,true,c)],[⟨150,1,.box [A,.d (.list (l.map bm)),D]⟩,⟨300,v,X⟩]⟩=R2):∀(rest pre:List Vr)(v:Nat)(X:ax),l=pre++rest->
 aK ctx 14 (.loop (eX [1,1,0,1,0,0])) ⟨129,aA,[(1,true,.ptr 150 1 0),(3,true,.d (.int .i64 pre.length))],[⟨150,1,.box [A,.d (.list (l.map bm)),D]⟩,⟨300,v,X⟩]⟩ k=if rest.all dA=true then R2 else R1
 |[],pre,v,X,E=>by
  have A3:pre.length=l.length:=by rw[E];simp
  rw[A3,ai];simp[eX,f14,I]
 |x::rest,pre,v,X,E=>by
  have A4:pre.length<l.length:=by rw[E];simp
  have A5:l[pre.length]=x:=by simp[E]
  have J:=λ(v:Nat) (a b:AV) (k:Kt)=>ae9 (w:=x) (v:=v) (a:=a) (b:=b) (k:=k) (B:=.box [A,.d (.list (l.map bm)),D]) rfl;have ih:∀v X,aK ctx 14 (.loop (eX [1,1,0,1,0,0])) ⟨129,aA,[(1,true,.ptr 150 1 0),(3,true,.d (.int .i64 (pre.length+1)))],[⟨150,1,.box [A,.d (.list (l.map bm)),D]⟩,⟨300,v,X⟩]⟩ k=if rest.all dA=true then R2 else R1:=λv X=>by
   have:=M9 l A2 A D k R1 R2 H I rest (pre++[x]) v X (by simp[E]);simpa using this
  have A6:IntKind.i64.wrap ((pre.length:Int)+1)=(pre.length:Int)+1:=aE (by unfold aG;omega);rw[ajW];generalize dA x=N at*;generalize rest.all dA=M at*;rw[ai];simp[eX,f14]at J ih⊢;simp[A4,A5,bm,dj];simp[J];cases N<;>simp[H,A6,ih]
theorem afa{p:Pg}(J:p.body.length<100000000)(A7:kZ p.body):ah ctx 14 [.d (.agg [.str p.name,.list (p.vars.map bm),.list (p.body.map cG)])] []=some (.ret (.d (.bool (sY p))),[]):=by
 have U:=ed p.name;have Z:=WC J A7;unfold KS at Z;rw[aiL (by simp)];unfold sY;generalize cL p.name=N at*;generalize ga p.body=M at*;cases N with
 |false=>simp[f14,U]
 |true=>
  by_cases q:64<p.vars.length
  ·have V:(64:Int)<p.vars.length:=by omega
   have O:¬p.vars.length<=64:=by omega
   simp[f14,U,q,V,O]
  ·have V:¬(64:Int)<p.vars.length:=by omega
   have O:p.vars.length<=64:=by omega
   have y:=λA D k R1 R2 H I v X=>M9 p.vars O A D k R1 R2 H I p.vars [] v X rfl;generalize p.vars.all dA=Q at*;simp[eX,f14]at y;simp[f14,U,q,V,O];rw[y _ _ _ (some (.ret (.d (.bool false)),[])) (some (.ret (.d (.bool M)),[]))]
   ·cases Q<;>simp
   ·intro v X;simp
   ·intro b c v X;simp[Z]
def SE(l:List Ex):Prop:=∀most:Int,∃n d:Int,ah ctx 108 [.d (.list (l.map du)),.d (.int .i64 most)] []=some (.ret (.bM [.d (.int .i64 n),.d (.int .i64 d)]),[])
theorem Na(l:List Ex)(E:l.length<100000000)(J:∀x∈l,SE (cQ x))(most:Int)(k:Kt)(Q:bW->Prop)
 (H:∀(n d:Int)(b c:AV),Q (k (.exit 0) ⟨44,aA,[(0,true,.d (.list (l.map du))),(1,true,.d (.int .i64 most)),(6,true,.d (.int .i64 n)),(7,true,.d (.int .i64 d)),(8,true,b),(19,true,c)],[]⟩)):∀(rest pre:List Ex)(n d:Int),l=pre++rest->
 Q (aK ctx 108 (.loop (Code.at (bq f108) [1,1,0,1,0,0])) ⟨44,aA,[(0,true,.d (.list (l.map du))),(1,true,.d (.int .i64 most)),(6,true,.d (.int .i64 n)),(7,true,.d (.int .i64 d)),(8,true,.d (.int .i64 pre.length))],[]⟩ k)
 |[],pre,n,d,D=>by
  have O:pre.length=l.length:=by rw[D];simp
  rw[O,ai];simp[f108,H]
 |x::rest,pre,n,d,D=>by
  have M:pre.length<l.length:=by rw[D];simp
  have T:l[pre.length]=x:=by simp[D]
  obtain⟨m,V,hm⟩:=J x (by rw[D];simp) (IntKind.i64.wrap (most-n));have ih:∀n d,Q (aK ctx 108 (.loop (Code.at (bq f108) [1,1,0,1,0,0])) ⟨44,aA,[(0,true,.d (.list (l.map du))),(1,true,.d (.int .i64 most)),(6,true,.d (.int .i64 n)),(7,true,.d (.int .i64 d)),(8,true,.d (.int .i64 (pre.length+1)))],[]⟩ k):=λn d=>by
   have:=Na l E J most k Q H rest (pre++[x]) n d (by simp[D]);simpa using this
  have U:IntKind.i64.wrap ((pre.length:Int)+1)=(pre.length:Int)+1:=aE (by unfold aG;omega);rw[ai];by_cases N:n<=most
  ·simp[f108]at ih⊢;simp[M,T,N,aZ,hm,U,ih]
  ·simp[f108];simp[M,N,H]
theorem afc{l:List Ex}(E:l.length<100000000)(J:∀x∈l,SE (cQ x)):SE l:=by
 intro most;have h:=λk Q H=>Na l E J most k Q H l [] 0 0 rfl;rw[adQ (by simp)];simp[f108]at h⊢;apply h _ (λA=>∃n d:Int,A=some (.ret (.bM [.d (.int .i64 n),.d (.int .i64 d)]),[]));intro n d b c;simp
mutual
theorem aqc:∀x:Ex,vE x->SE (cQ x)
 | .mk op nn name field sub line,h=>by
  simp only[vE]at h;exact afc h.1.2.2 (QD sub h.2)
theorem QD:∀l:List Ex,oq l->∀x∈l,SE (cQ x)
 |[],_,x,I=>by simp at I
 |y::r,h,x,I=>by
  simp only[oq]at h;rcases aak.1 I with e|I
  ·rw[e];exact aqc y h.1
  ·exact QD r h.2 x I
end
theorem Ua{l:List Ex}(E:l.length<100000000)(h:oq l):SE l:=afc E (QD l h)
@[reducible] noncomputable def kj(p:List Nat):Code:=Code.at (bq f65) p
def SS(l:List Sm):Prop:=∀most:Int,∃n d:Int,ah ctx 65 [.d (.list (l.map cG)),.d (.int .i64 most)] []=some (.ret (.bM [.d (.int .i64 n),.d (.int .i64 d)]),[])
section
variable {x:Sm} {v:Nat} {k:Kt} {Q:bW->Prop} {a b:AV} {most:Int}
theorem ssA(A:SE [fq x,dk x])(D:SE (bV x))(n d:Int)
 (E:∀(n d:Int)(I J M N:AV),Q (k .normal ⟨136,aA,[(0,true,a),(1,true,.d (.int .i64 most)),(6,true,.d (.int .i64 n)),(7,true,.d (.int .i64 d)),(8,true,b),(9,true,.ptr 550 v 0),(42,true,I),(43,true,J),(44,true,M),(45,true,N)],[⟨550,v,bg x⟩]⟩)):
 Q (aK ctx 65 (kj [1,1,0,1,0,0,1,0,0,1,1,0]) ⟨136,aA,[(0,true,a),(1,true,.d (.int .i64 most)),(6,true,.d (.int .i64 n)),(7,true,.d (.int .i64 d)),(8,true,b),(9,true,.ptr 550 v 0)],[⟨550,v,bg x⟩]⟩ k):=by
 unfold SE at A D;simp[aZ]at A;have H:IntKind.i64.wrap 1=1:=by decide
 have O:IntKind.i64.wrap 2=2:=by decide
 have T:List.range' 0 2=[0,1]:=rfl;simp only[bg]at E;obtain⟨m,Y,hm⟩:=A (IntKind.i64.wrap (most-n));simp[kj,f65,T];rw[ai];simp[hm,H];generalize IntKind.i64.wrap (n+m)=U;obtain⟨Z,d2,V⟩:=D (IntKind.i64.wrap (most-U));rw[ai];simp[V,H,O];rw[ai];simp[E]
end
section
variable {x:Sm} {v:Nat} {k:Kt} {Q:bW->Prop} {a b:AV} {most:Int}
theorem ssB(n d:Int)(I J A3 A4:AV)
 (D:∀(n:Int),Q (k .normal ⟨136,aA,[(0,true,a),(1,true,.d (.int .i64 most)),(6,true,.d (.int .i64 n)),(7,true,.d (.int .i64 d)),(8,true,b),(9,true,.ptr 550 v 0)],[⟨550,v,bg x⟩]⟩)):
 Q (aK ctx 65 (kj [1,1,0,1,0,0,1,0,0,1,1,1,0]) ⟨136,aA,[(0,true,a),(1,true,.d (.int .i64 most)),(6,true,.d (.int .i64 n)),(7,true,.d (.int .i64 d)),(8,true,b),(9,true,.ptr 550 v 0),(42,true,I),(43,true,J),(44,true,A3),(45,true,A4)],[⟨550,v,bg x⟩]⟩ k):=by
 simp only[bg]at D;simp[kj,f65];apply D
theorem IA(U:(cq x).length<100000000)(d:Int)
 (D:∀(n:Int)(I J:AV),Q (k (.exit 4) ⟨136,aA,[(0,true,a),(1,true,.d (.int .i64 most)),(6,true,.d (.int .i64 n)),(7,true,.d (.int .i64 d)),(8,true,b),(9,true,.ptr 550 v 0),(14,true,I),(88,true,J)],[⟨550,v,bg x⟩]⟩)):∀(rest pre:List (List Int))(n:Int),cq x=pre++rest->
 Q (aK ctx 65 (.loop (kj [1,1,0,1,0,0,1,0,0,1,1,1,1,0,1,0,0])) ⟨136,aA,[(0,true,a),(1,true,.d (.int .i64 most)),(6,true,.d (.int .i64 n)),(7,true,.d (.int .i64 d)),(8,true,b),(9,true,.ptr 550 v 0),(14,true,.d (.int .i64 pre.length))],[⟨550,v,bg x⟩]⟩ k)
 |[],pre,n,E=>by
  have Z:pre.length=(cq x).length:=by rw[E];simp
  simp only[bg]at D;rw[Z,ai];simp[kj,f65,D]
 |c::rest,pre,n,E=>by
  have O:pre.length<(cq x).length:=by rw[E];simp
  have q:(cq x)[pre.length]=c:=by simp[E]
  have ih:=λn=>IA U d D rest (pre++[c]) n (by simp[E]);have A':IntKind.i64.wrap ((pre.length:Int)+1)=(pre.length:Int)+1:=aE (by unfold aG;omega);simp only[bg]at D;rw[ai];by_cases T:n<=most
  ·simp[kj,f65]at ih⊢;simp[O,q,T,gX,A'];apply ih
  ·simp[kj,f65];simp[O,T,D]
theorem IB(U:(aV x).length<100000000)(M:∀c∈aV x,SS c)
 (D:∀(n d:Int)(I J:AV),Q (k (.exit 6) ⟨136,aA,[(0,true,a),(1,true,.d (.int .i64 most)),(6,true,.d (.int .i64 n)),(7,true,.d (.int .i64 d)),(8,true,b),(9,true,.ptr 550 v 0),(15,true,I),(111,true,J)],[⟨550,v,bg x⟩]⟩)):∀(rest pre:List (List Sm))(n d:Int),aV x=pre++rest->
 Q (aK ctx 65 (.loop (kj [1,1,0,1,0,0,1,0,0,1,1,1,1,1,1,0,0])) ⟨136,aA,[(0,true,a),(1,true,.d (.int .i64 most)),(6,true,.d (.int .i64 n)),(7,true,.d (.int .i64 d)),(8,true,b),(9,true,.ptr 550 v 0),(15,true,.d (.int .i64 pre.length))],[⟨550,v,bg x⟩]⟩ k)
 |[],pre,n,d,E=>by
  have Z:pre.length=(aV x).length:=by rw[E];simp
  simp only[bg]at D;rw[Z,ai];simp[kj,f65,D]
 |c::rest,pre,n,d,E=>by
  have O:pre.length<(aV x).length:=by rw[E];simp
  have q:(aV x)[pre.length]=c:=by simp[E]
  have ih:=λn d=>IB U M D rest (pre++[c]) n d (by simp[E]);obtain⟨m,AF,hm⟩:=M c (by rw[E];simp) (IntKind.i64.wrap (most-n));have A':IntKind.i64.wrap ((pre.length:Int)+1)=(pre.length:Int)+1:=aE (by unfold aG;omega);simp only[bg]at D;rw[ai];by_cases T:n<=most
  ·simp[kj,f65]at ih⊢;simp[O,q,T,oK,hm,A'];apply ih
  ·simp[kj,f65];simp[O,T,D]
theorem afd(H:tV x)(M:∀c∈aV x,SS c)(n d:Int)
 (D:∀(n d:Int)(I J:AV),Q (k .normal ⟨136,aA,[(0,true,a),(1,true,.d (.int .i64 most)),(6,true,.d (.int .i64 n)),(7,true,.d (.int .i64 d)),(8,true,b),(9,true,.ptr 550 v 0),(15,true,I),(111,true,J)],[⟨550,v,bg x⟩]⟩)):
 Q (aK ctx 65 (kj [1,1,0,1,0,0,1,0,0,1,1]) ⟨136,aA,[(0,true,a),(1,true,.d (.int .i64 most)),(6,true,.d (.int .i64 n)),(7,true,.d (.int .i64 d)),(8,true,b),(9,true,.ptr 550 v 0)],[⟨550,v,bg x⟩]⟩ k):=by
 obtain⟨A7,A8,⟨V,A9⟩,⟨AA,AG⟩,AH,AB⟩:=H;have AC:kj [1,1,0,1,0,0,1,0,0,1,1]=Code.seq (kj [1,1,0,1,0,0,1,0,0,1,1,0]) (kj [1,1,0,1,0,0,1,0,0,1,1,1]):=rfl;have AD:kj [1,1,0,1,0,0,1,0,0,1,1,1]=Code.seq (kj [1,1,0,1,0,0,1,0,0,1,1,1,0]) (kj [1,1,0,1,0,0,1,0,0,1,1,1,1]):=rfl;rw[AC,fB];apply ssA (Ua (l:=[fq x,dk x]) (by simp) ⟨A7,A8,trivial⟩) (Ua V A9);intro n d I J A3 A4;rw[iI,AD,fB];apply ssB;intro n;rw[iI];have A5:=λk Q D=>IA (a:=a) (b:=b) (v:=v) (most:=most) (k:=k) (Q:=Q) AA d D (cq x) [] n rfl;simp[kj,f65]at A5⊢;apply A5;intro n I J;have A6:=λk Q D=>IB (a:=a) (b:=b) (v:=v) (most:=most) (k:=k) (Q:=Q) AB M D (aV x) [] n d rfl;simp[kj,f65]at A6⊢;apply A6;intro n d I J;simp only[bg]at D;simp[D]
end
theorem Nb(l:List Sm)(A0:l.length<100000000)(A1:∀x∈l,tV x)(M:∀x∈l,∀c∈aV x,SS c)(most:Int)(k:Kt)(Q:bW->Prop)
 (N:∀(n d:Int)(b c:AV) v X,Q (k (.exit 0) ⟨136,aA,[(0,true,.d (.list (l.map cG))),(1,true,.d (.int .i64 most)),(6,true,.d (.int .i64 n)),(7,true,.d (.int .i64 d)),(8,true,b),(26,true,c)],[⟨550,v,X⟩]⟩)):∀(rest pre:List Sm)(n d:Int)(v:Nat)(X:ax),l=pre++rest->
 Q (aK ctx 65 (.loop (kj [1,1,0,1,0,0])) ⟨136,aA,[(0,true,.d (.list (l.map cG))),(1,true,.d (.int .i64 most)),(6,true,.d (.int .i64 n)),(7,true,.d (.int .i64 d)),(8,true,.d (.int .i64 pre.length))],[⟨550,v,X⟩]⟩ k)
 |[],pre,n,d,v,X,E=>by
  have Z:pre.length=l.length:=by rw[E];simp
  rw[Z,ai];simp[kj,f65,N]
 |x::rest,pre,n,d,v,X,E=>by
  have O:pre.length<l.length:=by rw[E];simp
  have q:l[pre.length]=x:=by simp[E]
  have hm:x∈l:=by rw[E];simp
  have Y:=λ(v:Nat) (a b:AV) (k:Kt) (Q:bW->Prop) (n d:Int)=>afd (v:=v) (a:=a) (b:=b) (most:=most) (k:=k) (Q:=Q) (A1 x hm) (M x hm) n d;have ih:=λn d v X=>Nb l A0 A1 M most k Q N rest (pre++[x]) n d v X (by simp[E]);have A':IntKind.i64.wrap ((pre.length:Int)+1)=(pre.length:Int)+1:=aE (by unfold aG;omega);rw[ai];by_cases T:n<=most
  ·simp[kj,f65]at Y ih⊢;simp[O,q,T,cu];apply Y;intro n d I J;simp[A',ih]
  ·simp[kj,f65];simp[O,T,N]
theorem afe{l:List Sm}(A0:l.length<100000000)(A1:∀x∈l,tV x)(M:∀x∈l,∀c∈aV x,SS c):SS l:=by
 intro most;have h:=λk Q N v X=>Nb l A0 A1 M most k Q N l [] 0 0 v X rfl;rw[ai2 (by simp)];simp[kj,f65]at h⊢;apply h _ (λA=>∃n d:Int,A=some (.ret (.bM [.d (.int .i64 n),.d (.int .i64 d)]),[]));intro n d b c v X;simp
mutual
theorem aqd:∀x:Sm,FI x->tV x/\∀c∈aV x,SS c
 | .mk op name to val AI AJ fields AE line,h=>by
  have h:=(QC _).1 h;exact⟨h.1,aab AE h.2⟩
theorem Gr:∀l:List Sm,kZ l->∀x∈l,tV x/\∀c∈aV x,SS c
 |[],_,x,H=>by simp at H
 |y::r,h,x,H=>by
  simp only[kZ]at h;have A2:=aqd y h.1;have N:=Gr r h.2;rcases aak.1 H with e|H
  ·rw[e];exact A2
  ·exact N x H
theorem aab:∀l:List (List Sm),pr l->∀c∈l,SS c
 |[],_,c,V=>by simp at V
 |b::r,h,c,V=>by
  simp only[pr]at h;have A2:=Gr b h.1.2;have N:=aab r h.2;rcases aak.1 V with e|V
  ·rw[e];exact afe h.1.1 (λx H=>(A2 x H).1) (λx H=>(A2 x H).2)
  ·exact N c V
end
theorem aff{l:List Sm}(A0:l.length<100000000)(h:kZ l):SS l:=
 afe A0 (λx H=>(Gr l h x H).1) (λx H=>(Gr l h x H).2)
theorem afg{p:Pg}(Y:p.body.length<100000000)(U:kZ p.body)(most:Int):∃n d:Int,ah ctx 34 [.d (.agg [.str p.name,.list (p.vars.map bm),.list (p.body.map cG)]),.d (.int .i64 most)] []=some (.ret (.bM [.d (.int .i64 n),.d (.int .i64 d)]),[]):=by
 obtain⟨n,d,h⟩:=aff Y U most;rw[aiP (by simp)];simp[f34,h]
theorem aaV{p:Pg}(Y:p.body.length<100000000)(U:kZ p.body):∃B:Bool,ah ctx 13 [.d (.agg [.str p.name,.list (p.vars.map bm),.list (p.body.map cG)])] []=some (.ret (.d (.bool B)),[]):=by
 obtain⟨n,d,h⟩:=afg Y U 2000;rw[aiK (by simp)];simp[f13,h]
end Go.Am
end
section
namespace Go.Am
open Go Go.ChangeShapes Go.WideShapes Go.RowKit
def Ap(P:Program)(ok:TypeId->Bool):List Field->Nat->Nat->Bool
 |[],o,M=>o == M
 |f::r,o,M=>f.offset == o&&ok f.type&&Ap P ok r (o+P.cellsOf f.type) M
def typed(P:Program):Nat->TypeId->D->Prop
 |0,_,_=>False
 |n+1,t,d=>match P.underlying t with
  |some .bool=>∃b,d=.bool b
  |some (.int k)=>∃z,d=.int k z/\(Lit.int k z).wf=true
  |some .string=>∃s,d=.str s/\s.length<=maxLen
  |some (.slice e)=>∃xs,d=.list xs/\xs.length<=maxLen/\∀x∈xs,typed P n e x
  |some (.struct T)=>∃N:List D,d=.agg (N.flatMap D.cells)/\N.length=T.size/\∀(i:Nat)(f:Field)(y:D),T[i]?=some f->N[i]?=some y->typed P n f.type y
  |_=>False
def Reads(w:World)(F:Nat->Prop)(d:D)(cs:List Value):Prop:=
 d.cells.length=cs.length/\(∀u∈cs,b9 u=true)/\∀(i:Nat) c u,d.cells[i]?=some c->cs[i]?=some u->aI w F c u/\c.flat=true
theorem Reads.one{w F d v}(h:aI w F d v)(O:d.flat=true)(E:d.cells=[d]):Reads w F d [v]:=by
 refine⟨by rw[E];rfl,λu hu=>?_,λi c u A I=>?_⟩
 ·simp at hu;subst hu;exact h.one O
 ·rw[E]at A;cases i with
  |zero=>simp at A I;subst A;subst I;exact⟨h,O⟩
  |succ i=>simp at A
def shaped(d:D)(cs:List Value):Value:=
 match d with
 | .agg _=>.agg cs.toArray
 |_=>cs.headD undef
theorem Reads.rel{w F d cs}(h:Reads w F d cs):aI w F d (shaped d cs):=by
 obtain⟨A,I,J⟩:=h;have key:d.flat=true->d.cells=[d]->aI w F d (cs.headD undef):=by
  intro O E;rw[E]at A J;match cs,A with
  |[u],_=>exact (J 0 d u rfl rfl).1
 cases d with
 |agg U=>exact aI.nt A I (λi c v E V=>(J i c v E V).1)
 |_=>exact key rfl rfl
theorem Reads.IC{w F d cs}(h:Reads w F d cs):(shaped d cs).cells.toList=cs:=by
 obtain⟨A,I,J⟩:=h;have key:d.cells=[d]->(cs.headD undef).cells.toList=cs:=by
  intro E;rw[E]at A;match cs,A,I with
  |[u],_,I=>simp only[List.headD];rw[dC (I u (by simp))]
 cases d with
 |agg U=>simp[shaped,Value.cells]
 |_=>exact key rfl
theorem Di{w:World}{base:Nat}{a:Addr}{n:Nat}{cs:List Value}(h:w.cells? base a n=some cs):cs.length=n/\∀j,j<n->w.cell? (a.add j)=cs[j]?:=by
 unfold World.cells? at h;split at h
 ·exact⟨by simpa using mapM_some_length h,λj Y=>mapM_some_get h j j (by simp[Y])⟩
 ·cases h
theorem add_add{b off n j:Nat}:(Addr.add (Addr.add ⟨b,off,none⟩ n) j)=⟨b,off+n+j,none⟩:=by
 unfold Addr.add;split<;>split<;>simp_all
theorem BN{w:World}{a:Addr}{c:Value}(h:w.cell? a=some c):a.block<w.heap.size/\a.spot=none:=by
 unfold World.cell? at h;split at h
 ·rename_i hh;refine⟨(acs.1 hh).1,?_⟩;split at h
  ·cases h
  ·rename_i Z;simpa using Z
 ·cases h
section
variable {H:Type} {enc:TypeId×Value->H} {P:Program} {w:World} {base:Nat} {sp:Nat->Bool} {held:Bool}
end
section
variable {H:Type} {enc:TypeId×Value->H} {P:Program} {w:World} {base:Nat} {sp:Nat->Bool} {held:Bool}
theorem xN(T:laidOutB P=true){W V:World}(A:Below W.heap.size W V):∀{A3:List TypeId}{vs:List Value}{E:List (DataW H)}{ps:List MemPlace},DataW.TrodAll enc P W 0 (λ_=>true) true A3 vs E ps->
 (∀t∈A3,P.readableRec t=true/\t<P.types.size)->(∀x∈ps,x.block<W.heap.size)->DataW.TrodAll enc P V 0 (λb=>decide (b<W.heap.size)) true A3 vs E ps
 |[],[],[],_,h,_,_=>h
 |t::A3,v::vs,d::E,ps,h,A4,A8=>by
  obtain⟨p,q,J,Y,rfl⟩:=h;exact⟨p,q,Below.trod T (A4 t (by simp)).1 (A4 t (by simp)).2 J A (λx M=>A8 x (by simp[M])),xN T A Y (λt I=>A4 t (by simp[I])) (λx M=>A8 x (by simp[M])),rfl⟩
 |[],_::_,_,_,h,_,_=>by cases h
 |[],[],_::_,_,h,_,_=>by cases h
 |_::_,[],_,_,h,_,_=>by cases h
 |_::_,_::_,[],_,h,_,_=>by cases h
end
section
variable {P:Program} {n:Nat} {t:TypeId} {d:D}
def Aq(P:Program)(n:Nat):List Field->List D->Prop
 |[],E=>E=[]
 |f::r,E=>∃y A9,typed P n f.type y/\Aq P n r A9/\E=y.cells++A9
theorem Dj:∀{O:List Field}{U:List D},U.length=O.length->(∀(i:Nat)(f:Field)(y:D),O[i]?=some f->U[i]?=some y->typed P n f.type y)->Aq P n O (U.flatMap D.cells)
 |[],[],_,_=>rfl
 |f::O,y::U,h,AA=>⟨y,U.flatMap D.cells,AA 0 f y rfl rfl,Dj (by simpa using h) (λi f y J Y=>AA (i+1) f y (by simpa using J) (by simpa using Y)),by simp⟩
theorem Ub{k:IntKind}(I:P.underlying t=some (.int k))(h:typed P (n+1) t d):∃z,d=.int k z/\(Lit.int k z).wf=true:=by simpa only[typed,I]using h
theorem QE(I:P.underlying t=some .bool)(h:typed P (n+1) t d):∃b,d=.bool b:=by simpa only[typed,I]using h
theorem ID(I:P.underlying t=some .string)(h:typed P (n+1) t d):∃s,d=.str s/\s.length<=maxLen:=by simpa only[typed,I]using h
theorem J3{e:TypeId}(I:P.underlying t=some (.slice e))(h:typed P (n+1) t d):∃xs,d=.list xs/\xs.length<=maxLen/\∀x∈xs,typed P n e x:=by simpa only[typed,I]using h
theorem IE{O:Array Field}(I:P.underlying t=some (.struct O))(h:typed P (n+1) t d):∃E,d=.agg E/\Aq P n O.toList E:=by
 simp only[typed,I]at h;obtain⟨U,rfl,J,Y⟩:=h;exact⟨_,rfl,Dj (by simpa using J) (λi f y AC AD=>Y i f y (by simpa using AC) AD)⟩
end
def afi(X:Ctx):Bool:=
 (List.range X.P.funcs.size).all (λg=>match X.P.funcs[g]? with|some fn=>fn.name != "runtime.NumGoroutine" &&(match fn.body with|some c=>dQ X g fn.ntmps c|none=>true)|none=>true)&&X.P.follows .mixedOrders&&X.ov.isNone
def pO(X:Ctx)(g:FuncId)(h:List AV->Option AV):Prop:=fW X.P g=true/\∀(Z:List AV)(a:AV),h Z=some a->∀(φ:bE)(F:Nat->Prop)(w:World)(vs:Array Value),ec w F X.gl->(∀b,F b->b<w.heap.size)->Z.length=vs.size->
 (∀(i:Nat) x v,Z[i]?=some x->vs[i]?=some v->az φ w F x v)->Calls X.P g vs w λe w'=>∃v,e=.returned v/\Below w.heap.size w w'/\az φ w' F a v
theorem pO.lift{X:Ctx}{g:FuncId}{h:List D->Option D}(hh:fW X.P g=true/\∀(E:List D) (d:D),h E=some d->∀(F:Nat->Prop) (w:World) (vs:Array Value),ec w F X.gl->(∀b,F b->b<w.heap.size)->E.length=vs.size->
 (∀(i:Nat) x v,E[i]?=some x->vs[i]?=some v->aI w F x v)->Calls X.P g vs w λe w'=>∃v,e=.returned v/\Below w.heap.size w w'/\aI w' F d v):pO X g (na h):=by
 refine⟨hh.1,λZ a A' φ F w vs AE AF T A5=>?_⟩;unfold na at A';cases A6:toDs Z with
 |none=>rw[A6]at A';cases A'
 |some E=>
  rw[A6]at A';obtain⟨d,A7,rfl⟩:=aaf.1 A';have he:=toDs_eq A6;subst he;refine (hh.2 E d A7 F w vs AE AF (by simpa using T) (λi x v M A0=>?_)).mono ?_
  ·have:=A5 i (.d x) v (by simp[M]) A0;cases this with|d _ _ h=>exact h
  ·rintro e w' ⟨v,rfl,A,A0⟩;exact⟨v,rfl,A,.d _ _ A0⟩
theorem jl.of{X:Ctx}(h:afi X=true)(A1:∀g h,X.vh g=some h->pO X g h):jl X:=by
 simp only[afi,Ds,abN,ab3]at h;have key:∀(g:FuncId)(fn:Func),X.P.funcs[g]?=some fn->fn.name≠ "runtime.NumGoroutine" /\(match fn.body with|some c=>dQ X g fn.ntmps c|none=>true)=true:=by
  intro g fn N;have J:=h.1.1 g (acs.1 N).1;rw[N]at J;simpa using J
 refine⟨by simpa using h.2,λg fn N=>(key g fn N).1,λg fn c N A=>?_,h.1.2,A1⟩;have:=(key g fn N).2;rw[A]at this;exact this
theorem uR{α:Type}{f:α->D}:∀{xs:List D},(∀x∈xs,∃r,x=f r)->∃rs:List α,xs=rs.map f
 |[],_=>⟨[],rfl⟩
 |x::xs,h=>by
  obtain⟨r,rfl⟩:=h x (by simp);obtain⟨rs,rfl⟩:=uR (xs:=xs) (λy AG=>h y (by simp[AG]));exact⟨r::rs,rfl⟩
def fr0:Fr:=⟨λ_=>False,[]⟩
theorem Uc{X:Ctx}(AH:jl X){f:FuncId}{b:Bool}{xs:List D}(AI:ah X f (xs.map .d) []=some (.ret (.d (.bool b)),[])){W:World}{args:Array Value}(T:xs.length=args.size)
 (A5:∀(i:Nat) x v,xs[i]?=some x->args[i]?=some v->aI W (λ_=>False) x v) (N:ec W (λ_=>False) X.gl):
 Calls X.P f args W λe V=>e=.returned (.bool b)/\Below W.heap.size W V:=by
 have h:=(VN AH f _ _ _ _ AI).2;have AB:∀b,Fo fr0 (λ_=>none) (dq 0 []) b->False:=by
  intro b A;rcases A with A|⟨e,he,_⟩
  ·exact A
  ·simp[dq]at he
 refine (h (λ_=>none) fr0 W args ⟨by simp[dq],λk L AJ=>by simp at AJ,λe he=>by simp[dq]at he,λe he=>by simp[dq]at he,λb ⟨e,he,_⟩=>by simp[dq]at he,λb A=>A.elim⟩
  (N.mono (λ_ _ _=>rfl) (aae _) (λb _ A=>AB b A)) (by simpa using T) (λi x v M A0=>?_)).mono ?_
 ·simp only[acm,aaf]at M;obtain⟨d,A7,rfl⟩:=M;exact .d d v ((A5 i d v A7 A0).mono (λ_ _ _=>rfl) (aae _) (λb _ A=>AB b A))
 ·rintro e V ⟨φ',m',out,⟨rfl,rfl⟩,hm,A2,A1⟩;refine⟨?_,A2.os,A2.tape,A2.output,A2.size,λk AK=>A2.xU k AK (λ⟨e,he,_⟩=>by simp[dq]at he)⟩;cases e with
  |returned v=>
   simp only[mL]at A1;cases A1 with
   |d x v h=>cases h;rfl
  |_=>exact A1.elim
section
variable {H:Type} {enc:TypeId×Value->H}
end
def zE(P:Program)(L:List TypeId):Bool:=L.all λt=>match P.underlying t with
 |some .bool|some (.int _)|some .string=>P.cellsOf t == 1
 |some (.slice e)=>P.cellsOf t == 1&&L.contains e&&decide (1<=P.cellsOf e)
 |some (.struct A)=>Ap P (λt=>L.contains t) A.toList 0 (P.cellsOf t)
 |_=>false
theorem FK{P:Program}{L:List TypeId}{t:TypeId}(h:zE P L=true)(D:L.contains t=true):(match P.underlying t with
 |some .bool|some (.int _)|some .string=>P.cellsOf t == 1
 |some (.slice e)=>P.cellsOf t == 1&&L.contains e&&decide (1<=P.cellsOf e)
 |some (.struct A)=>Ap P (λt=>L.contains t) A.toList 0 (P.cellsOf t)
 |_=>false)=true:=abN.1 h t (by simpa using D)
section
variable {H:Type} {enc:TypeId×Value->H} {P:Program} {w:World} {base:Nat} {sp:Nat->Bool} {held:Bool}
end
section
variable {H:Type} {enc:TypeId×Value->H}
end
mutual
def iN:D->Nat
 | .str s=>s.length+1
 | .list xs=>ee xs+1
 | .agg cs=>ee cs+1
 |_=>1
def ee:List D->Nat
 |[]=>0
 |x::r=>iN x+ee r
end
mutual
def gG{H:Type}:DataW H->Nat
 | .lit (.string bytes)=>bytes.length+1
 | .slice elems _=>fG elems+1
 | .agg parts=>fG parts+1
 |_=>1
def fG{H:Type}:List (DataW H)->Nat
 |[]=>0
 |d::r=>gG d+fG r
end
theorem BO:∀l r:List D,ee (l++r)=ee l+ee r
 |[],r=>by simp[ee]
 |x::l,r=>by simp[ee,BO l r,ack]
theorem QF(x:D):ee x.cells<=iN x:=by
 cases x<;>simp[D.cells,ee,iN]
theorem afj(x:D):1<=iN x:=by cases x<;>simp[iN]
theorem nq:∀l:List D,l.length<=ee l
 |[]=>by simp
 |x::r=>by have:=nq r;have:=afj x;simp only[ee,ab2];omega
theorem IF:∀{l:List D}{x:D},x∈l->iN x<=ee l
 |y::r,x,h=>by
  rcases aak.1 h with rfl|h
  ·simp only[ee];omega
  ·have:=IF h;simp only[ee];omega
theorem Nc{H:Type}:∀(l:List D)(M:List (DataW H)),l.length=M.length->(∀(i:Nat) x d,l[i]?=some x->M[i]?=some d->iN x<=gG d)->ee l<=fG M
 |[],[],_,_=>aae _
 |x::l,d::M,h,hi=>by
  have N:=hi 0 x d rfl rfl;have A0:=Nc l M (by simpa using h) (λi y e T he=>hi (i+1) y e (by simpa using T) (by simpa using he));simp only[ee,fG];omega
 |[],_::_,h,_=>by simp at h
 |_::_,[],h,_=>by simp at h
theorem xO{H:Type}{P:Program}{w:World}{F:Nat->Prop}{n:Nat}{cs:List Value}{ok:TypeId->Bool}:∀(A1:List Field)(ws:List (DataW H))(o:Nat),Ap P ok A1 o cs.length=true->ws.length=A1.length->
 (∀(i:Nat) f e,A1[i]?=some f->ws[i]?=some e->ok f.type=true->∃d,typed P n f.type d/\Reads w F d ((cs.drop f.offset).take (P.cellsOf f.type))/\d.cells.length=P.cellsOf f.type/\iN d<=gG e)->
 ∃V:List D,V.length=A1.length/\(∀(i:Nat)(f:Field)(y:D),A1[i]?=some f->V[i]?=some y->typed P n f.type y)/\o<=cs.length/\Reads w F (.agg (V.flatMap D.cells)) (cs.drop o)/\ee (V.flatMap D.cells)<=fG ws
 |[],[],o,A,_,_=>by
  simp only[Ap,beq_iff_eq]at A;subst A;exact⟨[],rfl,λi f y Z=>by simp at Z,aae _,⟨by simp[D.cells],by simp,λi c u N=>by simp[D.cells]at N⟩,by simp[ee,fG]⟩
 |f::r,e::ws,o,A,hw,Z=>by
  simp only[Ap,Ds,beq_iff_eq]at A;obtain⟨⟨rfl,AF⟩,AG⟩:=A;obtain⟨V,N,A0,O,J,A2⟩:=xO r ws _ AG (by simpa using hw) (λi AH e' hi he=>Z (i+1) AH e' (by simpa using hi) (by simpa using he));obtain⟨d,Y,A5,A3,A8⟩:=Z 0 f e rfl rfl AF;refine⟨d::V,by simp[N],λi AH y hi T=>?_,by omega,?_,?_⟩
  ·cases i with
   |zero=>simp at hi T;subst hi;subst T;exact Y
   |succ i=>simp at hi T;exact A0 i AH y hi T
  ·have Ac:cs.drop f.offset=(cs.drop f.offset).take (P.cellsOf f.type)++cs.drop (f.offset+P.cellsOf f.type):=by
    rw[<-ak3,ak4]
   obtain⟨AT,a2,a3⟩:=A5;obtain⟨Ad,Ae,Af⟩:=J;have Ag:(D.agg ((d::V).flatMap D.cells)).cells=d.cells++(D.agg (V.flatMap D.cells)).cells:=by simp[D.cells]
   rw[Ac];unfold Reads;rw[Ag];refine⟨by simp only[ab1,AT,Ad],λu hu=>?_,λi c u A4 hu=>?_⟩
   ·rcases abO.1 hu with hu|hu
    ·exact a2 u hu
    ·exact Ae u hu
   ·by_cases hi:i<d.cells.length
    ·rw[aao hi]at A4;rw[aao (by omega)]at hu;exact a3 i c u A4 hu
    ·rw[abM (by omega)]at A4;rw[abM (by omega)]at hu;rw[<-AT]at hu;exact Af _ c u A4 hu
  ·have A4:=QF d;simp only[List.flatMap_cons,BO,fG];omega
 |[],_::_,_,_,h,_=>by simp at h
 |_::_,[],_,_,h,_=>by simp at h
section
variable {H:Type} {enc:TypeId×Value->H} {P:Program} {w:World} {base:Nat} {sp:Nat->Bool} {held:Bool}
theorem xk{L:List TypeId}(A':zE P L=true):∀(m:Nat)(t:TypeId)(cs:List Value)(x:DataW H×List MemPlace),L.contains t=true->DataW.trod enc P w base sp held m t cs=some x->
 ∃d,typed P (m+1) t d/\Reads w (λ_=>False) d cs/\d.cells.length=P.cellsOf t/\iN d<=gG x.1
 |m,t,cs,x,E,I=>by
  have E:=FK A' E;simp only[typed];cases A:P.underlying t with
  |none=>rw[A]at E;cases E
  |some u=>
   rw[A]at E;cases u with
   |bool=>
    obtain⟨b,rfl,rfl⟩:=DataW.trod_bool A I;exact⟨.bool b,⟨b,rfl⟩,Reads.one (.bool b) rfl rfl,by simp at E;simp[D.cells,E],by simp[iN,gG]⟩
   |int k=>
    obtain⟨z,rfl,rfl,hw⟩:=DataW.trod_int A I;exact⟨.int k z,⟨z,rfl,hw⟩,Reads.one (.int k z) rfl rfl,by simp at E;simp[D.cells,E],by simp[iN,gG]⟩
   |string=>
    obtain⟨s,rfl,rfl,hw⟩:=DataW.trod_string A I;exact⟨.str s.data.toList,⟨_,rfl,by simpa using hw⟩,Reads.one (.str s _ rfl) rfl rfl,by simp at E;simp[D.cells,E],by simp[iN,gG]⟩
   |slice e=>
    simp only[Ds,beq_iff_eq,aag]at E;obtain⟨⟨N,A0⟩,O⟩:=E;rcases DataW.trod_slice A I with ⟨rfl,rfl⟩|⟨a,len,cap,elems,rest,m',rfl,rfl,rfl,AI,Ah,B3,B4,AB,_⟩
    ·exact⟨.list [],⟨[],rfl,by simp,by simp⟩,Reads.one (.nil none 0 (λ_=>rfl)) rfl rfl,by simp[D.cells,N],by simp[iN,ee,gG]⟩
    ·have A6:∀i,∃p:D×Value,i<len->typed P (m'+1) e p.1/\aI w (λ_=>False) p.1 p.2/\p.1.size=P.cellsOf e/\a.block<w.heap.size/\a.spot=none/\
      (∀j c,p.2.cells[j]?=some c->w.cell? ⟨a.block,a.off+i*P.cellsOf e+j,none⟩=some c)/\∀q,elems[i]?=some q->iN p.1<=gG q.1:=by
      intro i;by_cases hi:i<len
      ·have J:=AB i hi;have A2:∃y,elems[i]?=some y:=⟨elems[i]'(by omega),by simp[show i<elems.length by omega]⟩
       obtain⟨y,T⟩:=A2;rw[T]at J;simp only[akc]at J;obtain⟨AJ,Ai,Aj⟩:=J;obtain⟨d,Y,A5,A3,A8⟩:=xk A' m' e AJ y A0 Aj;obtain⟨g1,g2⟩:=Di Ai;have g3:a.block<w.heap.size/\a.spot=none:=by
        have AK:∃i0,i0<len/\i0=0:=⟨0,by omega,rfl⟩;have AL:=AB 0 (by omega);have Ak:∃y,elems[0]?=some y:=⟨elems[0]'(by omega),by simp[show 0<elems.length by omega]⟩
        obtain⟨B5,Al⟩:=Ak;rw[Al]at AL;simp only[akc]at AL;obtain⟨AM,An,_⟩:=AL;obtain⟨B6,Ao⟩:=Di An;have AC:=Ao 0 (by omega);have AD:∃c,AM[0]?=some c:=⟨AM[0]'(by omega),by simp[show 0<AM.length by omega]⟩
        obtain⟨c,A4⟩:=AD;rw[A4]at AC;have AE:=BN AC;simpa [Addr.add]using AE
       refine⟨⟨d,shaped d AJ⟩,λ_=>⟨Y,A5.rel,by rw[<-D.ff];exact A3,g3.1,g3.2,λj c A9=>?_,λq A6=>by rw[T]at A6;cases A6;exact A8⟩⟩;have AC:=A5.IC;have AD:AJ[j]?=some c:=by rw[<-AC];simpa using A9
       have Aq:j<P.cellsOf e:=by
        have:=(aaa.1 AD).1;omega
       have AE:=g2 j Aq;obtain⟨AU,ao,AN⟩:=a;obtain rfl:AN=none:=g3.2;rw[add_add]at AE;rw[AE];exact AD
      ·exact⟨⟨.bool false,undef⟩,λh=>absurd h hi⟩
     obtain⟨f,Z⟩:=Classical.axiomOfChoice A6;refine⟨.list ((List.range len).map λi=>(f i).1),⟨_,rfl,by simp;omega,λx I=>?_⟩,Reads.one ?_ rfl rfl,by simp[D.cells,N],?_⟩
     ·simp only[ab9,ab3]at I;obtain⟨i,hi,rfl⟩:=I;exact (Z i hi).1
     ·by_cases A3:len=0
      ·subst A3;exact .nil (some a) cap (λh=>by cases h)
      ·have AK:=Z 0 (by omega);obtain⟨AU,ao,AN⟩:=a;obtain rfl:AN=none:=AK.2.2.2.2.1;have AA:((List.range len).map λi=>(f i).1).length=len:=by simp
       have:=aI.list (w:=w) (F:=λ_=>False) ((List.range len).map λi=>(f i).1) AU ao cap (P.cellsOf e) (λi=>(f i).2) (by rw[AA];exact Ah) AK.2.2.2.1 (λh=>h)
        (λd Y=>by
         simp only[ab9,ab3]at Y;obtain⟨i,hi,rfl⟩:=Y;exact (Z i hi).2.2.1)
        (λi d Y=>by
         simp only[acm,aaf]at Y;obtain⟨B7,Ar,rfl⟩:=Y;have:=aaa.1 Ar;obtain⟨AV,AW⟩:=this;simp at AV AW;subst AW;exact (Z _ AV).2.1)
        (λi j c hi A9=>by
         rw[AA]at hi;exact (Z i hi).2.2.2.2.2.1 j c A9)
       rw[AA]at this;exact this
     ·simp only[iN,gG];refine Nat.succ_le_succ (Nc _ _ (by simp;omega) λi x d I Y=>?_);simp only[acm,aaf]at I Y;obtain⟨j,A9,rfl⟩:=I;obtain⟨q,A6,rfl⟩:=Y;obtain⟨AX,AY⟩:=aaa.1 A9;simp at AX AY;subst AY;exact (Z i AX).2.2.2.2.2.2 q A6
   |struct A1=>
    obtain⟨xs,m',rfl,rfl,A3,As,AB⟩:=DataW.trod_struct A I;simp only at E;rw[<-A3]at E;obtain⟨V,N,A0,_,J,A2⟩:=xO (n:=m'+1) (w:=w) (F:=λ_=>False) A1.toList (xs.map (·.1)) 0 E (by simpa using As) (λi f e hi he AF=>by
     simp only[acm,aaf]at he;obtain⟨y,T,rfl⟩:=he;have A2:=AB i f (by simpa using hi);rw[T]at A2;exact xk A' m' f.type _ y AF A2)
    refine⟨.agg (V.flatMap D.cells),⟨V,rfl,by simpa using N,λi f y hi T=>A0 i f y (by simpa using hi) T⟩,by simpa using J,?_,?_⟩
    ·have:=J.1;rw[this];simpa using A3
    ·simp only[iN,gG];omega
   |_=>cases E
theorem WD{L:List TypeId}(A':zE P L=true){t:TypeId}{v:Value}{d:DataW H}{ps:List MemPlace}{b0:Nat}(E:L.contains t=true)(U:Value.okWide P w .any b0 t v)(h:DataW.Trod enc P w base sp held t v d ps):
 ∃n x,typed P n t x/\aI w (λ_=>False) x v/\iN x<=gG d:=by
 obtain⟨m,hm⟩:=h;obtain⟨x,I,A5,_,A8⟩:=xk A' m t _ _ E hm;refine⟨m+1,x,I,?_,A8⟩;have N:=A5.rel
 ·have E:=FK A' E;simp only[typed]at I;cases A:P.underlying t with
  |none=>rw[A]at E;cases E
  |some u=>
   rw[A]at E I;cases u with
   |bool=>obtain⟨b,rfl⟩:=okWide_bool A U;obtain⟨y,rfl⟩:=I;exact N
   |int k=>obtain⟨b,rfl⟩:=okWide_int A U;obtain⟨y,rfl,_⟩:=I;exact N
   |string=>obtain⟨b,rfl⟩:=okWide_string A U;obtain⟨y,rfl,_⟩:=I;exact N
   |slice e=>obtain⟨a,len,cap,rfl⟩:=okWide_slice A U;obtain⟨y,rfl,_⟩:=I;exact N
   |struct A1=>
    simp only[Value.okWide,A]at U;obtain⟨cs,rfl,_⟩:=U;obtain⟨V,rfl,_⟩:=I;simpa [shaped,Value.cells]using N
   |_=>cases E
theorem FL{L:List TypeId}(A':zE P L=true){b0:Nat}:∀{A7:List TypeId}{vs:List Value}{M:List (DataW H)}{ps:List MemPlace},DataW.TrodAll enc P w base sp held A7 vs M ps->(∀t∈A7,L.contains t=true)->
 (∀(j:Nat) t v,A7[j]?=some t->vs[j]?=some v->Value.okWide P w .any b0 t v)->
 ∃xs:List D,xs.length=vs.length/\xs.length=A7.length/\(∀(i:Nat) t x,A7[i]?=some t->xs[i]?=some x->∃n,typed P n t x)/\(∀(i:Nat) x v,xs[i]?=some x->vs[i]?=some v->aI w (λ_=>False) x v)/\ee xs<=fG M
 |[],[],[],_,_,_,_=>⟨[],rfl,rfl,λi t x h=>by simp at h,λi x v h=>by simp at h,by simp[ee,fG]⟩
 |t::A7,v::vs,d::M,ps,h,E,U=>by
  obtain⟨p,q,N,A0,_⟩:=h;obtain⟨n,x,I,AG,A8⟩:=WD A' (E t (by simp)) (U 0 t v rfl rfl) N;obtain⟨xs,g1,g2,g3,g4,g5⟩:=FL A' A0 (λt A=>E t (by simp[A])) (λj t v O J=>U (j+1) t v (by simpa using O) (by simpa using J));refine⟨x::xs,by simp[g1],by simp[g2],λi At AO O J=>?_,λi AO Au O J=>?_,by simp only[ee,fG];omega⟩
  ·cases i with
   |zero=>simp at O J;subst O;subst J;exact⟨n,I⟩
   |succ i=>simp at O J;exact g3 i At AO O J
  ·cases i with
   |zero=>simp at O J;subst O;subst J;exact AG
   |succ i=>simp at O J;exact g4 i AO Au O J
 |[],_::_,_,_,h,_,_=>by cases h
 |[],[],_::_,_,h,_,_=>by cases h
 |_::_,[],_,_,h,_,_=>by cases h
 |_::_,_::_,[],_,h,_,_=>by cases h
end
section
variable {H:Type} {enc:TypeId×Value->H}
theorem Gb{X:Ctx}(Av:jl X){f:FuncId}{fn:Func}{s:ChangeSpec}{apart fresh handsOn:Bool}{L:List TypeId}{tb:TypeId}(A':zE X.P L=true)
 (Aw:laidOutB X.P=true) (AP:(fn.params.toList.all λt=>X.P.readableRec t&&decide (t<X.P.types.size)&&L.contains t)=true)
 (Ax:fn.resultTypes=#[tb]) (Ay:X.P.underlying tb=some .bool) (AZ:s.vars=[])
 (Az:∀M:List (DataW H),M.length=fn.params.size->s.fn H M={results:=[.lit (.bool true)],args:=M})
 {W:World} {base:Nat} {args:Array Value} {M gs:List (DataW H)} {before:List MemPlace}
 (B':∀(j:Nat) t v,fn.params[j]?=some t->args[j]?=some v->Value.okWide X.P W .any base t v)
 (A_:DataW.Whole enc X.P fn.params.toList s.vars apart W args.toList M gs before) (B0:ec W (λ_=>False) X.gl)
 (B1:∀xs:List D,xs.length=fn.params.size->(∀(i:Nat) t x,fn.params[i]?=some t->xs[i]?=some x->∃n,typed X.P n t x)->ee xs<=fG M->ah X f (xs.map .d) []=some (.ret (.d (.bool true)),[])):
 Calls X.P f args W λe Aa=>∃v,e=.returned v/\s.post enc X.P fn apart fresh handsOn false W args v Aa:=by
 have Ab:=A_;obtain⟨p,q,AQ,AR,rfl,B8,B9⟩:=A_;rw[AZ]at AR;obtain⟨rfl,rfl⟩:gs=[]/\q=[]:=by
  cases gs with
  |nil=>exact⟨rfl,AR⟩
  |cons g r=>exact absurd AR (by intro h;cases h)
 simp only[abN,Ds,aag]at AP;obtain⟨xs,N,A0,O,J,A2⟩:=FL A' (b0:=base) AQ (λt A=>(AP t A).2) (λj t v A U=>B' j t v (by simpa using A) (by simpa using U));have AA:=trodAll_length AQ;refine (Uc Av (B1 xs (by simpa using A0) (λi t x A I=>O i t x (by simpa using A) I) A2) (by simpa using N) (λi x v I U=>J i x v I (by simpa using U)) B0).mono ?_;rintro e Aa ⟨rfl,AI⟩;have B2:∀x∈p,x.block<W.heap.size:=λx I=>by simpa using Ab.lt x (by simpa using I)
 have AS:s.fn H (M++[])={results:=[.lit (.bool true)],args:=M}:=by
  rw[afn];exact Az M (by simpa using AA.2)
 refine⟨_,rfl,M,[],p++[],[],p,[],Ab,?_,?_,?_,AI.frame _,λh=>by cases h⟩
 ·rw[AS,Ax];exact trodAll_mk1 (shut_bool Ay true)
 ·rw[AS];exact xN Aw AI AQ (λt A=>(AP t A).1) B2
 ·rw[AS,AZ];rfl
end
end Go.Am
end
section
namespace Go.Am
open Go
theorem IH(l:List Ex):(sP l).length=l.length:=by rw[rS];simp
theorem Ud(x:Ex):iN (du x)=ee (Ig x)+1:=by rw[Gp];rfl
mutual
theorem II:∀x:Ex,iN (du x)<100000000->vE x
 | .mk op n name field sub line,h=>by
  simp only[du,iN,ee]at h;have A:=nq (sP sub);rw[IH]at A;simp only[vE];exact⟨⟨by omega,by omega,by omega⟩,En sub (by omega)⟩
theorem En:∀l:List Ex,ee (sP l)<100000000->oq l
 |[],_=>by simp only[oq]
 |x::r,h=>by
  simp only[sP,ee]at h;simp only[oq];exact⟨II x (by omega),En r (by omega)⟩
end
theorem BP{α:Type}(f:α->D)(l:List α):l.length<=ee (l.map f):=by
 have:=nq (l.map f);simpa using this
theorem ajn(l:List Int):l.length<=iN (gX l):=by
 have:=BP (λn=>D.int .i64 n) l;simp only[gX,iN];omega
theorem WE(l:List (List Sm)):(wY l).length=l.length:=by rw[Ai];simp
theorem IJ(l:List Sm):(uO l).length=l.length:=by rw[Ah];simp
mutual
theorem afm:∀x:Sm,iN (cG x)<100000000->FI x/\M8 x<=iN (cG x)
 | .mk op name to val I M fields J line,h=>by
  simp only[cG,iN,ee,BO]at h⊢;have U:=Ud to;have V:=Ud val;have A:=nq (sP I);rw[IH]at A;have Y:=BP gX M;have Z:=BP D.str fields;have N:=nq (wY J);rw[WE]at N;have O:=Nd J (by omega);simp only[FI,M8];refine⟨⟨⟨II to (by omega),II val (by omega),⟨by omega,En I (by omega)⟩,⟨by omega,λl T=>?_⟩,by omega,by omega⟩,O.1⟩,by omega⟩;have q:=IF (abW (f:=gX) T);have y:=ajn l;omega
theorem Eo:∀l:List Sm,ee (uO l)<100000000->kZ l/\qK l<=ee (uO l)
 |[],_=>by simp only[kZ,qK];exact⟨trivial,ak6 _⟩
 |x::r,h=>by
  simp only[uO,ee]at h⊢;have E:=afm x (by omega);have A:=Eo r (by omega);simp only[kZ,qK];exact⟨⟨E.1,A.1⟩,by omega⟩
theorem Nd:∀l:List (List Sm),ee (wY l)<100000000->pr l/\uQ l<=ee (wY l)
 |[],_=>by simp only[pr,uQ];exact⟨trivial,ak6 _⟩
 |b::r,h=>by
  simp only[wY,ee,iN]at h⊢;have H:=nq (uO b);rw[IJ]at H;have E:=Eo b (by omega);have A:=Nd r (by omega);simp only[pr,uQ];exact⟨⟨⟨by omega,E.1⟩,A.1⟩,by omega⟩
end
theorem BQ{p:Pg}(h:iN (.agg [.str p.name,.list (p.vars.map bm),.list (p.body.map cG)])<50000000):p.body.length<100000000/\kZ p.body/\qK p.body<50000000:=by
 simp only[iN,ee]at h;rw[<-Ah]at h;have H:=nq (uO p.body);rw[IJ]at H;have E:=Eo p.body (by omega);exact⟨by omega,E.1,by omega⟩
mutual
def mE:Ex->Bool
 | .mk _ n _ _ sub _=>decide (-9223372036854775808<=n/\n<=9223372036854775807)&&mc sub
def mc:List Ex->Bool
 |[]=>true
 |x::r=>mE x&&mc r
end
def xl(n:Int):Bool:=decide (-9223372036854775808<=n/\n<=9223372036854775807)
mutual
def mF:Sm->Bool
 | .mk _ _ to val A D _ E _=>mE to&&(mE val&&(mc A&&(D.all (λl=>l.all xl)&&tW E)))
def lu:List Sm->Bool
 |[]=>true
 |x::r=>mF x&&lu r
def tW:List (List Sm)->Bool
 |[]=>true
 |b::r=>lu b&&tW r
end
end Go.Am
end
section
namespace Go.Am
open Go Go.Proofs
variable [Inhabited bB]
set_option maxRecDepth 20000
theorem qz{P:Program}{n:Nat}{t:TypeId}{d:D}(h:typed P n t d):∃m,n=m+1:=by
 cases n with
 |zero=>exact h.elim
 |succ m=>exact⟨m,rfl⟩
theorem jr{P:Program}{n:Nat}{t:TypeId}{d:D}(I:P.underlying t=some (.int .i64))(h:typed P n t d):∃z,d=.int .i64 z/\xl z=true:=by
 obtain⟨m,rfl⟩:=qz h;obtain⟨z,rfl,hw⟩:=Ub I h;refine⟨z,rfl,?_⟩;have H:aG z:=by
  simp[Lit.wf]at hw;unfold aG;have A8:IntKind.i64.min= -9223372036854775808:=by decide
  have A9:IntKind.i64.max=9223372036854775807:=by decide
  simp only[A8,A9]at hw;omega
 unfold aG at H;unfold xl;simp only[aag];exact H
theorem aaW{P:Program}{n:Nat}{t:TypeId}{d:D}(I:P.underlying t=some .bool)(h:typed P n t d):∃b,d=.bool b:=by
 obtain⟨m,rfl⟩:=qz h;exact QE I h
theorem nH{P:Program}{n:Nat}{t:TypeId}{d:D}(I:P.underlying t=some .string)(h:typed P n t d):∃s,d=.str s:=by
 obtain⟨m,rfl⟩:=qz h;obtain⟨s,rfl,_⟩:=ID I h;exact⟨s,rfl⟩
theorem kH{P:Program}{n:Nat}{t e:TypeId}{d:D}(I:P.underlying t=some (.slice e))(h:typed P n t d):∃xs m,m<n/\d=.list xs/\∀x∈xs,typed P m e x:=by
 obtain⟨m,rfl⟩:=qz h;obtain⟨xs,rfl,_,A⟩:=J3 I h;exact⟨xs,m,by omega,rfl,A⟩
theorem tX{P:Program}{n:Nat}{t:TypeId}{d:D}{A3:Array Field}(I:P.underlying t=some (.struct A3))(h:typed P n t d):∃J m,m<n/\d=.agg J/\Aq P m A3.toList J:=by
 obtain⟨m,rfl⟩:=qz h;obtain⟨J,rfl,AA⟩:=IE I h;exact⟨J,m,by omega,rfl,AA⟩
theorem gN{α:Type}{f:α->D}{Q:α->Prop}:∀{xs:List D},(∀x∈xs,∃r,x=f r/\Q r)->∃rs:List α,xs=rs.map f/\∀r∈rs,Q r
 |[],_=>⟨[],rfl,λr h=>by cases h⟩
 |x::xs,h=>by
  obtain⟨r,rfl,AB⟩:=h x (by simp);obtain⟨rs,rfl,AC⟩:=gN (xs:=xs) (λy E=>h y (by simp[E]));exact⟨r::rs,rfl,λy E=>by
   rcases aak.1 E with rfl|E
   ·exact AB
   ·exact AC y E⟩
theorem BR:∀{l:List Ex},(∀x∈l,mE x=true)->mc l=true
 |[],_=>by simp[mc]
 |x::r,h=>by simp only[mc,Ds];exact⟨h x (by simp),BR λy E=>h y (by simp[E])⟩
theorem BS:∀{l:List Sm},(∀x∈l,mF x=true)->lu l=true
 |[],_=>by simp[lu]
 |x::r,h=>by simp only[lu,Ds];exact⟨h x (by simp),BS λy E=>h y (by simp[E])⟩
theorem IK:∀{l:List (List Sm)},(∀x∈l,lu x=true)->tW l=true
 |[],_=>by simp[tW]
 |x::r,h=>by simp only[tW,Ds];exact⟨h x (by simp),IK λy E=>h y (by simp[E])⟩
theorem BT:∀(n:Nat)(x:D),typed Tryz.prog n 114 x->∃e:Ex,x=du e/\mE e=true:=by
 intro n;induction n using Nat.strongRecOn with
 |ind n ih=>
 intro x h;obtain⟨J,m,hm,rfl,Z,d0,M,⟨A',d1,N,⟨A0,d2,H,⟨A4,d3,O,⟨A5,d4,T,⟨A6,d5,U,rfl,rfl⟩,rfl⟩,rfl⟩,rfl⟩,rfl⟩,rfl⟩:=tX Tryz.underlying114 h;obtain⟨op,rfl,_⟩:=jr Tryz.underlying3 M;obtain⟨k,rfl,AD⟩:=jr Tryz.underlying2 N;obtain⟨name,rfl⟩:=nH Tryz.underlying9 H;obtain⟨field,rfl⟩:=nH Tryz.underlying9 O;obtain⟨xs,q,A7,rfl,V⟩:=kH Tryz.underlying112 T;obtain⟨line,rfl,_⟩:=jr Tryz.underlying3 U;obtain⟨l,rfl,Y⟩:=gN (f:=du) (Q:=λe=>mE e=true) (λx A=>ih q (by omega) x (V x A));exact⟨.mk op k name field l line,by rw[Gp];simp[Ig,rS,D.cells],by
  simp only[mE,Ds];exact⟨AD,BR Y⟩⟩
theorem Dk{n:Nat}{x:D}(h:typed Tryz.prog n 26 x):∃l:List Int,x=gX l/\l.all xl=true:=by
 obtain⟨xs,q,A7,rfl,V⟩:=kH Tryz.underlying26 h;obtain⟨l,rfl,Y⟩:=gN (f:=λn=>D.int .i64 n) (Q:=λe=>xl e=true) (λx A=>jr Tryz.underlying2 (V x A));exact⟨l,rfl,abN.2 Y⟩
theorem WG:∀(n:Nat)(x:D),typed Tryz.prog n 119 x->∃e:Sm,x=cG e/\mF e=true:=by
 intro n;induction n using Nat.strongRecOn with
 |ind n ih=>
 intro x h;obtain⟨J,m,hm,rfl,Z,d0,M,⟨A',d1,N,⟨A0,d2,H,⟨A4,d3,O,⟨A5,d4,T,⟨A6,d5,U,⟨AE,d6,A1,⟨AF,d7,A2,⟨AW,d8,AG,rfl,rfl⟩,rfl⟩,rfl⟩,rfl⟩,rfl⟩,rfl⟩,rfl⟩,rfl⟩,rfl⟩:=tX Tryz.underlying119 h;obtain⟨op,rfl,_⟩:=jr Tryz.underlying3 M;obtain⟨name,rfl⟩:=nH Tryz.underlying9 N;obtain⟨to,rfl,AH⟩:=BT _ _ H;obtain⟨val,rfl,AI⟩:=BT _ _ O;obtain⟨AX,AY,AZ,rfl,AJ⟩:=kH Tryz.underlying112 T;obtain⟨A_,Aa,Ab,rfl,AK⟩:=kH Tryz.underlying115 U;obtain⟨Ac,Ad,Ae,rfl,AL⟩:=kH Tryz.underlying116 A1;obtain⟨Af,Ag,Ah,rfl,AM⟩:=kH Tryz.underlying117 A2;obtain⟨line,rfl,_⟩:=jr Tryz.underlying3 AG;obtain⟨AN,rfl,AO⟩:=gN (f:=du) (Q:=λe=>mE e=true) (λx A=>BT _ _ (AJ x A));obtain⟨AP,rfl,AQ⟩:=gN (f:=gX) (Q:=λl=>l.all xl=true) (λx A=>Dk (AK x A));obtain⟨fields,rfl⟩:=uR (f:=D.str) (λx A=>nH Tryz.underlying9 (AL x A));obtain⟨AR,rfl,AS⟩:=gN (f:=λb:List Sm=>D.list (b.map cG)) (Q:=λb=>lu b=true) (λx A=>by
  obtain⟨xs,q,A7,rfl,V⟩:=kH Tryz.underlying23 (AM x A);obtain⟨l,rfl,Y⟩:=gN (f:=cG) (Q:=λe=>mF e=true) (λx A=>ih q (by omega) x (V x A));exact⟨l,rfl,BS Y⟩)
 refine⟨.mk op name to val AN AP fields AR line,?_,?_⟩
 ·simp[cG,rS,Ai,D.cells,Gp]
 ·simp only[mF,Ds];exact⟨AH,AI,BR AO,abN.2 AQ,IK AS⟩
theorem WI{n:Nat}{x:D}(h:typed Tryz.prog n 64 x):∃v:Vr,x=bm v:=by
 obtain⟨J,m,hm,rfl,Z,d0,M,⟨A',d1,N,⟨A0,d2,H,⟨A4,d3,O,⟨A5,d4,T,⟨A6,d5,U,⟨AE,d6,A1,⟨AF,d7,A2,rfl,rfl⟩,rfl⟩,rfl⟩,rfl⟩,rfl⟩,rfl⟩,rfl⟩,rfl⟩:=tX Tryz.underlying64 h;obtain⟨name,rfl⟩:=nH Tryz.underlying9 M;obtain⟨ty,rfl,_⟩:=jr Tryz.underlying3 N;obtain⟨sec,rfl,_⟩:=jr Tryz.underlying3 H;obtain⟨arr,rfl⟩:=aaW Tryz.underlying4 O;obtain⟨lo,rfl,_⟩:=jr Tryz.underlying2 T;obtain⟨hi,rfl,_⟩:=jr Tryz.underlying2 U;obtain⟨init,rfl,_⟩:=jr Tryz.underlying2 A1;obtain⟨line,rfl,_⟩:=jr Tryz.underlying3 A2;exact⟨⟨name,ty,sec,arr,lo,hi,init,line⟩,rfl⟩
theorem WJ{n:Nat}{x:D}(h:typed Tryz.prog n 25 x):∃p:Pg,x=.agg [.str p.name,.list (p.vars.map bm),.list (p.body.map cG)]/\lu p.body=true:=by
 obtain⟨J,m,hm,rfl,Z,d0,M,⟨A',d1,N,⟨A0,d2,H,rfl,rfl⟩,rfl⟩,rfl⟩:=tX Tryz.underlying25 h;obtain⟨name,rfl⟩:=nH Tryz.underlying9 M;obtain⟨Aj,q1,Ak,rfl,AT⟩:=kH Tryz.underlying22 N;obtain⟨Al,q2,An,rfl,AU⟩:=kH Tryz.underlying23 H;obtain⟨vars,rfl⟩:=uR (f:=bm) (λx A=>WI (AT x A));obtain⟨body,rfl,AV⟩:=gN (f:=cG) (Q:=λe=>mF e=true) (λx A=>WG _ _ (AU x A));exact⟨⟨name,vars,body⟩,rfl,BS AV⟩
end Go.Am
end
section
namespace Go.Am
open Go
def vr0:Vr:=⟨[],0,0,false,0,0,0,0⟩
def Dl:List Vr->Tx->Int->Int×Vr
 |[],_,_=>(0,vr0)
 |v::r,s,n=>if v.name=s then (n,v)else Dl r s (n+b5 v)
def dt(vs:List Vr)(s:Tx):Int×Vr:=Dl vs s 0
def dS:List Vr->Int
 |[]=>0
 |v::r=>b5 v+dS r
def BU:List Pn->Tx->Nat->Option (Nat×Pn)
 |[],_,_=>none
 |p::r,s,i=>if p.name=s then some (i,p)else BU r s (i+1)
def afo:Pn:=⟨[],0,false⟩
def ke(vs:List Vr)(s f:Tx):Int×Pn:=
 if (bu vs s).isSome=true/\2<(dt vs s).2.ty/\f≠[]then
  (match BU (br (dt vs s).2.ty) f 0 with
   |some (i,p)=>((dt vs s).1+i,p)
   |none=>(0,afo))
 else (0,afo)
def ou(k:Nat)(x:aS):aS:=if (x.op=9\/x.op=10)/\0<=x.a then {x with a:=x.a+k} else x
def oO(k:Nat)(l:List aS):List aS:=l.map (ou k)
def jn(a b:List aS):List aS:=a++oO a.length b
def Nf(to:Int)(x:aS):aS:=if x.op=9/\x.a= -1 then {x with a:=to} else x
def rtI(to:Int)(x:aS):aS:=if x.op=9/\x.a= -2 then {x with a:=to} else x
def ins(op a b n m:Int):aS:=⟨op,a,b,n,m⟩
def ly:List (List aS)->List (List aS)->List aS
 |_,[]=>[]
 |[],b::r=>if r=[]then b else jn (b++[ins 9 (b.length+1+(ly [] r).length) 0 0 0]) (ly [] r)
 |t::A,b::r=>
  let out:=ly A r
  let part:=if r=[]then b else b++[ins 9 (b.length+1+out.length) 0 0 0]
  jn (t++[ins 10 (t.length+1+part.length) 0 0 0]++oO (t.length+1) part) out
def Ep(l:List aS):List aS:=l.map (Nf l.length)
@[simp] theorem asn(k:Nat)(l:List aS):(oO k l).length=l.length:=by simp[oO]
@[simp] theorem aqf(l:List aS):(Ep l).length=l.length:=by simp[Ep]
theorem Ue(a b:List aS):(jn a b).length=a.length+b.length:=by simp[jn]
theorem IL(k:Nat)(x:aS):(ou k x).op=x.op:=by unfold ou;split<;>rfl
def afp(op:Int):Prop:=op=6\/(8<=op/\op<=12)\/(15<=op/\op<=18)
instance (op:Int):Decidable (afp op):=inferInstanceAs (Decidable (_\/_))
theorem Ng{op n:Int}{name field:Tx}{sub:List Ex}{line:Int}(h:dI (.mk op n name field sub line)=true):sub.length=gF op/\cR sub=true:=by
 simp only[dI,Ds,aag]at h;exact⟨h.2.1,h.2.2.2.2⟩
theorem aaX{vs:List Vr}{op n:Int}{name field:Tx}{sub:List Ex}{line:Int}(M:dI (.mk op n name field sub line)=true)(he:(aQ vs (.mk op n name field sub line)).e=0):∀y∈sub,(aQ vs y).e=0:=by
 obtain⟨D,_⟩:=Ng M;intro y A;unfold aQ at he;by_cases I:op=1\/op=2
 ·have E:sub=[]:=acp (by rw[D];unfold gF;rcases I with h|h<;>subst h<;>decide);subst E;simp at A
 ·rw[aac I]at he;by_cases J:op=3\/op=4\/op=5
  ·rw[aal J]at he;by_cases N:op=4
   ·subst N;obtain⟨z,rfl⟩:∃z,sub=[z]:=by
     match sub,D with
     |[z],_=>exact⟨z,rfl⟩
     |[],h=>simp[gF]at h
     |_::_::_,h=>simp[gF]at h
    simp at A;subst A;split at he
    ·simp[cE]at he
    ·rw[aac (by decide)]at he;split at he
     ·simp[cE]at he
     ·rw[aal rfl]at he;simp only[KM]at he;by_cases H:(aQ vs y).e=0
      ·exact H
      ·rw[aal H]at he;exact absurd he H
   ·have E:sub=[]:=acp (by rw[D];unfold gF;rw[aac (by omega),aac (by omega)]);subst E;simp at A
  ·rw[aac J]at he;match sub,A,he,D with
   |[a],A,he,_=>
    simp at A;subst A;exact (rT he).1
   |[a,b],A,he,_=>
    simp at A;rcases A with rfl|rfl
    ·exact (rT he).1
    ·exact (rT he).2.1
   |a::b::c::d,A,he,D=>
    exfalso;simp only[gF]at D;split at D
    ·simp at D
    ·split at D<;>simp at D
theorem aaY{op n:Int}{name field:Tx}{sub:List Ex}{line:Int}(h:mE (.mk op n name field sub line)=true):(-9223372036854775808<=n/\n<=9223372036854775807)/\mc sub=true:=by
 simp only[mE,Ds,aag]at h;exact h
section
variable {vs:List Vr}
end
theorem gZ{a b:EL}:(eN a b).1=0↔a.1=0/\b.1=0:=by
 unfold eN;by_cases h:a.1=0
 ·rw[aac (λA=>A h)];simp[h]
 ·rw[aal h];simp[h]
section
variable {vs:List Vr}
end
inductive MC(vs:List Vr)(lp:Bool):Sm->Prop
 |asg {to val:Ex} {line:Int} {v:Vr} (A:cA to=3\/cA to=4) (N:bu vs (dY to)=some v) (V:¬v.sec=1) (ft:dI to=true) (AF:(aQ vs to).e=0) (A2:dI val=true) (AG:(aQ vs val).e=0) (h:(aQ vs val).t=(aQ vs to).t):MC vs lp (.mk 1 [] to val [] [] [] [] line)
 |cnd {to val:Ex} {O:List Ex} {T:List (List Sm)} {line:Int} (A:fj to=true) (D:fj val=true) (A5:cR O=true) (M:1<=O.length) (H:O.length<=T.length) (E:T.length<=O.length+1) (A0:fm T=true) (h:(gD vs lp O T).1=0):MC vs lp (.mk 2 [] to val O [] [] T line)
 |cas {to val:Ex} {A':List (List Int)} {T:List (List Sm)} {line:Int} (A:fj to=true) (A2:dI val=true) (A4:(dx vs val 1).1=0) (H:A'.length<=T.length) (E:T.length<=A'.length+1) (AH:A'.all zA=true) (A0:fm T=true) (h:(gD vs lp [] T).1=0):MC vs lp (.mk 3 [] to val [] A' [] T line)
 |cnt {name:Tx} {to val x y z:Ex} {b:List Sm} {line:Int} {v:Vr} (A6:cL name=true) (A:fj to=true) (D:fj val=true) (N:bu vs name=some v) (V:¬v.sec=1) (Z:v.arr=false) (A1:v.ty=1) (AI:dI x=true) (AJ:(dx vs x 1).1=0) (AK:dI y=true) (AL:(dx vs y 1).1=0) (AM:dI z=true) (AN:(dx vs z 1).1=0) (A0:ga b=true) (h:(eU vs true b).1=0):MC vs lp (.mk 4 name to val [x,y,z] [] [] [b] line)
 |whl {to val:Ex} {b:List Sm} {line:Int} (A:fj to=true) (A2:dI val=true) (A4:(dx vs val 2).1=0) (A0:ga b=true) (h:(eU vs true b).1=0):MC vs lp (.mk 5 [] to val [] [] [] [b] line)
 |rep {to val:Ex} {b:List Sm} {line:Int} (A:fj to=true) (A2:dI val=true) (A4:(dx vs val 2).1=0) (A0:ga b=true) (h:(eU vs true b).1=0):MC vs lp (.mk 6 [] to val [] [] [] [b] line)
 |ext {to val:Ex} {line:Int} (A:fj to=true) (D:fj val=true) (h:lp=true):MC vs lp (.mk 7 [] to val [] [] [] [] line)
 |ret {to val:Ex} {line:Int} (A:fj to=true) (D:fj val=true):MC vs lp (.mk 8 [] to val [] [] [] [] line)
 |cal {name:Tx} {to val:Ex} {O:List Ex} {fields:List Tx} {line:Int} {v:Vr} (A6:cL name=true) (A:fj to=true) (D:fj val=true) (N:bu vs name=some v) (A1:2<v.ty) (A5:cR O=true) (AO:O.length=fields.length) (A3:fields.all cL=true) (h:(jq vs v.ty line fields O []).1=0):MC vs lp (.mk 9 name to val O [] fields [] line)
theorem WK{α:Type}{l:List α}(h:l.length=0):l=[]:=acp h
theorem IM{α:Type}{l:List α}(h:l.length=1):∃a,l=[a]:=by
 match l,h with
 |[a],_=>exact⟨a,rfl⟩
theorem aqg{α:Type}{l:List α}(h:l.length=3):∃a b c,l=[a,b,c]:=by
 match l,h with
 |[a,b,c],_=>exact⟨a,b,c,rfl⟩
theorem QG{vs:List Vr}{b:List Sm}(h:(zB vs [b]).1=0):(eU vs true b).1=0:=by simpa [zB]using h
theorem aaZ{vs:List Vr}{lp:Bool}{x:Sm}(A3:og x=true)(h:(AW vs lp x).1=0):MC vs lp x:=by
 obtain⟨op,name,to,val,O,A',fields,T,line⟩:=x;simp only[og,Ds]at A3;obtain⟨A7,I,A,D,q,J,A8,A9,Y⟩:=A3;simp only[aag]at A7;unfold AW at h;have AA:op=1\/op=2\/op=3\/op=4\/op=5\/op=6\/op=7\/op=8\/op=9:=by omega
 rcases AA with rfl|rfl|rfl|rfl|rfl|rfl|rfl|rfl|rfl
 ·simp[gM]at I A D J h;obtain⟨rfl,rfl,rfl,rfl⟩:=J;subst I;unfold Z6 at h;cases N:bu vs (dY to)with
  |none=>rw[N]at h;simp at h
  |some v=>
   rw[N]at h;simp only at h;by_cases V:v.sec=1
   ·simp[V]at h
   ·rw[aac V]at h;obtain⟨M,H⟩:=gZ.1 h;obtain⟨H,E⟩:=gZ.1 H;refine .asg A.1 N V A.2 M D.2 H ?_;apply Classical.byContradiction;intro hh;rw[aal hh]at E;simp at E
 ·simp[gM]at I A D J h;obtain⟨M,H,E,U,AB⟩:=J;subst I H E;exact .cnd A D q (by omega) (by omega) (by omega) Y h
 ·simp[gM]at I A D J h;obtain⟨M,E,U,AB⟩:=J;subst I M E;obtain⟨g1,g2⟩:=gZ.1 h;exact .cas A D.2 g1 (by omega) (by omega) A9 Y g2
 ·simp[gM]at I A D J h;obtain⟨M,H,E,U⟩:=J;obtain⟨x,y,z,rfl⟩:=aqg M;obtain⟨b,rfl⟩:=IM U;subst H E;cases N:bu vs name with
  |none=>rw[N]at h;simp at h
  |some v=>
   rw[N]at h;simp only at h;by_cases V:v.sec=1
   ·simp[V]at h
   ·rw[aac V]at h;by_cases Z:v.arr=true\/¬v.ty=1
    ·rw[aal Z]at h;simp at h
    ·rw[aac Z]at h;simp only[ak0,Bool.not_eq_true,Classical.not_not]at Z;obtain⟨g1,g2⟩:=gZ.1 h;simp only[lU]at g1;obtain⟨AC,g1⟩:=gZ.1 g1;obtain⟨AD,g1⟩:=gZ.1 g1;obtain⟨AE,g1⟩:=gZ.1 g1;simp only[cR,Ds]at q;simp only[fm,Ds]at Y;exact .cnt I A D N V Z.1 Z.2 q.1 AC q.2.1 AD q.2.2.1 AE Y.1 (QG g2)
 ·simp[gM]at I A D J h;obtain⟨M,H,E,U⟩:=J;obtain⟨b,rfl⟩:=IM U;subst I M H E;obtain⟨g1,g2⟩:=gZ.1 h;simp only[fm,Ds]at Y;exact .whl A D.2 g1 Y.1 (QG g2)
 ·simp[gM]at I A D J h;obtain⟨M,H,E,U⟩:=J;obtain⟨b,rfl⟩:=IM U;subst I M H E;obtain⟨g1,g2⟩:=gZ.1 h;simp only[fm,Ds]at Y;exact .rep A D.2 g2 Y.1 (QG g1)
 ·simp[gM]at I A D J h;obtain⟨M,H,E,U⟩:=J;subst I M H E U;refine .ext A D ?_;cases lp with
  |true=>rfl
  |false=>simp at h
 ·simp[gM]at I A D J h;obtain⟨M,H,E,U⟩:=J;subst I M H E U;exact .ret A D
 ·simp[gM]at I A D J h;obtain⟨M,H,E⟩:=J;subst H E;cases N:bu vs name with
  |none=>rw[N]at h;simp at h
  |some v=>
   rw[N]at h;simp only at h;by_cases A1:v.ty<=2
   ·rw[aal A1]at h;simp at h
   ·rw[aac A1]at h;exact .cal I A D N (by omega) q M (abN.2 (by simpa using A8)) h
end Go.Am
end
section
namespace Go.Am
def Bd(succ:Nat->List Nat):Nat->Nat->Prop
 |0,i=>succ i=[]
 |h+1,i=>∀j∈succ i,Bd succ h j
theorem Bd.succ{succ:Nat->List Nat}:∀{h i:Nat},Bd succ h i->Bd succ (h+1) i
 |0,i,A=>λj D=>by rw[show succ i=[]from A]at D;simp at D
 |h+1,i,A=>λj D=>(A j D).succ
theorem Bd.le{succ:Nat->List Nat}{h E i:Nat}(A:Bd succ h i)(H:h<=E):Bd succ E i:=by
 induction H with
 |refl=>exact A
 |step _ ih=>exact ih.succ
def vF(x:aS):Prop:=x.op=9\/x.op=10
instance (x:aS):Decidable (vF x):=inferInstanceAs (Decidable (_\/_))
structure Good(I:Int->Nat)(cells:Int)(l:List aS)(r:Nat->Nat)(st:Nat->List Bool):Prop where
 len:1<=l.length/\l.length<=4096
 last:∀x,l[l.length-1]?=some x->x.op=15
 form:∀(i:Nat) x,l[i]?=some x->Yd I cells ((l.length:Int)-1) i x=true
 st0:st 0=[]
 mv:∀(i:Nat) x,l[i]?=some x->qt x (st i)=some (st (i+1))
 led:∀(i:Nat) x,l[i]?=some x->vF x->st x.a.toNat=[]
 azl:∀(i:Nat) x,l[i]?=some x->x.op≠11->∀j∈ahm l i,r j<r i
end Go.Am
end
section
namespace Go.Am
open Go
theorem IN{s:Tx}{v:Vr}:∀{l:List Vr}{n:Int},bu l s=some v->(Dl l s n).2=v
 |x::r,n,h=>by
  unfold bu at h;unfold Dl;split at h
  ·rename_i e;cases h;rw[aal e]
  ·rename_i e;rw[aac e];exact IN h
theorem nr{vs:List Vr}{s:Tx}{v:Vr}(h:bu vs s=some v):(dt vs s).2=v:=IN h
theorem FM{s:Tx}{v:Vr}:∀{l:List Vr}{n:Int},(∀v∈l,0<=b5 v)->bu l s=some v->n<=(Dl l s n).1/\(Dl l s n).1+b5 v<=n+dS l
 |x::r,n,H,h=>by
  have U:=H x (by simp);have V:0<=dS r:=by
   have:∀l:List Vr,(∀v∈l,0<=b5 v)->0<=dS l:=by
    intro l;induction l with
    |nil=>intro _;simp[dS]
    |cons y l ih=>intro h;have:=ih (λv D=>h v (by simp[D]));have:=h y (by simp);simp only[dS];omega
   exact this r (λv D=>H v (by simp[D]))
  unfold bu at h;unfold Dl;simp only[dS];split at h
  ·rename_i e;cases h;rw[aal e];simp only;omega
  ·rename_i e;rw[aac e];have:=FM (n:=n+b5 x) (λv D=>H v (by simp[D])) h;omega
theorem tY{vs:List Vr}{s:Tx}{v:Vr}(H:∀v∈vs,0<=b5 v)(h:bu vs s=some v):0<=(dt vs s).1/\(dt vs s).1+b5 v<=dS vs:=by
 have:=FM (n:=0) H h;simp only[Int.zero_add]at this;exact this
theorem IP{f:Tx}{p:Pn}:∀{l:List Pn}{i:Nat},xf l f=some p->f≠[]/\p∈l/\∃j,BU l f i=some (j,p)/\i<=j/\j<i+l.length
 |q::r,i,h=>by
  unfold xf at h;unfold BU;split at h
  ·rename_i e;cases h;exact⟨e.2,by simp,i,by rw[aal e.1],by omega,by simp⟩
  ·rename_i e;obtain⟨E,A,j,I,Y,M⟩:=IP (i:=i+1) h;exact⟨E,by simp[A],j,by rw[aac (λe'=>e ⟨e',E⟩)];exact I,by omega,by simp;omega⟩
theorem Nj{vs:List Vr}{s f:Tx}{v:Vr}{p:Pn}(D:bu vs s=some v)(N:2<v.ty)(O:lS v.ty f=some p):
 (ke vs s f).2=p/\p∈br v.ty/\∃j:Nat,(ke vs s f).1=(dt vs s).1+j/\j<(br v.ty).length:=by
 obtain⟨E,A,j,I,_,M⟩:=IP (i:=0) O;have T:=nr D;unfold ke;rw[D,T,aal ⟨rfl,N,E⟩,I];exact⟨rfl,A,j,rfl,by omega⟩
def ld:List aS->List Bool->Option (List Bool)
 |[],S=>some S
 |x::r,S=>(qt x S).bind (ld r)
theorem xn:∀(a b:List aS)(S:List Bool),ld (a++b) S=(ld a S).bind (ld b)
 |[],b,S=>rfl
 |x::a,b,S=>by
  simp only[List.cons_append,ld];cases qt x S with
  |none=>rfl
  |some J=>exact xn a b J
theorem Uf{f:aS->aS}(h:∀x,f x=x\/((x.op=9\/x.op=10)/\(f x).op=x.op))(x:aS)(S:List Bool):qt (f x) S=qt x S:=by
 rcases h x with e|⟨E,A⟩
 ·rw[e]
 ·rcases E with e|e
  ·have A:(f x).op=9:=by rw[A,e]
   simp[qt,A,e]
  ·have A:(f x).op=10:=by rw[A,e]
   simp[qt,A,e]
theorem IQ{f:aS->aS}(h:∀x,f x=x\/((x.op=9\/x.op=10)/\(f x).op=x.op)):∀(l:List aS)(S:List Bool),ld (l.map f) S=ld l S
 |[],S=>rfl
 |x::r,S=>by
  simp only[acT,ld,Uf h];cases qt x S with
  |none=>rfl
  |some J=>exact IQ h r J
theorem Ug(k:Nat)(x:aS):ou k x=x\/((x.op=9\/x.op=10)/\(ou k x).op=x.op):=by
 unfold ou;split
 ·rename_i h;exact .inr ⟨h.1,rfl⟩
 ·exact .inl rfl
theorem Nk(k:Nat)(l:List aS)(S:List Bool):ld (oO k l) S=ld l S:=IQ (Ug k) l S
inductive XC(vs:List Vr):Ex->Prop
 |num {n:Int} {line:Int} (h:0<=n):XC vs (.mk 1 n [] [] [] line)
 |qY {n:Int} {line:Int} (h:n=0\/n=1):XC vs (.mk 2 n [] [] [] line)
 |var {name:Tx} {line:Int} {v:Vr} (D:bu vs name=some v) (A4:v.arr=false) (J:v.ty<=2):XC vs (.mk 3 0 name [] [] line)
 |idx {name:Tx} {line:Int} {v:Vr} {y:Ex} (D:bu vs name=some v) (A4:v.arr=true) (J:v.ty<=2) (Z:dI y=true) (A':(aQ vs y).e=0) (ty:(aQ vs y).t=1):XC vs (.mk 4 0 name [] [y] line)
 |fld {name field:Tx} {line:Int} {v:Vr} {q:Pn} (D:bu vs name=some v) (J:2<v.ty) (T:lS v.ty field=some q) (U:cL field=true):XC vs (.mk 5 0 name field [] line)
 |one {op line:Int} {y:Ex} (A5:op=6\/op=7) (Z:dI y=true) (A':(aQ vs y).e=0) (ty:(aQ vs y).t=hZ op (aQ vs y).t):XC vs (.mk op 0 [] [] [y] line)
 |two {op line:Int} {y z:Ex} (A5:8<=op/\op<=21) (Z:dI y=true) (A':(aQ vs y).e=0) (AD:dI z=true) (AE:(aQ vs z).e=0) (ty:(aQ vs y).t=hZ op (aQ vs y).t) (AF:(aQ vs z).t=hZ op (aQ vs y).t):XC vs (.mk op 0 [] [] [y,z] line)
theorem Es{vs:List Vr}{x:Ex}(U:dI x=true)(he:(aQ vs x).e=0):XC vs x:=by
 obtain⟨op,n,name,field,sub,line⟩:=x;simp only[dI,Ds,aag,aj8,afw]at U;obtain⟨A0,I,E,A,H⟩:=U;simp only[ak0,not_and]at A0;obtain⟨A6,A7,A8,AG,AH⟩:=A0;unfold aQ at he;by_cases V:op=1\/op=2
 ·rw[aac (by omega)]at E A;simp only[aag]at E A;subst E A;have M:sub=[]:=WK (by rw[I];unfold gF;rcases V with h|h<;>subst h<;>decide);subst M;rcases V with h|h
  ·subst h;exact .num (by have:=A6 rfl;omega)
  ·subst h;have:=A7 rfl;exact .qY (by omega)
 ·rw[aac V]at he;have A9:n=0:=by
   have:=A8 (by omega);simpa using this
  subst A9;by_cases Y:op=3\/op=4\/op=5
  ·rw[aal Y]at he;rw[aal Y]at E;cases D:bu vs name with
   |none=>rw[D]at he;simp[cE]at he
   |some v=>
    rw[D]at he;simp only at he;by_cases A1:op=5
    ·subst A1;rw[aal rfl]at he A;by_cases J:v.ty<=2
     ·rw[aal J]at he;simp[cE]at he
     ·rw[aac J]at he;have M:sub=[]:=WK (by rw[I];decide);subst M;cases T:lS v.ty field with
      |none=>rw[T]at he;simp[cE]at he
      |some q=>exact .fld D (by omega) T A
    ·rw[aac A1]at he A;simp only[aag]at A;subst A;by_cases N:v.arr≠decide (op=4)\/2<v.ty
     ·rw[aal N]at he;simp[cE]at he
     ·rw[aac N]at he;simp only[ak0,ne_eq,Classical.not_not]at N;by_cases AA:op=4
      ·subst AA;rw[aal rfl]at he;obtain⟨y,rfl⟩:=IM (l:=sub) (by rw[I];decide);simp only[cR,Ds]at H;simp only[KM]at he;by_cases O:(aQ vs y).e=0
       ·rw[aac (by simpa using O)]at he;by_cases A2:(aQ vs y).t=1
        ·exact .idx D (by simpa using N.1) (by omega) H.1 O A2
        ·rw[aal A2]at he;simp[cE]at he
       ·rw[aal O]at he;exact absurd he O
      ·have AB:op=3:=by omega
       subst AB;have M:sub=[]:=WK (by rw[I];decide);subst M;exact .var D (by simpa using N.1) (by omega)
  ·rw[aac Y]at he E;rw[aac (by omega)]at A;simp only[aag]at E A;subst E A;by_cases A3:op=6\/op=7
   ·obtain⟨y,rfl⟩:=IM (l:=sub) (by rw[I];unfold gF;rcases A3 with h|h<;>subst h<;>decide);simp only[cR,Ds]at H;simp only[tyO]at he;obtain⟨g1,g2,g3,g4,g5⟩:=rT he;exact .one A3 H.1 g1 g3
   ·have AC:sub.length=2:=by rw[I];unfold gF;rw[aac (by omega),aal (by omega)]
    match sub,AC with
    |[y,z],_=>
     simp only[cR,Ds]at H;simp only[tyO]at he;obtain⟨g1,g2,g3,g4,g5⟩:=rT he;exact .two (by omega) H.1 g1 H.2.1 g2 g3 g4
def laI(n:Nat)(x:aS):aS:=if x.op=9\/x.op=10 then {x with a:=if 0<=x.a then x.a+n else 0} else x
def A1(n:Nat)(l:List aS):List aS:=l.map (laI n)
@[simp] theorem aso(n:Nat)(l:List aS):(A1 n l).length=l.length:=by simp[A1]
@[simp] theorem asp(n:Nat):A1 n []=[]:=rfl
def Flat(l:List aS):Prop:=∀x∈l,x.op≠9/\x.op≠10
theorem Flat.A1{l:List aS}(h:Flat l)(n:Nat):Am.A1 n l=l:=by
 unfold Am.A1;conv=>rhs;rw[<-List.map_id l]
 refine List.map_congr_left λx D=>?_;have:=h x D;simp[laI,this.1,this.2]
theorem Flat.app{a b:List aS}(H:Flat a)(I:Flat b):Flat (a++b):=λx D=>(abO.1 D).elim (H x) (I x)
theorem Flat.nil:Flat []:=λ_ h=>by simp at h
theorem Flat.one{x:aS}(h:x.op≠9/\x.op≠10):Flat [x]:=λy A=>by simp at A;subst A;exact h
theorem Flat.cons{x:aS}{l:List aS}(h:x.op≠9/\x.op≠10)(J:Flat l):Flat (x::l):=λy A=>by
 rcases aak.1 A with rfl|A
 ·exact h
 ·exact J y A
def psL(k:Int):Nat->List aS->List Int
 |_,[]=>[]
 |n,x::r=>if x.op=9/\x.a=k then (n:Int)::psL k (n+1) r else psL k (n+1) r
def setAt(l:List aS)(i:Int)(v:Int):List aS:=l.modify i.toNat λx=>{x with a:=v}
def Uh(l:List aS)(ps:List Int)(v:Int):List aS:=ps.foldl (λl i=>setAt l i v) l
@[simp] theorem alc(l:List aS)(i v:Int):(setAt l i v).length=l.length:=by simp[setAt]
@[simp] theorem QH:∀(ps:List Int)(l:List aS)(v:Int),(Uh l ps v).length=l.length
 |[],l,v=>rfl
 |i::r,l,v=>by
  show (Uh (setAt l i v) r v).length=_;rw[QH r];simp
def chA(E:Int):Nat->List (List aS)->List (List aS)->List aS
 |_,_,[]=>[]
 |n,[],b::r=>if r=[]then A1 n b else A1 n b++ins 9 E 0 0 0::chA E (n+b.length+1) [] r
 |n,t::M,b::r=>
  if r=[]then t++ins 10 (n+t.length+1+b.length) 0 0 0::A1 (n+t.length+1) b
  else t++ins 10 (n+t.length+2+b.length) 0 0 0::(A1 (n+t.length+1) b++ins 9 E 0 0 0::chA E (n+t.length+2+b.length) M r)
def chP(k:Int):Nat->List (List aS)->List (List aS)->List Int
 |_,_,[]=>[]
 |n,[],b::r=>psL k n b++(if r=[]then []else chP k (n+b.length+1) [] r)
 |n,t::A,b::r=>psL k (n+t.length+1) b++(if r=[]then []else chP k (n+t.length+2+b.length) A r)
def Rm(u:Bool)(a A:EL):Prop:=a.1=0->A.1=if u=true then 9 else 0
theorem Rm.or{I T:Bool}{a A b U:EL}(D:Rm I a A)(J:Rm T b U):Rm (I||T) (eN a b) (eN A U):=by
 intro h;unfold eN at h⊢;by_cases H:a.1=0
 ·rw[aac (λh=>h H)]at h;have D:=D H;have J:=J h;cases I with
  |true=>simp at D;rw[aal (by rw[D];decide),D];simp
  |false=>simp at D;rw[aac (λh=>h D)];simpa using J
 ·rw[aal H]at h;exact absurd h H
theorem Rm.zero:Rm false (0,0) (0,0):=λ_=>rfl
theorem Rm.same{u:Bool}{a A:EL}(hu:u=false)(h:A=a):Rm u a A:=by
 subst hu h;intro h;simpa using h
section
variable {vs M:List Vr} {E:Tx} (N:E≠[]) (O:∀s,bu M s=if s=E then none else bu vs s)
include N O
end
section
variable {vs M:List Vr} {E:Tx} (N:E≠[]) (O:∀s,bu M s=if s=E then none else bu vs s)
include N O
end
theorem tZ{v:Vr}(h:dA v=true):0<=b5 v:=by
 simp only[dA,Ds]at h;obtain⟨_,_,h,_⟩:=h;unfold b5;split
 ·rename_i A;rw[aal A]at h;have:=acw h;omega
 ·split<;>omega
def pnN(k:Int):Nat:=(br k).length
theorem IS{cells a n:Int}(E:0<=a)(H:0<=n)(I:a+n<=cells):nf cells a n=true:=by
 unfold nf;simp only[Ds,aag];omega
section
variable {vs:List Vr} {cells:Int} (A:∀v∈vs,dA v=true) (D:dS vs<=cells)
include A D
end
def Nl(cells:Int)(x:aS):Prop:=vF x\/(Yd pnN cells 0 0 x=true/\x.op≠15)
structure qA(cells:Int)(ex:Bool)(e:Nat)(l:List aS):Prop where
 le:l.length<=e
 run:ld l []=some []
 ok:∀x∈l,Nl cells x
 jmp:∀(i:Nat) x,l[i]?=some x->vF x->0<=x.a->x.a.toNat=e\/(x.a.toNat<=l.length/\ld (l.take x.a.toNat) []=some []/\(i<x.a.toNat\/∃y,l[x.a.toNat]?=some y/\y.op=11))
 out:∀x∈l,vF x->x.a<0->x.op=9/\(x.a= -2\/(ex=true/\x.a= -1))
def Fg(cells:Int)(ex:Bool)(l:List aS):Prop:=qA cells ex l.length l
section
variable {cells:Int} {ex:Bool}
theorem IT{k:Nat}{x:aS}:vF (ou k x)↔vF x:=by unfold vF;rw[IL]
theorem aft{k:Nat}{x:aS}(h:Nl cells x):Nl cells (ou k x):=by
 rcases Ug k x with e|⟨e,_⟩
 ·rw[e];exact h
 ·exact .inl (IT.2 e)
theorem Ui{k:Nat}{x:aS}(E:vF x)(h:0<=x.a):(ou k x).a=x.a+k:=by
 unfold ou;rw[aal ⟨E,h⟩]
theorem Uj{k:Nat}{x:aS}(h:x.a<0):(ou k x).a=x.a:=by
 unfold ou;rw[aac (by rintro ⟨_,A3⟩;omega)]
theorem WM(k j:Nat)(l:List aS):(oO k l).take j=oO k (l.take j):=by simp[oO]
theorem Nn(k i:Nat)(l:List aS):(oO k l)[i]?=(l[i]?).map (ou k):=by simp[oO]
theorem qA.wk{e e':Nat}{l:List aS}(h:qA cells ex e l)(he:e=l.length)(A3:l.length<=e'):qA cells ex e' l:=by
 subst he;refine⟨A3,h.run,h.ok,λi x D E H=>?_,h.out⟩;rcases h.jmp i x D E H with M|M
 ·right;have hi:=(aaa.1 D).1;exact⟨by omega,by rw[M,List.take_length];exact h.run,.inl (by omega)⟩
 ·exact .inr M
theorem qA.plain{l:List aS}(O:ld l []=some [])(T:∀x∈l,Nl cells x)(E:∀x∈l,¬vF x){e:Nat}(he:l.length<=e):qA cells ex e l:=
 ⟨he,O,T,λ_ x D A0=>absurd A0 (E x (aah D)),λx D A0=>absurd A0 (E x D)⟩
theorem qA.app{e e':Nat}{A B:List aS}(U:qA cells ex e' B)(he:e=A.length+e')(O:ld A []=some [])(T:∀x∈A,Nl cells x)
 (E:∀(i:Nat) x,A[i]?=some x->vF x->0<=x.a->x.a.toNat=e\/(x.a.toNat<=A.length+B.length/\ld ((A++oO A.length B).take x.a.toNat) []=some []/\(i<x.a.toNat\/∃y,(A++oO A.length B)[x.a.toNat]?=some y/\y.op=11)))
 (A6:∀x∈A,vF x->x.a<0->x.op=9/\(x.a= -2\/(ex=true/\x.a= -1))):qA cells ex e (A++oO A.length B):=by
 have hle:=U.le;refine⟨by simp;omega,?_,?_,?_,?_⟩
 ·rw[xn,O];show ld (oO _ B) []=_;rw[Nk];exact U.run
 ·intro x D;rcases abO.1 D with D|D
  ·exact T x D
  ·obtain⟨y,I,rfl⟩:=ab9.1 D;exact aft (U.ok y I)
 ·intro i x D V H;by_cases hi:i<A.length
  ·rw[aao hi]at D;rcases E i x D V H with h|h
   ·exact .inl h
   ·refine .inr ⟨by simp;omega,h.2⟩
  ·rw[abM (by omega),Nn]at D;obtain⟨y,I,rfl⟩:=aaf.1 D;have Y:=IT.1 V;have Z:0<=y.a:=by
    by_cases h:0<=y.a
    ·exact h
    ·rw[Uj (by omega)]at H;exact H
   rw[Ui Y Z];have A7:(y.a+(A.length:Int)).toNat=A.length+y.a.toNat:=by omega
   rw[A7];rcases U.jmp _ y I Y Z with h|⟨M,A',J⟩
   ·exact .inl (by omega)
   ·refine .inr ⟨by simp;omega,?_,?_⟩
    ·rw[List.take_append,acG (by omega),xn,O];show ld ((oO _ B).take _) []=_;rw[WM,Nk,Nat.add_sub_cancel_left];exact A'
    ·rcases J with J|⟨z,A8,A9⟩
     ·exact .inl (by omega)
     ·refine .inr ⟨ou A.length z,?_,by rw[IL];exact A9⟩;rw[abM (by omega),Nn,Nat.add_sub_cancel_left,A8];rfl
 ·intro x D V H;rcases abO.1 D with D|D
  ·exact A6 x D V H
  ·obtain⟨y,I,rfl⟩:=ab9.1 D;have Y:=IT.1 V;have Z:y.a<0:=by
    by_cases h:0<=y.a
    ·rw[Ui Y h]at H;omega
    ·omega
   rw[Uj Z,IL];exact U.out y I Y Z
theorem qA.jn{e e':Nat}{a b:List aS}(H:qA cells ex e a)(A1:qA cells ex e' b)(he:e=a.length+e'):qA cells ex e (jn a b):=by
 refine A1.app he H.run H.ok ?_ H.out;intro i x D E N;rcases H.jmp i x D E N with h|⟨M,A',J⟩
 ·exact .inl h
 ·refine .inr ⟨by omega,?_,?_⟩
  ·rw[ak7 M];exact A'
  ·rcases J with J|⟨y,I,A2⟩
   ·exact .inl J
   ·exact .inr ⟨y,by rw[aao (aaa.1 I).1];exact I,A2⟩
theorem Fg.jn{a b:List aS}(H:Fg cells ex a)(A1:Fg cells ex b):Fg cells ex (jn a b):=by
 unfold Fg;rw[Ue];exact qA.jn (H.wk rfl (by omega)) A1 rfl
theorem qA.tail{e A4:Nat}{l q:List aS}(h:qA cells ex A4 l)(N:A4=e)(O:ld q []=some [])(T:∀x∈q,Nl cells x)(A5:∀x∈q,vF x->x.a=0)
 (AA:∃y,(l++q)[0]?=some y/\y.op=11) (AB:(l++q).length<=e):qA cells ex e (l++q):=by
 subst N;refine⟨AB,?_,?_,?_,?_⟩
 ·rw[xn,h.run];exact O
 ·intro x D;rcases abO.1 D with D|D
  ·exact h.ok x D
  ·exact T x D
 ·intro i x D E N;by_cases hi:i<l.length
  ·rw[aao hi]at D;rcases h.jmp i x D E N with h|⟨M,A',J⟩
   ·exact .inl h
   ·refine .inr ⟨by simp;omega,by rw[ak7 M];exact A',?_⟩;rcases J with J|⟨y,I,A2⟩
    ·exact .inl J
    ·exact .inr ⟨y,by rw[aao (aaa.1 I).1];exact I,A2⟩
  ·rw[abM (by omega)]at D;have:=A5 x (aah D) E;rw[this];exact .inr ⟨by simp,rfl,.inr AA⟩
 ·intro x D E N;rcases abO.1 D with D|D
  ·exact h.out x D E N
  ·have:=A5 x D E;omega
end
section
variable {cells:Int} {ex:Bool}
theorem aa0(b:List aS)(r:List (List aS)):ly [] (b::r)=if r=[]then b else jn (b++[ins 9 ((b.length:Int)+1+(ly [] r).length) 0 0 0]) (ly [] r):=by rw[ly]
end
section
variable {vs:List Vr}
end
section
variable {vs:List Vr} {cells:Int} (D:∀v∈vs,dA v=true) (U:dS vs<=cells)
include D U
theorem WN{s:Tx}{v:Vr}(h:bu vs s=some v)(E:¬v.arr=true)(M:v.ty<=2):nf cells (dt vs s).1 1=true:=by
 have I:∀v∈vs,0<=b5 v:=λv J=>tZ (D v J);have N:=tY I h;have O:b5 v=1:=by unfold b5;rw[aac E,aac (by omega)]
 exact IS (by omega) (by omega) (by omega)
theorem aa1{s:Tx}{v:Vr}(h:bu vs s=some v)(E:v.arr=true):Pe cells (ins 7 (dt vs s).1 0 v.lo v.hi)=true:=by
 have I:∀v∈vs,0<=b5 v:=λv J=>tZ (D v J);have N:=tY I h;have H:=D v (qx h).1;simp only[dA,Ds]at H;have A:=H.2.2.1;rw[aal E]at A;have A:=acw A;have O:b5 v=v.hi-v.lo+1:=by unfold b5;rw[aal E]
 have V:nf cells (dt vs s).1 (v.hi-v.lo+1)=true:=IS (by omega) (by omega) (by omega);unfold Pe;simp only[Ds];exact⟨⟨⟨akb (show (0:Int)<=v.lo by omega),akb (show v.lo<=v.hi by omega)⟩,akb (show v.hi<=255 by omega)⟩,V⟩
theorem ub{s:Tx}{v:Vr}(h:bu vs s=some v)(M:2<v.ty):0<=(dt vs s).1/\(dt vs s).1+(br v.ty).length<=cells/\0<(br v.ty).length:=by
 have I:∀v∈vs,0<=b5 v:=λv J=>tZ (D v J);have N:=tY I h;have H:=D v (qx h).1;have T:pN v.ty=true:=by
  rcases aaT H with h|h
  ·omega
  ·exact h.2.2
 simp only[dA,Ds]at H;have Y:¬v.arr=true:=by
  intro E;have A:=H.2.2.1;rw[aal E]at A;have A:=acw A;omega
 have O:b5 v=(br v.ty).length:=by unfold b5;rw[aac Y,aal M]
 refine⟨by omega,by omega,?_⟩;unfold pN at T;have:=acw T;omega
end
theorem FN{vs:List Vr}{E:Bool}:∀{cs:List Ex}{l:List (List Sm)},cs.length<=l.length->(gD vs E cs l).1=0->∀x∈cs,(dx vs x 2).1=0
 |c::cs,b::r,A,h,x,D=>by
  obtain⟨H,I⟩:=gZ.1 h;obtain⟨_,J⟩:=gZ.1 I;rcases aak.1 D with rfl|D
  ·exact H
  ·exact FN (by simpa using A) J x D
 |_::_,[],A,_,_,_=>by simp at A
section
variable {vs:List Vr} {cells:Int} (M:∀v∈vs,dA v=true) (N:dS vs<=cells)
include M N
end
section
variable {vs:List Vr}
theorem s4{x:Ex}{t:Int}(h:(dx vs x t).1=0):(aQ vs x).e=0/\(aQ vs x).t=t:=by
 unfold dx at h;split at h
 ·rename_i he;exact absurd h he
 ·rename_i he;split at h
  ·simp at h
  ·rename_i M;exact⟨by simpa using he,by simpa using M⟩
end
def jf(ex:Bool)(x:aS):Prop:=(x.op=10->0<=x.a)/\(x.op=9->0<=x.a\/x.a= -2\/(ex=true/\x.a= -1))
def Jf(ex:Bool)(l:List aS):Prop:=∀x∈l,jf ex x
section
variable {ex:Bool}
theorem Flat.jf{l:List aS}(h:Flat l):Jf ex l:=λx A=>⟨λD=>absurd D (h x A).2,λD=>absurd D (h x A).1⟩
theorem Jf.app{a b:List aS}(H:Jf ex a)(I:Jf ex b):Jf ex (a++b):=λx A=>(abO.1 A).elim (H x) (I x)
theorem Jf.nil:Jf ex []:=λ_ h=>by simp at h
theorem Jf.one{x:aS}(h:Am.jf ex x):Jf ex [x]:=λy E=>by simp at E;subst E;exact h
theorem Jf.mv{l:List aS}(h:Jf ex l)(k:Nat):Jf ex (oO k l):=by
 intro x A;obtain⟨y,E,rfl⟩:=ab9.1 A;have:=h y E;unfold Am.jf ou at*;split
 ·rename_i J;exact⟨λ_=>by simp only;omega,λ_=>.inl (by simp only;omega)⟩
 ·exact this
theorem Jf.jn{a b:List aS}(H:Jf ex a)(I:Jf ex b):Jf ex (jn a b):=H.app (I.mv _)
theorem Jf.out{l:List aS}(h:Jf true l):Jf ex (Ep l):=by
 intro x A;obtain⟨y,E,rfl⟩:=ab9.1 A;have:=h y E;unfold Am.jf Nf at*;split
 ·exact⟨λ_=>by simp only;omega,λ_=>.inl (by simp only;omega)⟩
 ·rename_i J;refine⟨this.1,λD=>?_⟩;rcases this.2 D with h|h|h
  ·exact .inl h
  ·exact .inr (.inl h)
  ·exact absurd ⟨D,h.2⟩ J
end
end Go.Am
end
section
namespace Go.Am
open Go Go.Proofs
variable [Inhabited bB]
set_option maxRecDepth 20000
@[simp] def qL(x:aS):D:=.agg [.int .i64 x.op,.int .i64 x.a,.int .i64 x.b,.int .i64 x.n,.int .i64 x.m]
@[simp] def azm(ins:List aS)(vars cells:Int)(x y:AV):ax:=.box [.d (.list (ins.map qL)),.d (.int .i64 vars),.d (.int .i64 cells),x,y]
@[simp] def bD(l:List Bool):List D:=l.map .bool
section
variable (ins:List aS) (vars cells:Int) (s1 A E s2 H I:Nat) (S T:List D)
end
structure Mk where
 out:List aS
 cells:Int
 most:Int
 ex:List (List Int)
 lv:List Int
@[simp] def kl(n:Int):D:=.int .i64 n
@[simp] def FO(l:List Int):List D:=l.map kl
@[simp] def mkB(p:Pg)(m:Mk)(h:Int):ax:=.box [.d (.str p.name),.d (.list (p.vars.map bm)),.d (.list (p.body.map cG)),.vec 1 0 0 m.out.length,.d (.int .i64 m.cells),.d (.int .i64 h),.d (.int .i64 m.most),.vec 2 0 0 m.ex.length,.vec 3 0 0 m.lv.length]
@[simp] def mkC(p:Pg)(m:Mk)(h:Int):List ax:=[mkB p m h,.vec 5 (m.out.map qL),.vv (m.ex.map FO) none,.vec 1 (m.lv.map kl)]
@[simp] def mkR(p:Pg)(m:Mk)(h:Int)(v1 v2 v3:Nat):List (Nat×ax):=[(0,.box [.d (.str p.name),.d (.list (p.vars.map bm)),.d (.list (p.body.map cG)),.vec 1 v1 0 m.out.length,.d (.int .i64 m.cells),.d (.int .i64 h),.d (.int .i64 m.most),.vec 2 v2 0 m.ex.length,.vec 3 v3 0 m.lv.length]),(v1,.vec 5 (m.out.map qL)),(v2,.vv (m.ex.map FO) none),(v3,.vec 1 (m.lv.map kl))]
@[simp] def mkX(p:Pg)(m:Mk)(h:Int)(a b c A E H:Nat):ax:=.box [.d (.str p.name),.d (.list (p.vars.map bm)),.d (.list (p.body.map cG)),.vec a A 0 m.out.length,.d (.int .i64 m.cells),.d (.int .i64 h),.d (.int .i64 m.most),.vec b E 0 m.ex.length,.vec c H 0 m.lv.length]
def Mk.put(m:Mk)(x:aS)(t:Int):Mk:={m with out:=m.out++[x],most:=max m.most t}
def Mk.lead(m:Mk)(at_:Int):Mk:={m with out:=setAt m.out at_ m.out.length}
@[simp] theorem aqh(m:Mk)(i:Int):(m.lead i).out.length=m.out.length:=by simp[Mk.lead]
abbrev uc(p:Pg):D:=.agg [.str p.name,.list (p.vars.map bm),.list (p.body.map cG)]
theorem IU(s:Tx):∀(l:List Pn)(n:Nat),(match BU l s n with
 |some (i,q)=>iL (λq:Pn=>decide (q.name=s)) l n=i/\n<=i/\l[i-n]?=some q
 |none=>iL (λq:Pn=>decide (q.name=s)) l n= -1)
 |[],n=>rfl
 |q::l,n=>by
  have ih:=IU s l (n+1);simp only[BU,iL];by_cases h:q.name=s
  ·rw[aal h];simp[h]
  ·rw[aac h];simp only[h,decide_false,akh,acy];cases A:BU l s (n+1)with
   |none=>rw[A]at ih;exact ih
   |some x=>
    obtain⟨i,w⟩:=x;rw[A]at ih;obtain⟨D,H,E⟩:=ih;refine⟨D,by omega,?_⟩;rw[show i-n=(i-(n+1))+1 by omega];simpa using E
end Go.Am
end
section
namespace Go.Am
open Go
def Dm(ex:List (List Int))(a:List Int):List (List Int):=
 match ex.getLast? with
 |some r=>ex.dropLast++[r++a]
 |none=>[]
theorem Un(ex:List (List Int))(r a:List Int):Dm (ex++[r]) a=ex++[r++a]:=by simp[Dm]
@[simp] theorem ald(ex:List (List Int))(a:List Int):(Dm ex a).length=ex.length:=by
 rcases List.eq_nil_or_concat ex with h|⟨l,r,h⟩
 ·subst h;rfl
 ·rw[h,List.concat_eq_append,Un];simp
def Dp(m:Mk):Prop:=m.lv.length<=m.out.length/\∀r∈m.ex,r.length<=m.out.length
theorem Dp.put{m:Mk}(h:Dp m)(x:aS)(t:Int):Dp (m.put x t):=
 ⟨by have:=h.1;simp[Mk.put];omega,λr A=>by have:=h.2 r A;simp[Mk.put];omega⟩
theorem Dp.lead{m:Mk}(h:Dp m)(i:Int):Dp (m.lead i):=by
 have e:(m.lead i).out.length=m.out.length:=by simp[Mk.lead]
 exact⟨by rw[e];exact h.1,λr A=>by rw[e];exact h.2 r A⟩
end Go.Am
end
section
namespace Go.Am
open Go Go.Proofs
variable [Inhabited bB]
set_option maxRecDepth 20000
@[simp] def mqM(p:Pg)(m:Mk)(h:Int)(v1 v2 v3:Nat):List cf:=[⟨0,0,.box [.d (.str p.name),.d (.list (p.vars.map bm)),.d (.list (p.body.map cG)),.vec 1 v1 0 m.out.length,.d (.int .i64 m.cells),.d (.int .i64 h),.d (.int .i64 m.most),.vec 2 v2 0 m.ex.length,.vec 3 v3 0 m.lv.length]⟩,⟨1,v1,.vec 5 (m.out.map qL)⟩,⟨2,v2,.vv (m.ex.map FO) none⟩,⟨3,v3,.vec 1 (m.lv.map kl)⟩]
section
variable {p:Pg} (A:p.vars.length<=1000) (D:∀v∈p.vars,dA v=true)
include A D
end
end Go.Am
end
section
namespace Go.Am
open Go
def cds(A:List (List aS×Int)):List (List aS):=A.map (·.1)
def Mk.sA(m:Mk)(A:List (List aS×Int))(D:List (List aS))(c t:Int):Mk:=
 ⟨m.out++chA 0 m.out.length (cds A) D,c,max m.most t,Dm m.ex (chP (-1) m.out.length (cds A) D),m.lv++chP (-2) m.out.length (cds A) D⟩
end Go.Am
end
section
namespace Go.Am
open Go Go.Proofs
variable [Inhabited bB]
set_option maxRecDepth 20000
section
variable {p:Pg} (A:p.vars.length<=1000) (D:∀v∈p.vars,dA v=true)
include A D
end
@[simp] def mqI(p:Pg)(m:Mk)(s:Sm)(E:List Int)(v1 v2 v3 H:Nat):List cf:=[⟨0,0,mkX p m 0 3 4 5 v1 v2 v3⟩,⟨1,0,.box [.ptr 0 0 0]⟩,⟨2,0,bg s⟩,⟨3,v1,.vec 5 (m.out.map qL)⟩,⟨4,v2,.vv (m.ex.map FO) none⟩,⟨5,v3,.vec 1 (m.lv.map kl)⟩,⟨500,H,.vec 1 (E.map kl)⟩]
@[simp] def mqC(p:Pg)(m:Mk)(s:Sm)(q:Int)(E:List Int)(v1 v2 v3 A:Nat):List cf:=[⟨0,0,mkX p m 0 4 5 6 v1 v2 v3⟩,⟨1,0,.box [.ptr 0 0 0]⟩,⟨2,0,bg s⟩,⟨3,0,.box [.d (.int .i64 q)]⟩,⟨4,v1,.vec 5 (m.out.map qL)⟩,⟨5,v2,.vv (m.ex.map FO) none⟩,⟨6,v3,.vec 1 (m.lv.map kl)⟩,⟨500,A,.vec 1 (E.map kl)⟩]
@[simp] theorem asq:List.range 7=[0,1,2,3,4,5,6]:=rfl
@[simp] theorem asr:List.range 8=[0,1,2,3,4,5,6,7]:=rfl
@[simp] def mqL(p:Pg)(m:Mk)(h:Int)(s:Sm)(q:Int)(v1 v2 v3:Nat):List cf:=[⟨0,0,.box [.ptr 3 0 0]⟩,⟨1,0,bg s⟩,⟨2,0,.box [.d (.int .i64 q)]⟩,⟨3,0,mkX p m h 4 5 6 v1 v2 v3⟩,⟨4,v1,.vec 5 (m.out.map qL)⟩,⟨5,v2,.vv (m.ex.map FO) none⟩,⟨6,v3,.vec 1 (m.lv.map kl)⟩]
def Mk.ss(m:Mk):Mk:={m with ex:=m.ex++[[]]}
theorem Dp.ss{m:Mk}(h:Dp m):Dp m.ss:=
 ⟨h.1,λr A=>by
  rcases abO.1 A with A|A
  ·exact h.2 r A
  ·simp at A;subst A;simp⟩
section
variable {p:Pg} {x:Sm} {m M:Mk} (A:m.out.length<99999990)
include A
end
@[simp] def mkO(p:Pg)(m:Mk)(h:Int)(pre:List (List Int))(row:List Int):List ax:=[.box [.d (.str p.name),.d (.list (p.vars.map bm)),.d (.list (p.body.map cG)),.vec 1 0 0 m.out.length,.d (.int .i64 m.cells),.d (.int .i64 h),.d (.int .i64 m.most),.vec 2 0 0 (pre.length+1),.vec 3 0 0 m.lv.length],.vec 5 (m.out.map qL),.vv (pre.map FO) (some (.vec 4 0 0 row.length)),.vec 1 (m.lv.map kl),.vec 1 (row.map kl)]
@[simp] def mkP(p:Pg)(m:Mk)(h:Int)(pre:List (List Int))(row:List Int):List (Nat×ax):=[(0,.box [.d (.str p.name),.d (.list (p.vars.map bm)),.d (.list (p.body.map cG)),.vec 1 1 0 m.out.length,.d (.int .i64 m.cells),.d (.int .i64 h),.d (.int .i64 m.most),.vec 2 0 0 (pre.length+1),.vec 3 0 0 m.lv.length]),(1,.vec 5 (m.out.map qL)),(0,.vv (pre.map FO) (some (.vec 4 0 0 row.length))),(0,.vec 1 (m.lv.map kl)),(0,.vec 1 (row.map kl))]
def Mk.ext(m:Mk):Mk:={m with out:=m.out++[ins 9 0 0 0 0],most:=max m.most 0,ex:=Dm m.ex [(m.out.length:Int)]}
def Mk.ret(m:Mk):Mk:={m with out:=m.out++[ins 9 0 0 0 0],most:=max m.most 0,lv:=m.lv++[(m.out.length:Int)]}
end Go.Am
end
section
namespace Go.Am
open Go
inductive Vl where
 |v (n:Int) (t:Bool)
 |f (e:Int)
 deriving DecidableEq
structure Mc where
 cells:List Int
 fuel:Nat
inductive Hw where
 |on
 |lv
 |rt
 |ft (e:Int)
 deriving DecidableEq
abbrev Rr:=Hw×Mc
def bR(q:Rr)(f:Mc->Rr):Rr:=
 match q with
 |(.on,s)=>f s
 |q=>q
def vR(q:Vl)(s:Mc)(f:Int->Rr):Rr:=
 match q with
 | .f e=>(.ft e,s)
 | .v n _=>f n
def vV(q:Vl)(f:Int->Vl):Vl:=
 match q with
 | .f e=>.f e
 | .v n _=>f n
def fH(F:Mc->Rr)(s:Mc):Rr:=if s.fuel=0 then (.ft 4,s)else F ⟨s.cells,s.fuel-1⟩
def ju(C:List Int)(k:Int):Int:=C[k.toNat]?.getD 0
def Dq(C:List Int)(at_ t:Int):Int:=if t=2 then dG (decide (ju C at_≠0))else ju C at_
def dU(C:List Int)(k n:Int):List Int:=C.set k.toNat n
def No(op:Int)(l:List Int)(t:Bool):Int×Bool×Int:=
 match l with
 |[a]=>mW op a t
 |[a,b]=>jJ op a b t
 |_=>iV
def q9(op:Int)(l:List Int)(t:Bool):Vl:=if (No op l t).2.2=0 then .v (No op l t).1 (No op l t).2.1 else .f (No op l t).2.2
def Et(C:List Int)(at_:Int)(v:Vr)(n:Int):Vl:=if n<v.lo\/v.hi<n then .f 3 else .v (Dq C (at_+(n-v.lo)) v.ty) (decide (v.ty=2))
mutual
def cb(vs:List Vr)(C:List Int):Ex->Vl
 | .mk op n name field sub _=>
  if op=1 then .v n false
  else if op=2 then .v n true
  else if op=3 then .v (Dq C (dt vs name).1 (dt vs name).2.ty) (decide ((dt vs name).2.ty=2))
  else if op=4 then vV (Dr vs C sub) λk=>Et C (dt vs name).1 (dt vs name).2 k
  else if op=5 then .v (Dq C (ke vs name field).1 (ke vs name field).2.ty) (decide ((ke vs name field).2.ty=2))
  else
   (match (pt vs C sub false).2 with
    | .v _ t=>q9 op (pt vs C sub false).1 t
    | .f e=>.f e)
def Dr(vs:List Vr)(C:List Int):List Ex->Vl
 |[]=>.f (-2)
 |x::_=>cb vs C x
def pt(vs:List Vr)(C:List Int):List Ex->Bool->List Int×Vl
 |[],t=>([],.v 0 t)
 |x::r,_=>
  (match cb vs C x with
   | .f e=>([],.f e)
   | .v n t=>(n::(pt vs C r t).1,(pt vs C r t).2))
end
def zF(C:List Int)(fuel:Nat)(at_:Int)(v:Vr)(n x:Int):Rr:=if n<v.lo\/v.hi<n then (.ft 3,⟨C,fuel⟩)else (.on,⟨dU C (at_+(n-v.lo)) x,fuel⟩)
def s5(vs:List Vr)(to val:Ex)(s:Mc):Rr:=
 if cA to=3 then vR (cb vs s.cells val) s λn=>(.on,⟨dU s.cells (dt vs (dY to)).1 n,s.fuel⟩)
 else vR (Dr vs s.cells (cQ to)) s λk=>vR (cb vs s.cells val) s λn=>zF s.cells s.fuel (dt vs (dY to)).1 (dt vs (dY to)).2 k n
def jK(vs:List Vr)(name:Tx):List Tx->List Ex->Mc->Rr
 |f::I,x::xs,s=>vR (cb vs s.cells x) s λn=>jK vs name I xs ⟨dU s.cells (ke vs name f).1 n,s.fuel⟩
 |_,_,s=>(.on,s)
def uS(C:List Int)(at_ k:Int):List Int:=C.take at_.toNat++fZ k ((C.drop at_.toNat).take (br k).length)++C.drop (at_.toNat+(br k).length)
def ow(vs:List Vr)(name:Tx)(I:List Tx)(xs:List Ex)(s:Mc):Rr:=bR (jK vs name I xs s) λD=>(.on,⟨uS D.cells (dt vs name).1 (dt vs name).2.ty,D.fuel⟩)
def hM(q:Rr):Rr:=if q.1=.lv then (.on,q.2)else q
def iR(n:Int):List Int->Bool
 |a::b::r=>decide (a<=n/\n<=b)||iR n r
 |_=>false
def ud(c:List Int->Vl)(b:Mc->Rr):Nat->Mc->Rr
 |0,s=>(.ft 4,s)
 |m+1,s=>fH (λs=>vR (c s.cells) s λk=>if k=0 then (.on,s)else bR (b s) λD=>ud c b m D) s
def ue(c:List Int->Vl)(b:Mc->Rr):Nat->Mc->Rr
 |0,s=>(.ft 4,s)
 |m+1,s=>bR (b s) λs=>fH (λs=>vR (c s.cells) s λk=>if k=0 then ue c b m s else (.on,s)) s
def Uo(n to A:Int):Bool:=decide (0<=A/\to<n)||decide (A<0/\n<to)
def vG(at_ to A:Int)(b:Mc->Rr):Nat->Mc->Rr
 |0,s=>(.ft 4,s)
 |m+1,s=>fH (λs=>if Uo (ju s.cells at_) to A=true then (.on,s)else bR (b s) λs=>vR (q9 8 [ju s.cells at_,A] false) s λn=>vG at_ to A b m ⟨dU s.cells at_ n,s.fuel⟩) s
def zG(vs:List Vr)(name:Tx)(E:List Ex)(b:Mc->Rr)(s:Mc):Rr:=
 match E with
 |[x,y,z]=>vR (cb vs s.cells x) s λfrom_=>vR (cb vs s.cells y) s λM=>vR (cb vs s.cells z) s λA=>vG (dt vs name).1 M A b (s.fuel+1) ⟨dU s.cells (dt vs name).1 from_,s.fuel⟩
 |_=>(.on,s)
mutual
def iT(vs:List Vr):Sm->Mc->Rr
 | .mk op name to val E N fields H _,s=>fH (λs=>
  if op=1 then s5 vs to val s
  else if op=2 then gO vs H E s
  else if op=3 then vR (cb vs s.cells val) s λn=>gP vs H n N s
  else if op=4 then hM (zG vs name E (λq=>kf vs H q) s)
  else if op=5 then hM (ud (λC=>cb vs C val) (λq=>kf vs H q) (s.fuel+1) s)
  else if op=6 then hM (ue (λC=>cb vs C val) (λq=>kf vs H q) (s.fuel+1) s)
  else if op=7 then (.lv,s)
  else if op=8 then (.rt,s)
  else ow vs name fields E s) s
def cd(vs:List Vr):List Sm->Mc->Rr
 |[],s=>(.on,s)
 |x::r,s=>bR (iT vs x s) λD=>cd vs r D
def gO(vs:List Vr):List (List Sm)->List Ex->Mc->Rr
 |[],_,s=>(.on,s)
 |b::_,[],s=>cd vs b s
 |b::J,c::cs,s=>vR (cb vs s.cells c) s λn=>if n=0 then gO vs J cs s else cd vs b s
def gP(vs:List Vr):List (List Sm)->Int->List (List Int)->Mc->Rr
 |[],_,_,s=>(.on,s)
 |b::_,_,[],s=>cd vs b s
 |b::J,n,l::ls,s=>if iR n l=true then cd vs b s else gP vs J n ls s
def kf(vs:List Vr):List (List Sm)->Mc->Rr
 |[],s=>(.on,s)
 |b::_,s=>cd vs b s
end
def gH(p:Pg)(C:List Int)(fuel:Nat):List Int×Int×Nat:=
 match cd p.vars p.body ⟨C,fuel⟩with
 |(.ft e,s)=>(s.cells,e,s.fuel)
 |(_,s)=>(s.cells,0,s.fuel)
section
variable {vs:List Vr} {C:List Int}
theorem Up(x:Ex)(r:List Ex)(t0:Bool):pt vs C (x::r) t0=(match cb vs C x with
 | .f e=>([],.f e)
 | .v n t=>(n::(pt vs C r t).1,(pt vs C r t).2)):=by rw[pt]<;>cases cb vs C x<;>rfl
end
section
variable {vs:List Vr}
theorem aa2{x:Ex}{t:Int}(h:(dx vs x t).1=0):(aQ vs x).e=0/\(aQ vs x).t=t:=by
 unfold dx at h;split at h
 ·exact absurd h (by assumption)
 ·rename_i I;split at h
  ·simp at h
  ·rename_i D;exact⟨by simpa using I,by simpa using D⟩
theorem Np{k line:Int}:∀(A:List Tx)(xs:List Ex)(p:List Tx),xs.length=A.length->(jq vs k line A xs p).1=0->∀x∈xs,(aQ vs x).e=0
 |[],[],_,_,_,x,J=>by simp at J
 |f::A,x::xs,p,M,h,y,E=>by
  simp only[jq]at h;cases H:lS k f with
  |none=>rw[H]at h;simp at h
  |some q=>
   rw[H]at h;simp only at h;split at h
   ·simp at h
   ·split at h
    ·simp at h
    ·obtain⟨D,N⟩:=gZ.1 h;rcases aak.1 E with rfl|E
     ·exact (aa2 D).1
     ·exact Np A xs _ (by simpa using M) N y E
 |[],_::_,_,h,_,_,_=>by simp at h
 |_::_,[],_,h,_,_,_=>by simp at h
end
end Go.Am
end
section
namespace Go.Am
open Go Go.Proofs Go.Proofs.Tryz
variable [Inhabited bB]
set_option maxRecDepth 20000
def mG:List Vr->Int->List Int
 |[],_=>[]
 |v::r,n=>n::mG r (n+b5 v)
def BV:List Vr->List Int
 |[]=>[]
 |v::r=>(if v.arr=false/\v.ty<=2 then [v.init]else List.replicate (b5 v).toNat 0)++BV r
@[simp] def afx(v1 v2 v3:Nat)(A:ax)(S:List Int)(n:Int)(F:List Int):List cf:=[⟨250,1,.box [.vec 251 v1 0 S.length,.d (.int .i64 n),.vec 252 v2 0 F.length]⟩,⟨251,v1,.vec 1 (S.map kl)⟩,⟨252,v2,.vec 1 (F.map kl)⟩,⟨350,v3,A⟩]
theorem IV(l:List Vr)(T:l.length<=1000)(H:∀v∈l,dA v=true)(B C:cf)(I:B.key=150)(J:C.key=200)(k:Kt)(Q:List Int->Int->List Int->bW->Prop)
 (O:∀(Y:Env) S n F v1 v2 v3 A,Q S n F (k (.exit 0) ⟨51,aA,(2,true,.ptr 200 1 0)::(3,true,.ptr 250 1 0)::Y,B::C::afx v1 v2 v3 A S n F⟩)):∀(rest pre:List Vr)(S:List Int)(n:Int)(F:List Int)(v1 v2 v3:Nat)(A:ax),l=pre++rest->0<=n->n<=1000*pre.length->S.length=pre.length->(F.length:Int)=n->
 Q (S++mG rest n) (n+dS rest) (F++BV rest) (aK ctx 41 (.loop (Code.at (bq f41) [1,1,0,1,0,0])) ⟨51,aA,[(2,true,.ptr 200 1 0),(3,true,.ptr 250 1 0),(8,true,.d (.list (l.map bm))),(9,true,.d (.int .i64 l.length)),(10,true,.d (.int .i64 pre.length))],B::C::afx v1 v2 v3 A S n F⟩ k)
 |[],pre,S,n,F,v1,v2,v3,A,E,A7,A8,A',A0=>by
  have A9:pre.length=l.length:=by rw[E];simp
  have:=O [(8,true,.d (.list (l.map bm))),(9,true,.d (.int .i64 l.length)),(10,true,.d (.int .i64 l.length)),(11,true,.d (.bool false))] S n F v1 v2 v3 A;simp[mG,dS,BV]at this⊢;rw[A9,ai];simp[f41,this]
 |w::rest,pre,S,n,F,v1,v2,v3,A,E,A7,A8,A',A0=>by
  have A1:pre.length<l.length:=by rw[E];simp
  have A2:l[pre.length]=w:=by simp[E]
  have M:=WA (H w (by rw[E];simp));have AA:=AZ (H w (by rw[E];simp));have ih:=λF' h v1 v2 v3 A=>IV l T H B C I J k Q O rest (pre++[w]) (S++[n]) (n+b5 w) F' v1 v2 v3 A (by simp[E]) (by omega) (by simp;omega) (by simp[A']) h;have A3:IntKind.i64.wrap ((pre.length:Int)+1)=(pre.length:Int)+1:=aE (by unfold aG;omega);have U:IntKind.i64.wrap (n+b5 w)=n+b5 w:=aE (by unfold aG;omega);have A4:S.length<=4611686018427387903:=by omega
  have A5:(S.length+1)*8<=140737488355328:=by omega
  rw[ai];simp only[mG,dS,BV];rw[<-Int.add_assoc];by_cases N:w.arr=false/\w.ty<=2
  ·have V:b5 w=1:=by unfold b5;rw[aac (by simp[N.1]),aac (by omega)]
   rw[V]at M ih U AA⊢;have ih:=ih (F++[w.init]) (by simp;omega);have Z:F.length<=4611686018427387903:=by omega
   have q:(F.length+1)*8<=140737488355328:=by omega
   have y:IntKind.i64.wrap n=F.length:=by rw[<-A0];exact aE (by unfold aG;omega)
   have AB:(F.map kl++[D.int .i64 0]).set F.length (D.int .i64 w.init)=F.map kl++[D.int .i64 w.init]:=by
    rw[List.set_append_right _ _ (by simp)];simp
   simp[f41,bm,dj,N,kl]at ih M⊢;simp[A1,A2,I,J,bm,dj,N,M,A3,U,A4,A5,Z,q,y,AB,ih,kl]
  ·have ih:=ih (F++List.replicate (b5 w).toNat 0) (by simp;omega);have y:0<=b5 w/\b5 w<=4611686018427387904:=by omega
   have Z:F.length+(b5 w).toNat<=4611686018427387904:=by omega
   have q:(F.length+(b5 w).toNat)*8<=140737488355328:=by omega
   simp[f41,bm,dj,N,kl]at ih M⊢;simp[A1,A2,I,J,bm,dj,N,M,A3,U,A4,A5,Z,q,y,ih,kl]
theorem Nq(p:Pg)(T:p.vars.length<=1000)(H:∀v∈p.vars,dA v=true):ah ctx 41 [.d (uc p)] []=some (.ret (.d (.agg [.list ((mG p.vars 0).map kl),.int .i64 (dS p.vars),.list ((BV p.vars).map kl)])),[]):=by
 have A6:=λB C I J k Q O v1 v2 v3 A=>IV p.vars T H B C I J k Q O p.vars [] [] 0 [] v1 v2 v3 A rfl (by omega) (by simp) rfl rfl;rw[aiW (by simp)];simp[f41]at A6⊢;refine A6 _ _ ?_ ?_ _ (λS n F r=>S=mG p.vars 0->n=dS p.vars->F=BV p.vars->r=some (.ret (.d (.agg [.list ((mG p.vars 0).map kl),.int .i64 (dS p.vars),.list ((BV p.vars).map kl)])),[])) (λY S n F v1 v2 v3 A V AC AD=>?_) _ _ _ _ rfl rfl rfl
 ·rfl
 ·rfl
 ·subst V AC AD;simp
theorem aa3(s:Tx)(v:Vr):ah ctx 281 [.d (bm v),.ptr 0 0 0] [.box [.d (.str s)]]=some (.ret (.d (.bool (decide (v.name=s)))),[(0,.box [.d (.str s)])]):=by
 rw[aeE (by simp)];simp[f281,bm,dj]
theorem aa4(s:Tx)(p:Pn):ah ctx 252 [.d (cD p),.ptr 0 0 0] [.box [.d (.str s)]]=some (.ret (.d (.bool (decide (p.name=s)))),[(0,.box [.d (.str s)])]):=by
 rw[aex (by simp)];simp[f252,cD]
theorem FP(s:Tx):∀(rest pre:List Vr),(pre++rest).length<1000000->∀k:Kt,
 aK ctx 233 (.loop (Code.at (bq f233) [1,0,1,0,0])) ⟨19,aA,[(0,true,.d (.list ((pre++rest).map bm))),(1,true,.fn 281 [.ptr 0 0 0]),(7,true,.d (.int .i64 (pre++rest).length)),(8,true,.d (.int .i64 pre.length))],[⟨0,0,.box [.d (.str s)]⟩]⟩ k=
  if iL (λv:Vr=>decide (v.name=s)) rest pre.length<0 then k (.exit 0) ⟨19,aA,[(0,true,.d (.list ((pre++rest).map bm))),(1,true,.fn 281 [.ptr 0 0 0]),(7,true,.d (.int .i64 (pre++rest).length)),(8,true,.d (.int .i64 (pre++rest).length)),(9,true,.d (.bool false))],[⟨0,0,.box [.d (.str s)]⟩]⟩
  else k .ret ⟨19,aA,[(4,true,.d (.int .i64 (iL (λv:Vr=>decide (v.name=s)) rest pre.length)))],[⟨0,0,.box [.d (.str s)]⟩]⟩
 |[],pre,A,k=>by
  rw[ai];simp[f233,iL]
 |x::rest,pre,A,k=>by
  obtain⟨b,E⟩:∃b,b=(λv:Vr=>decide (v.name=s)) x:=⟨_,rfl⟩;have H:ah ctx 281 [.d (bm x),.ptr 0 0 0] [.box [.d (.str s)]]=some (.ret (.d (.bool b)),[(0,.box [.d (.str s)])]):=by rw[E];exact aa3 s x
  have key:iL (λv:Vr=>decide (v.name=s)) (x::rest) pre.length=if b=true then (pre.length:Int)else iL (λv:Vr=>decide (v.name=s)) rest (pre.length+1):=by rw[E];rfl
  have ih:=FP s rest (pre++[x]) (by simpa using A) k;have D:(pre.length:Int)<pre.length+(rest.length+1):=by omega
  have I:IntKind.i64.wrap ((pre.length:Int)+1)=pre.length+1:=aE (by unfold aG;simp at A;omega);have J:¬((pre.length:Int)<0):=by omega
  try simp[bm,dj]at H
  rw[ai,key];clear E key;cases b with
  |true=>simp[f233,D,I,J,H,bm,dj]
  |false=>
   simp[f233,bm,dj]at ih⊢;simp[D,I,H,ih,bm,dj]
theorem aa5(s:Tx)(l:List Vr)(A:l.length<1000000):ah ctx 233 [.d (.list (l.map bm)),.fn 281 [.ptr 0 0 0]] [.box [.d (.str s)]]=some (.ret (.d (.int .i64 (iL (λv:Vr=>decide (v.name=s)) l 0))),[(0,.box [.d (.str s)])]):=by
 have h:=λk=>FP s l [] (by simpa using A) k;rw[aep (by simp)];simp[f233]at h⊢;simp[h];intro h;rcases xj (λv:Vr=>decide (v.name=s)) l 0 with D|D
 ·exact D.symm
 ·omega
theorem FQ(s:Tx):∀(rest pre:List Pn),(pre++rest).length<1000000->∀k:Kt,
 aK ctx 241 (.loop (Code.at (bq f241) [1,0,1,0,0])) ⟨19,aA,[(0,true,.d (.list ((pre++rest).map cD))),(1,true,.fn 252 [.ptr 0 0 0]),(7,true,.d (.int .i64 (pre++rest).length)),(8,true,.d (.int .i64 pre.length))],[⟨0,0,.box [.d (.str s)]⟩]⟩ k=
  if iL (λq:Pn=>decide (q.name=s)) rest pre.length<0 then k (.exit 0) ⟨19,aA,[(0,true,.d (.list ((pre++rest).map cD))),(1,true,.fn 252 [.ptr 0 0 0]),(7,true,.d (.int .i64 (pre++rest).length)),(8,true,.d (.int .i64 (pre++rest).length)),(9,true,.d (.bool false))],[⟨0,0,.box [.d (.str s)]⟩]⟩
  else k .ret ⟨19,aA,[(4,true,.d (.int .i64 (iL (λq:Pn=>decide (q.name=s)) rest pre.length)))],[⟨0,0,.box [.d (.str s)]⟩]⟩
 |[],pre,A,k=>by
  rw[ai];simp[f241,iL]
 |x::rest,pre,A,k=>by
  obtain⟨b,E⟩:∃b,b=(λq:Pn=>decide (q.name=s)) x:=⟨_,rfl⟩;have H:ah ctx 252 [.d (cD x),.ptr 0 0 0] [.box [.d (.str s)]]=some (.ret (.d (.bool b)),[(0,.box [.d (.str s)])]):=by rw[E];exact aa4 s x
  have key:iL (λq:Pn=>decide (q.name=s)) (x::rest) pre.length=if b=true then (pre.length:Int)else iL (λq:Pn=>decide (q.name=s)) rest (pre.length+1):=by rw[E];rfl
  have ih:=FQ s rest (pre++[x]) (by simpa using A) k;have D:(pre.length:Int)<pre.length+(rest.length+1):=by omega
  have I:IntKind.i64.wrap ((pre.length:Int)+1)=pre.length+1:=aE (by unfold aG;simp at A;omega);have J:¬((pre.length:Int)<0):=by omega
  try simp[cD]at H
  rw[ai,key];clear E key;cases b with
  |true=>simp[f241,D,I,J,H,cD]
  |false=>
   simp[f241,cD]at ih⊢;simp[D,I,H,ih,cD]
theorem aa6(s:Tx)(l:List Pn)(A:l.length<1000000):ah ctx 241 [.d (.list (l.map cD)),.fn 252 [.ptr 0 0 0]] [.box [.d (.str s)]]=some (.ret (.d (.int .i64 (iL (λq:Pn=>decide (q.name=s)) l 0))),[(0,.box [.d (.str s)])]):=by
 have h:=λk=>FQ s l [] (by simpa using A) k;rw[aeq (by simp)];simp[f241]at h⊢;simp[h];intro h;rcases xj (λq:Pn=>decide (q.name=s)) l 0 with D|D
 ·exact D.symm
 ·omega
end Go.Am
end
section
namespace Go.Am
open Go
section
variable {vs:List Vr}
def vH(r:Int×Bool×Int):Prop:=r.2.2≠4
theorem aai{op:Int}{l:List Int}{t:Bool}{e:Int}(h:q9 op l t=.f e):e≠4:=by
 have A1:vH iV:=by simp[vH,iV]
 have Z:∀a b,vH (a,b,0):=λa b=>by simp[vH]
 have A6:∀p,vH (qJ p):=by
  intro p;unfold qJ;split<;>simp[vH]
 have AH:∀p,vH (uM p):=by
  intro p;unfold uM;repeat' split
  all_goals simp[vH]
 have O:∀op a t,vH (mW op a t):=by
  intro op a t;unfold mW;repeat' split
  all_goals first|exact A1|exact Z _ _|exact A6 _
 have AI:∀(c:Prop)[Decidable c](x y:Int×Bool×Int),vH x->vH y->vH (if c then x else y):=by
  intro c _ x y E AJ;split
  ·exact E
  ·exact AJ
 have T:∀op a b t,vH (jJ op a b t):=by
  intro op a b t;unfold jJ BG zn;repeat' (first|exact A1|exact Z _ _|exact A6 _|exact AH _|apply AI)
 unfold q9 at h;split at h
 ·cases h
 ·cases h;unfold No;split
  ·exact O _ _ _
  ·exact T _ _ _ _
  ·exact A1
theorem afy{C:List Int}{a:Int}{v:Vr}{n e:Int}(h:Et C a v n=.f e):e≠4:=by
 unfold Et at h;split at h
 ·cases h;decide
 ·cases h
mutual
theorem ni(C:List Int):∀(x:Ex)(e:Int),cb vs C x=.f e->e≠4
 | .mk op n name field sub line,e,h=>by
  have AK:=aaj C sub;have AL:=Uq C sub;rw[cb]at h;by_cases O:op=1
  ·rw[aal O]at h;cases h
  rw[aac O]at h;by_cases T:op=2
  ·rw[aal T]at h;cases h
  rw[aac T]at h;by_cases A7:op=3
  ·rw[aal A7]at h;cases h
  rw[aac A7]at h;by_cases A8:op=4
  ·rw[aal A8]at h;cases E:Dr vs C sub with
   |f e'=>rw[E]at h;cases h;exact AK _ E
   |v k t=>rw[E]at h;exact afy h
  rw[aac A8]at h;by_cases A9:op=5
  ·rw[aal A9]at h;cases h
  rw[aac A9]at h;cases E:(pt vs C sub false).2 with
  |f e'=>rw[E]at h;cases h;exact AL _ _ E
  |v k t=>rw[E]at h;exact aai h
theorem aaj(C:List Int):∀(l:List Ex)(e:Int),Dr vs C l=.f e->e≠4
 |[],e,h=>by simp only[Dr]at h;cases h;decide
 |x::r,e,h=>by
  simp only[Dr]at h;exact ni C x e h
theorem Uq(C:List Int):∀(l:List Ex)(t:Bool)(e:Int),(pt vs C l t).2=.f e->e≠4
 |[],t,e,h=>by simp[pt]at h
 |x::r,t,e,h=>by
  rw[Up]at h;cases E:cb vs C x with
  |f e'=>rw[E]at h;cases h;exact ni C x _ E
  |v k AM=>rw[E]at h;exact Uq C r AM e h
end
theorem QI{q:Rr}(f:Mc->Rr)(h:q.1=.on):bR q f=f q.2:=by
 obtain⟨w,s⟩:=q;simp only at h;subst h;rfl
theorem QJ{q:Rr}(f:Mc->Rr)(h:q.1≠.on):bR q f=q:=by
 obtain⟨w,s⟩:=q;cases w with
 |on=>exact absurd rfl h
 |_=>rfl
def rf(m:Nat)(s:Mc):Mc:=⟨s.cells,s.fuel+m⟩
structure Rl(m f:Nat)(q M:Rr):Prop where
 out:q.1=.ft 4->q.2.fuel=0
 more:q.1≠.ft 4->M=(q.1,rf m q.2)
 le:q.2.fuel<=f
theorem Rl.bind{m f:Nat}{q M:Rr}(h:Rl m f q M){G A':Mc->Rr}(AN:∀s,s.fuel<=f->Rl m s.fuel (G s) (A' (rf m s))):Rl m f (bR q G) (bR M A'):=by
 by_cases J:q.1=.on
 ·have e:=h.more (by rw[J];simp);have g:=AN q.2 h.le;rw[QI G J,e,QI A' (by simpa using J)];exact⟨g.out,g.more,aj4 g.le h.le⟩
 ·rw[QJ G J];refine⟨h.out,λA2=>?_,h.le⟩;rw[h.more A2,QJ A' (by simpa using J)]
theorem Rl.ret{m:Nat}{s:Mc}{w:Hw}(h:w≠.ft 4):Rl m s.fuel (w,s) (w,rf m s):=⟨λe=>absurd e h,λ_=>rfl,aae _⟩
theorem Rl.BW{m f:Nat}{s:Mc}{w:Hw}(h:w≠.ft 4)(V:s.fuel=f):Rl m f (w,s) (w,rf m s):=⟨λe=>absurd e h,λ_=>rfl,by simp[V]⟩
theorem Rl.val{m:Nat}{s:Mc}{v:Vl}(AO:∀e,v=.f e->e≠4){F F':Int->Rr}(A3:∀n,Rl m s.fuel (F n) (F' n)):Rl m s.fuel (vR v s F) (vR v (rf m s) F'):=by
 cases v with
 |f e=>exact .ret (by simpa using AO e rfl)
 |v n t=>exact A3 n
theorem Rl.step{m:Nat}{s:Mc}{F F':Mc->Rr}(A3:∀f,s.fuel=f+1->Rl m f (F ⟨s.cells,f⟩) (F' (rf m ⟨s.cells,f⟩))):Rl m s.fuel (fH F s) (fH F' (rf m s)):=by
 unfold fH rf;by_cases A4:s.fuel=0
 ·rw[aal A4];exact⟨λ_=>A4,λh=>absurd rfl h,aae _⟩
 ·have h:=A3 (s.fuel-1) (by omega);rw[aac A4,aac (by simp only;omega)];simp only at h⊢;rw[show s.fuel+m-1=s.fuel-1+m by omega];exact⟨h.out,h.more,by have:=h.le;omega⟩
theorem Rl.left{m f:Nat}{q M:Rr}(h:Rl m f q M):Rl m f (hM q) (hM M):=by
 unfold hM;by_cases Y:q.1=.lv
 ·have e:=h.more (by rw[Y];simp);rw[aal Y,e,aal (by simpa using Y)];exact⟨λhh=>by simp at hh,λ_=>rfl,h.le⟩
 ·rw[aac Y];refine⟨h.out,λA2=>?_,h.le⟩;rw[h.more A2,aac (by simpa using Y)]
theorem Rl.ite{m f:Nat}{c:Prop}[Decidable c]{a b AA AB:Rr}(O:Rl m f a AA)(T:Rl m f b AB):Rl m f (if c then a else b) (if c then AA else AB):=by
 by_cases H:c
 ·rw[aal H,aal H];exact O
 ·rw[aac H,aac H];exact T
def Mo(m:Nat)(F:Mc->Rr):Prop:=∀s,Rl m s.fuel (F s) (F (rf m s))
theorem IW{m:Nat}{c:List Int->Vl}{b:Mc->Rr}(H:∀C e,c C=.f e->e≠4)(D:Mo m b):∀(n A:Nat)(s:Mc),s.fuel<n->s.fuel+m<A->Rl m s.fuel (ud c b n s) (ud c b A (rf m s))
 |0,A,s,h,_=>by omega
 |n+1,0,s,_,h=>by omega
 |n+1,A+1,s,h,AC=>by
  unfold ud;refine Rl.step λf V=>?_;refine Rl.val (s:=⟨s.cells,f⟩) (H _) λk=>?_;refine Rl.ite (.ret (by simp)) ((D _).bind λI A0=>?_);simp only at A0;exact IW H D n A I (by omega) (by omega)
theorem IX{m:Nat}{c:List Int->Vl}{b:Mc->Rr}(H:∀C e,c C=.f e->e≠4)(D:Mo m b):∀(n A:Nat)(s:Mc),s.fuel<n->s.fuel+m<A->Rl m s.fuel (ue c b n s) (ue c b A (rf m s))
 |0,A,s,h,_=>by omega
 |n+1,0,s,_,h=>by omega
 |n+1,A+1,s,h,AC=>by
  unfold ue;refine (D s).bind λI A0=>?_;refine Rl.step λf V=>?_;refine Rl.val (s:=⟨I.cells,f⟩) (H _) λk=>?_;refine Rl.ite ?_ (.ret (by simp));exact IX H D n A ⟨I.cells,f⟩ (by simp only;omega) (by simp only;omega)
theorem IY{m:Nat}{at_ to AD:Int}{b:Mc->Rr}(D:Mo m b):∀(n A:Nat)(s:Mc),s.fuel<n->s.fuel+m<A->Rl m s.fuel (vG at_ to AD b n s) (vG at_ to AD b A (rf m s))
 |0,A,s,h,_=>by omega
 |n+1,0,s,_,h=>by omega
 |n+1,A+1,s,h,AC=>by
  unfold vG;refine Rl.step λf V=>?_;refine Rl.ite (.BW (by simp) rfl) ((D ⟨s.cells,f⟩).bind λI A0=>?_);simp only at A0;refine Rl.val (λe he=>aai he) λk=>?_;exact IY D n A ⟨dU I.cells at_ k,I.fuel⟩ (by simp only;omega) (by simp only;omega)
theorem Ur{m:Nat}{C:List Int}{f:Nat}{a:Int}{v:Vr}{n x:Int}:Rl m f (zF C f a v n x) (zF C (f+m) a v n x):=by
 unfold zF;exact Rl.ite (.BW (by simp) rfl) (.BW (by simp) rfl)
theorem WO{m:Nat}(to val:Ex):Mo m (s5 vs to val):=by
 intro s;unfold s5;refine Rl.ite (Rl.val (ni _ _) λn=>.BW (by simp) rfl) ?_;exact Rl.val (aaj _ _) λk=>Rl.val (ni _ _) λn=>Ur
theorem IZ{m:Nat}(name:Tx):∀(N:List Tx)(xs:List Ex),Mo m (jK vs name N xs)
 |[],xs,s=>by
  have e:∀s,jK vs name [] xs s=(.on,s):=λs=>by cases xs<;>rfl
  rw[e,e];exact .ret (by simp)
 |f::N,[],s=>.ret (by simp)
 |f::N,x::xs,s=>by
  unfold jK;exact Rl.val (ni _ _) λn=>IZ name N xs ⟨dU s.cells (ke vs name f).1 n,s.fuel⟩
theorem QK{m:Nat}(name:Tx)(N:List Tx)(xs:List Ex):Mo m (ow vs name N xs):=by
 intro s;unfold ow;exact (IZ name N xs s).bind λI _=>.BW (by simp) rfl
theorem Us{m:Nat}(name:Tx)(U:List Ex){b:Mc->Rr}(D:Mo m b):Mo m (zG vs name U b):=by
 intro s;unfold zG;match U with
 |[x,y,z]=>
  refine Rl.val (ni _ _) λZ=>Rl.val (ni _ _) λAQ=>Rl.val (ni _ _) λAR=>?_;exact IY D _ _ ⟨dU s.cells (dt vs name).1 Z,s.fuel⟩ (by simp only;omega) (by simp only[rf];omega)
 |[]=>exact .ret (by simp)
 |[_]=>exact .ret (by simp)
 |[_,_]=>exact .ret (by simp)
 |_::_::_::_::_=>exact .ret (by simp)
mutual
theorem WQ(m:Nat):∀x:Sm,Mo m (iT vs x)
 | .mk op name to val U AP fields AE line,s=>by
  have AF:=FR m AE;have A5:=WR m AE;rw[iT,iT];refine Rl.step λf V=>?_;refine Rl.ite (WO to val ⟨s.cells,f⟩) ?_;refine Rl.ite (AF.1 U ⟨s.cells,f⟩) ?_;refine Rl.ite (Rl.val (s:=⟨s.cells,f⟩) (ni _ _) λn=>AF.2 n AP ⟨s.cells,f⟩) ?_;refine Rl.ite ((Us name U A5 ⟨s.cells,f⟩).left) ?_;refine Rl.ite ((IW (λC e=>ni C val e) A5 _ _ ⟨s.cells,f⟩ (by simp only;omega) (by simp only[rf];omega)).left) ?_;refine Rl.ite ((IX (λC e=>ni C val e) A5 _ _ ⟨s.cells,f⟩ (by simp only;omega) (by simp only[rf];omega)).left) ?_;refine Rl.ite (.BW (by simp) rfl) ?_;refine Rl.ite (.BW (by simp) rfl) ?_;exact QK name fields U ⟨s.cells,f⟩
theorem uf(m:Nat):∀l:List Sm,Mo m (cd vs l)
 |[],s=>.ret (by simp)
 |x::r,s=>by
  rw[cd,cd];exact (WQ m x s).bind λI _=>uf m r I
theorem FR(m:Nat):∀l:List (List Sm),(∀cs,Mo m (gO vs l cs))/\(∀n ls,Mo m (gP vs l n ls))
 |[]=>⟨λcs s=>by unfold gO;exact .ret (by simp),λn ls s=>by unfold gP;exact .ret (by simp)⟩
 |b::r=>by
  have D:=uf m b;have AG:=FR m r;refine⟨λcs s=>?_,λn ls s=>?_⟩
  ·cases cs with
   |nil=>unfold gO;exact D s
   |cons c cs=>
    unfold gO;exact Rl.val (ni _ _) λn=>Rl.ite (AG.1 cs s) (D s)
  ·cases ls with
   |nil=>unfold gP;exact D s
   |cons l ls=>
    unfold gP;exact Rl.ite (D s) (AG.2 n ls s)
theorem WR(m:Nat):∀l:List (List Sm),Mo m (kf vs l)
 |[],s=>by unfold kf;exact .ret (by simp)
 |b::r,s=>by unfold kf;exact uf m b s
end
end
theorem Ut(p:Pg)(C:List Int)(fuel m:Nat):if (gH p C fuel).2.1=4 then (gH p C fuel).2.2=0 else gH p C (fuel+m)=((gH p C fuel).1,(gH p C fuel).2.1,(gH p C fuel).2.2+m):=by
 have h:=uf (vs:=p.vars) m p.body ⟨C,fuel⟩;unfold gH;have e:(rf m ⟨C,fuel⟩:Mc)=⟨C,fuel+m⟩:=rfl;rw[e]at h;generalize cd p.vars p.body ⟨C,fuel⟩=q at*;obtain⟨w,s⟩:=q;have J:=h.out;have hm:=h.more;simp only at J hm;cases w with
 |ft e=>
  by_cases he:e=4
  ·subst he;rw[aal rfl];exact J rfl
  ·rw[aac he,hm (by simpa using he)];rfl
 |on=>rw[aac (by simp),hm (by simp)];rfl
 |lv=>rw[aac (by simp),hm (by simp)];rfl
 |rt=>rw[aac (by simp),hm (by simp)];rfl
section
variable {vs:List Vr}
def Qh(lp:Bool)(q:Rr):Prop:=q.1≠.rt/\(lp=false->q.1≠.lv)/\q.1≠.ft 0
theorem Qh.on{lp:Bool}{s:Mc}:Qh lp (.on,s):=⟨by simp,λ_=>by simp,by simp⟩
theorem Qh.ft{lp:Bool}{e:Int}{s:Mc}(h:e≠0):Qh lp (.ft e,s):=⟨by simp,λ_=>by simp,by simpa using h⟩
theorem Qh.bind{lp:Bool}{q:Rr}(h:Qh lp q){G:Mc->Rr}(H:∀s,Qh lp (G s)):Qh lp (bR q G):=by
 by_cases E:q.1=.on
 ·rw[QI G E];exact H _
 ·rw[QJ G E];exact h
theorem Qh.val{lp:Bool}{v:Vl}{s:Mc}{F:Int->Rr}(I:∀e,v=.f e->e≠0)(A:∀n,Qh lp (F n)):Qh lp (vR v s F):=by
 cases v with
 |f e=>exact .ft (I e rfl)
 |v n t=>exact A n
theorem Qh.step{lp:Bool}{s:Mc}{F:Mc->Rr}(A:∀s,Qh lp (F s)):Qh lp (fH F s):=by
 unfold fH;split
 ·exact .ft (by decide)
 ·exact A _
theorem Qh.ite{lp:Bool}{c:Prop}[Decidable c]{a b:Rr}(J:Qh lp a)(M:Qh lp b):Qh lp (if c then a else b):=by
 split
 ·exact J
 ·exact M
theorem Qh.left{lp N:Bool}{q:Rr}(h:Qh lp q):Qh N (hM q):=by
 unfold hM;by_cases D:q.1=.lv
 ·rw[aal D];exact .on
 ·rw[aac D];exact⟨h.1,λ_=>D,h.2.2⟩
end
theorem ajp(b:Int):pnN b=nh b:=by
 unfold pnN;by_cases H:b∈ka
 ·simp only[ka,aak,ae6,ak5]at H;rcases H with rfl|rfl|rfl|rfl|rfl|rfl|rfl|rfl|rfl|rfl|rfl|rfl|rfl|rfl|rfl|rfl|rfl|rfl|rfl|rfl|rfl<;>decide
 ·rw[xg H];simp[ka]at H;unfold nh;simp[H]
inductive s6(L:List aS):Ms->Ms->Prop
 |refl (s:Ms):s6 L s s
 |step (s:Ms) (x:aS) (t:Ms) (M:s.fault=0) (A:L[s.at_.toNat]?=some x) (h:x.op≠15) (A2:s6 L (Pp x s) t):s6 L s t
section
variable {L:List aS}
theorem s6.trans{a b c:Ms}(N:s6 L a b)(E:s6 L b c):s6 L a c:=by
 induction N with
 |refl=>exact E
 |step s x t M A h _ ih=>exact .step _ _ _ M A h (ih E)
end
def mS(K S:List Int)(p f:Nat):Ms:=⟨K,S,p,f,0⟩
theorem s6.one{L:List aS}{K S:List Int}{p f:Nat}{x:aS}{t:Ms}(A:L[p]?=some x)(h:x.op≠15)(A0:Pp x (mS K S p f)=t):s6 L (mS K S p f) t:=
 .step _ x _ rfl (by simpa [mS]using A) h (A0▸.refl _)
section
variable {K S:List Int} {p f:Nat}
end
def ug(n X R:Nat)(x:aS):aS:=if x.op=9\/x.op=10 then {x with a:=if 0<=x.a then x.a+n else if x.op=9/\x.a= -1 then X else R} else x
def gd(L:List aS)(n X R:Nat)(l:List aS):Prop:=∀(i:Nat)(x:aS),l[i]?=some x->L[n+i]?=some (ug n X R x)
theorem Dt{n X R:Nat}{x:aS}(h:x.op≠9/\x.op≠10):ug n X R x=x:=by unfold ug;rw[aac (by omega)]
theorem afz(n X R k:Nat)(x:aS):ug n X R (ou k x)=ug (n+k) X R x:=by
 obtain⟨op,a,b,c,d⟩:=x;unfold ug ou;by_cases h:op=9\/op=10
 ·by_cases M:0<=a
  ·simp only[h,M,and_self,afh,aS.mk.injEq,true_and,and_true];rw[aal (by omega)];omega
  ·simp only[h,M,and_false,acy,afh]
 ·simp only[h,false_and,acy]
theorem aa7(n X R k:Nat)(x:aS):ug n X R (Nf k x)=ug n (n+k) R x:=by
 obtain⟨op,a,b,c,d⟩:=x;unfold ug Nf;by_cases h:op=9/\a= -1
 ·obtain⟨rfl,rfl⟩:=h;simp;omega
 ·rw[aac h];by_cases E:op=9\/op=10
  ·simp only[E,afh,h,acy]
  ·simp only[E,acy]
section
variable {L:List aS} {n X R:Nat}
theorem gd.left{a b:List aS}(h:gd L n X R (a++b)):gd L n X R a:=λi x A=>h i x (by
 rw[aao (aaa.1 A).1];exact A)
theorem gd.right{a b:List aS}(h:gd L n X R (a++b))(i:Nat)(x:aS)(A:b[i]?=some x):L[n+a.length+i]?=some (ug n X R x):=by
 have:=h (a.length+i) x (by rw[abM (by omega)];rw[show a.length+i-a.length=i by omega];exact A);rw[show n+a.length+i=n+(a.length+i) by omega];exact this
theorem gd.flat{a b:List aS}(h:gd L n X R (a++b))(H:Flat b):gd L (n+a.length) X R b:=λi x A=>by
 have hm:=H x (aah A);rw[h.right i x A,Dt hm,Dt hm]
theorem gd.jn1{a b:List aS}(h:gd L n X R (jn a b)):gd L n X R a:=gd.left h
theorem gd.jn2{a b:List aS}(h:gd L n X R (jn a b)):gd L (n+a.length) X R b:=λi x A=>by
 have:=gd.right h i (ou a.length x) (by unfold oO;rw[acm,A];rfl);rw[this,afz]
theorem gd.out{l:List aS}(h:gd L n X R (Ep l)):gd L n (n+l.length) R l:=λi x A=>by
 have:=h i (Nf l.length x) (by unfold Ep;rw[acm,A];rfl);rw[this,aa7]
theorem gd.tail{x:aS}{l:List aS}(h:gd L n X R (x::l))(A1:Flat l):gd L (n+1) X R l:=λi y U=>by
 have hm:=A1 y (aah U);have:=h (i+1) y (by simpa using U);rw[Dt hm]at this⊢;rw[show n+1+i=n+(i+1) by omega];exact this
theorem gd.last{a:List aS}{x:aS}(h:gd L n X R (a++[x]))(A:x.op≠9/\x.op≠10):L[n+a.length]?=some x:=by
 have:=h.right 0 x rfl;rw[Dt A]at this;exact this
theorem ajq{a:Int}{k:Nat}(h:a=k):ug n X R (ins 9 a 0 0 0)=ins 9 ((n+k:Nat)) 0 0 0:=by
 subst h;simp[ug,ins];omega
theorem afA{a:Int}{k:Nat}(h:a=k):ug n X R (ins 10 a 0 0 0)=ins 10 ((n+k:Nat)) 0 0 0:=by
 subst h;simp[ug,ins];omega
theorem gd.ch{t b:List aS}{D r:List (List aS)}{pl:Nat}(T:pl=if r=[]then b.length else b.length+1)(h:gd L n X R (ly (t::D) (b::r))):
 gd L n X R t/\L[n+t.length]?=some (ins 10 ((n+(t.length+1+pl):Nat)) 0 0 0)/\gd L (n+(t.length+1)) X R b/\
 (r≠[]->L[n+(t.length+1+b.length)]?=some (ins 9 ((n+(t.length+1+pl+(ly D r).length):Nat)) 0 0 0))/\gd L (n+(t.length+1+pl)) X R (ly D r)/\
 (ly (t::D) (b::r)).length=t.length+1+pl+(ly D r).length:=by
 have e:ly (t::D) (b::r)=jn (jn (t++[ins 10 ((t.length:Int)+1+(if r=[]then b else b++[ins 9 ((b.length:Int)+1+(ly D r).length) 0 0 0]).length) 0 0 0]) (if r=[]then b else b++[ins 9 ((b.length:Int)+1+(ly D r).length) 0 0 0])) (ly D r):=by
  rw[ly];simp[jn]
 rw[e]at h⊢;have V:(if r=[]then b else b++[ins 9 ((b.length:Int)+1+(ly D r).length) 0 0 0]).length=pl:=by
  rw[T];split<;>simp
 generalize I:(if r=[]then b else b++[ins 9 ((b.length:Int)+1+(ly D r).length) 0 0 0])=q at h V⊢;have N:=h.jn1;have E:=h.jn2;have Y:=N.jn1;have J:=N.jn2;have Z:=Y.right 0 _ rfl;rw[afA (k:=t.length+1+pl) (by omega)]at Z;simp only[Ue,ab1,ab2,afl,V]at E J⊢;refine⟨Y.left,Z,?_,λO=>?_,?_,?_⟩;rotate_right
 ·first|trivial|omega
 ·by_cases O:r=[]
  ·rw[aal O]at I;rw[I];exact J
  ·rw[aac O]at I;rw[<-I]at J;exact J.left
 ·rw[aac O]at I T;rw[<-I]at J;have A':=J.right 0 _ rfl;rw[ajq (k:=b.length+1+(ly D r).length) (by omega)]at A';rw[show n+(t.length+1+b.length)=n+(t.length+(0+1))+b.length+0 by omega,A',T];congr 3;omega
 ·rw[show n+(t.length+1+pl)=n+(t.length+(0+1)+pl) by omega];exact E
end
@[simp] theorem aqk{C:List Int}{k n:Int}:(dU C k n).length=C.length:=by simp[dU]
def Got(L:List aS)(K S:List Int)(p f:Nat)(q:Vl)(e:Nat):Prop:=
 match q with
 | .v k _=>s6 L (mS K S p f) (mS K (S++[k]) e f)
 | .f A=>∃t,s6 L (mS K S p f) t/\t.cells=K/\t.fuel=f/\t.fault=A
section
variable {vs:List Vr}
theorem Nr(C:List Int)(k line:Int):cb vs C (.mk 1 k [] [] [] line)=.v k false:=by simp[cb]
theorem Ns(C:List Int)(k line:Int):cb vs C (.mk 2 k [] [] [] line)=.v k true:=by simp[cb]
theorem Nt(C:List Int)(name:Tx)(line:Int):cb vs C (.mk 3 0 name [] [] line)=.v (Dq C (dt vs name).1 (dt vs name).2.ty) (decide ((dt vs name).2.ty=2)):=by simp[cb]
theorem Nu(C:List Int)(name:Tx)(y:Ex)(line:Int):cb vs C (.mk 4 0 name [] [y] line)=vV (cb vs C y) λk=>Et C (dt vs name).1 (dt vs name).2 k:=by simp[cb,Dr]
theorem Nv(C:List Int)(name field:Tx)(line:Int):cb vs C (.mk 5 0 name field [] line)=.v (Dq C (ke vs name field).1 (ke vs name field).2.ty) (decide ((ke vs name field).2.ty=2)):=by simp[cb]
theorem Nw(C:List Int)(op line:Int)(y:Ex)(E:6<=op):cb vs C (.mk op 0 [] [] [y] line)=(match cb vs C y with| .f e=>.f e| .v a t=>q9 op [a] t):=by
 rw[cb];rw[aac (by omega),aac (by omega),aac (by omega),aac (by omega),aac (by omega)];cases h:cb vs C y<;>simp[pt,h]
theorem Nx(C:List Int)(op line:Int)(y z:Ex)(E:6<=op):cb vs C (.mk op 0 [] [] [y,z] line)=(match cb vs C y with| .f e=>.f e| .v a _=>(match cb vs C z with| .f e=>.f e| .v b t=>q9 op [a,b] t)):=by
 rw[cb];rw[aac (by omega),aac (by omega),aac (by omega),aac (by omega),aac (by omega)];cases h:cb vs C y<;>cases H:cb vs C z<;>simp[pt,h,H]
end
theorem Got.fault{L:List aS}{K S:List Int}{p f:Nat}{A:Int}{e e':Nat}(h:Got L K S p f (.f A) e):Got L K S p f (.f A) e':=h
section
variable {vs:List Vr} {L:List aS} {v:Nat} (D:∀w∈vs,dA w=true) (I:(v:Int)=dS vs)
include D I
theorem WS{a:Int}(h:nf v a 1=true):a.toNat<v/\0<=a:=by
 unfold nf at h;simp only[Ds,aag]at h;omega
theorem Uu{name:Tx}{w:Vr}(hw:bu vs name=some w)(J:w.arr=true){k:Int}(M:¬(k<w.lo\/w.hi<k)):((dt vs name).1+(k-w.lo)).toNat<v/\0<=(dt vs name).1+(k-w.lo):=by
 have h:=aa1 (cells:=v) D (by omega) hw J;unfold Pe nf ins at h;simp only[Ds,aag]at h;omega
end
end Go.Am
end
section
namespace Go.Am
open Go Go.Proofs Go.Proofs.Tryz
variable [Inhabited bB]
set_option maxRecDepth 20000
@[simp] def okZ(p:Int×Bool):AV:=.bM [.d (.int .i64 p.1),.d (.bool p.2)]
@[simp] def afC(p:Int×Int):AV:=.bM [.d (.int .i64 p.1),.d (.int .i64 p.2)]
theorem WT(a b:Int)(E:aG a)(V:aG b):ah ctx 244 [.d (.int .i64 a),.d (.int .i64 b)] []=some (.ret (okZ (kE (a+b))),[]):=by
 have hw:IntKind.i64.wrap (a+b)=(a+b+9223372036854775808)%18446744073709551616-9223372036854775808:=IntKind.wrap_i64 _;unfold aG at E V;rw[aes (by simp)];unfold kE;by_cases D:0<=a<;>by_cases A:0<=b<;>by_cases O:0<=IntKind.i64.wrap (a+b)<;>by_cases N:(-9223372036854775808<=a+b/\a+b<=9223372036854775807)<;>
  first
  |(exfalso;omega)
  |(simp[f244,D,A,O,N];try omega)
theorem I0(a b:Int)(E:aG a)(V:aG b):ah ctx 243 [.d (.int .i64 a),.d (.int .i64 b)] []=some (.ret (okZ (kE (a-b))),[]):=by
 have hw:IntKind.i64.wrap (a-b)=(a-b+9223372036854775808)%18446744073709551616-9223372036854775808:=IntKind.wrap_i64 _;unfold aG at E V;rw[aer (by simp)];unfold kE;by_cases D:0<=a<;>by_cases A:0<=b<;>by_cases O:0<=IntKind.i64.wrap (a-b)<;>by_cases N:(-9223372036854775808<=a-b/\a-b<=9223372036854775807)<;>
  first
  |(exfalso;omega)
  |(simp[f243,D,A,O,N];try omega)
theorem FT(a:Int)(E:aG a):ah ctx 277 [.d (.int .i64 a)] []=some (.ret (.d (.int .u64 (a.natAbs:Nat))),[]):=by
 unfold aG at E;rw[aeC (by simp)];have D:=IntKind.wrap_u64 a;by_cases h:a<0
 ·have A:IntKind.u64.wrap (-IntKind.u64.wrap a)=(a.natAbs:Nat):=by rw[D,IntKind.wrap_u64];omega
  simp[f277,h,A]
 ·have A:IntKind.u64.wrap a=(a.natAbs:Nat):=by rw[D];omega
  simp[f277,h,A]
theorem J4(n:Nat)(Ao:n<18446744073709551616)(s:Bool):ah ctx 278 [.d (.int .u64 n),.d (.bool s)] []=some (.ret (okZ (kE (if s=true then-(n:Int)else n))),[]):=by
 rw[aeD (by simp)];have D:=IntKind.wrap_i64 (n:Int);unfold kE;cases s
 ·by_cases h:n<=9223372036854775807
  ·have A:(n:Int)<=9223372036854775807:=by omega
   have O:IntKind.i64.wrap (n:Int)=n:=by rw[D];omega
   have N: -9223372036854775808<=(n:Int):=by omega
   simp[f278,A,O,N]
  ·have A:¬(n:Int)<=9223372036854775807:=by omega
   simp[f278,A]
 ·by_cases h:n<=9223372036854775808
  ·have A:(n:Int)<=9223372036854775808:=by omega
   have O:IntKind.i64.wrap (-(IntKind.i64.wrap (n:Int)))= -(n:Int):=by rw[D,IntKind.wrap_i64];omega
   have N: -9223372036854775808<= -(n:Int):=by omega
   have AZ: -(n:Int)<=9223372036854775807:=by omega
   simp[f278,A,O,N,AZ]
  ·have A:¬(n:Int)<=9223372036854775808:=by omega
   have N:¬ -9223372036854775808<= -(n:Int):=by omega
   simp[f278,A,N]
def xo(k:IntKind)(a b:Int):Int:=k.wrap (BitVec.ofInt k.bits a &&& BitVec.ofInt k.bits b).toNat
def I1(k:IntKind)(a b:Int):Int:=k.wrap (BitVec.ofInt k.bits a ||| BitVec.ofInt k.bits b).toNat
theorem Du(k:IntKind)(a b:Int):ej .and k a b=some (true,.int k (xo k a b)):=rfl
theorem Uv(k:IntKind)(a b:Int):ej .or k a b=some (true,.int k (I1 k a b)):=rfl
theorem ajr(a:Nat)(E:a<18446744073709551616):xo .u64 (a:Int) 4294967295=((a%4294967296:Nat):Int):=by
 show IntKind.u64.wrap (BitVec.ofInt 64 (a:Int) &&& BitVec.ofInt 64 4294967295).toNat=_;have e:(BitVec.ofInt 64 (a:Int) &&& BitVec.ofInt 64 4294967295).toNat=a%4294967296:=by
  rw[BitVec.toNat_and,BitVec.toNat_ofInt,BitVec.toNat_ofInt];have A_:((a:Int)%((2^64:Nat):Int)).toNat=a:=by omega
  have Aa:((4294967295:Int)%((2^64:Nat):Int)).toNat=4294967295:=by decide
  rw[A_,Aa];exact Nat.and_two_pow_sub_one_eq_mod a 32
 rw[e,IntKind.wrap_u64];omega
theorem Uw(x y:Nat)(A4:x<18446744073709551616)(A5:y<18446744073709551616):
 ah ctx 276 [.d (.int .u64 x),.d (.int .u64 y)] []=some (.ret (.bM [.d (.int .u64 (x*y/18446744073709551616:Nat)),.d (.int .u64 (x*y%18446744073709551616:Nat))]),[]):=by
 have A6:∀a:Nat,a<18446744073709551616->xo .u64 (a:Int) 4294967295=((a%4294967296:Nat):Int):=λa E=>ajr a E;have Z:∀a:Nat,(a:Int).fdiv 4294967296=((a/4294967296:Nat):Int):=λa=>by rw[Int.fdiv_eq_ediv_of_nonneg _ (by decide)];omega
 have mul':∀a b:Nat,(a:Int)*(b:Int)=((a*b:Nat):Int):=λa b=>(Int.natCast_mul a b).symm;have A1:∀a b:Nat,(a:Int)+(b:Int)=((a+b:Nat):Int):=λa b=>(Int.natCast_add a b).symm;have T:∀a:Nat,a<18446744073709551616->IntKind.u64.wrap (a:Int)=(a:Int):=λa h=>by rw[IntKind.wrap_u64];omega
 have AJ:∀a:Nat,IntKind.u64.wrap (a:Int)=((a%18446744073709551616:Nat):Int):=λa=>by rw[IntKind.wrap_u64];omega
 obtain⟨A2,A',A0,U⟩:=Lib.mul64_hi x y A4 A5;have A7:=Lib.half_mul_le (a:=x/4294967296) (b:=y/4294967296) (by omega) (by omega);have A8:=Lib.half_mul_le (a:=x/4294967296) (b:=y%4294967296) (by omega) (by omega);have A9:=Lib.half_mul_le (a:=x%4294967296) (b:=y/4294967296) (by omega) (by omega);have AK:=A6 x A4;have AL:=A6 y A5;have f1:=Z x;have f2:=Z y;have Ab:x%4294967296<4294967296:=by omega
 have Ac:x/4294967296<4294967296:=by omega
 have Ad:y%4294967296<4294967296:=by omega
 have Ae:y/4294967296<4294967296:=by omega
 have AM:IntKind.u64.wrap ((x:Int)*(y:Int))=((x*y%18446744073709551616:Nat):Int):=by rw[mul',AJ]
 have AN:x*y/18446744073709551616<18446744073709551616:=by
  have:x*y<18446744073709551616*18446744073709551616:=Nat.mul_lt_mul_of_lt_of_lt A4 A5;omega
 generalize x*y%18446744073709551616=lo at AM⊢;generalize x*y/18446744073709551616=hi at U AN⊢;generalize x%4294967296=H at A2 A' A0 U A7 A8 A9 AK Ab;generalize x/4294967296=I at A2 A' A0 U A7 A8 A9 f1 Ac;generalize y%4294967296=J at A2 A' A0 U A7 A8 A9 AL Ad;generalize y/4294967296=M at A2 A' A0 U A7 A8 A9 f2 Ae;generalize AO:I*J+H*J/4294967296=t at A' A0 U;generalize AP:t%4294967296+H*M=AA at A0 U;have AQ:IntKind.u64.wrap ((H:Int)*(J:Int))=((H*J:Nat):Int):=by rw[mul',T _ A2]
 have AR:IntKind.u64.wrap ((I:Int)*(J:Int))=((I*J:Nat):Int):=by rw[mul',T _ (by omega)]
 have AD:IntKind.u64.wrap (((I*J:Nat):Int)+((H*J/4294967296:Nat):Int))=(t:Int):=by rw[A1,AO,T _ A']
 have AS:IntKind.u64.wrap ((H:Int)*(M:Int))=((H*M:Nat):Int):=by rw[mul',T _ (by omega)]
 have AE:IntKind.u64.wrap (((t%4294967296:Nat):Int)+((H*M:Nat):Int))=(AA:Int):=by rw[A1,AP,T _ A0]
 have AT:IntKind.u64.wrap ((I:Int)*(M:Int))=((I*M:Nat):Int):=by rw[mul',T _ (by omega)]
 have AB:IntKind.u64.wrap (((I*M:Nat):Int)+((t/4294967296:Nat):Int))=((I*M+t/4294967296:Nat):Int):=by rw[A1,T _ (by omega)]
 have AC:IntKind.u64.wrap (((I*M+t/4294967296:Nat):Int)+((AA/4294967296:Nat):Int))=(hi:Int):=by rw[A1,U,T _ AN]
 have Af:=λa=>Z a;have mt:=A6 t A';rw[aeB (by simp)];have f3:=Z t;have f4:=Z AA;have f5:=Z (H*J);clear Af A6 Z A1 T AJ AO AP U;generalize Ap:H*J/4294967296=Aq at AD f5;generalize Ar:H*J=As at AQ f5;generalize At:I*J=Au at AR AD;generalize Av:H*M=Aw at AS AE;generalize Ax:t/4294967296=Ag at AB AC f3;generalize Ay:t%4294967296=Az at AE mt;generalize B':AA/4294967296=wd at AC f4;generalize B0:I*M+Ag=B1 at AB AC;generalize B2:I*M=B3 at AT AB;simp[f276, -ej.eq_6,Du,Bc,IntKind.bits,AK,AL,f1,f2,f3,f4,f5,mt,AQ,AR,AD,AS,AE,AT,AB,AC,AM]
theorem WU(a b:Int)(E:aG a)(V:aG b):ah ctx 245 [.d (.int .i64 a),.d (.int .i64 b)] []=some (.ret (okZ (kE (a*b))),[]):=by
 have AU:=FT a E;have AW:=FT b V;unfold aG at E V;have Ah:a.natAbs<18446744073709551616:=by omega
 have Ai:b.natAbs<18446744073709551616:=by omega
 have hm:=Uw _ _ Ah Ai;have AX:=aaR a b;have AY:=λs=>J4 (a.natAbs*b.natAbs%18446744073709551616) (by omega) s;generalize A4:a.natAbs=x at*;generalize A5:b.natAbs=y at*;have mul':((x*y:Nat):Int)=(x:Int)*(y:Int):=Int.natCast_mul x y;generalize x*y=p at*;have A3:(a<0↔b<0)=(decide (a<0)=decide (b<0)):=by simp
 rw[aet (by simp)];have AF:¬p/18446744073709551616=0->kE (a*b)=(0,false):=by
  intro h;unfold kE;rw[aac];rw[AX];split<;>omega
 by_cases AG:p/18446744073709551616=0
 ·have Aj:p%18446744073709551616=p:=by omega
  rw[Aj]at AY hm;rw[AG]at hm;have e:(if (decide (a<0) != decide (b<0))=true then-(p:Int)else (p:Int))=a*b:=by
   rw[AX];by_cases h:decide (a<0)=decide (b<0)<;>simp[h]
  have AH:=AY (decide (a<0) != decide (b<0));rw[e]at AH;try simp at hm
  try simp at AH
  simp[f245,AU,AW,hm,AH]
 ·have AF:=AF AG;have Ak:¬((p/18446744073709551616:Nat):Int)=0:=by omega
  generalize p/18446744073709551616=q at*;generalize p%18446744073709551616=r at*;try simp at hm
  simp[f245,AU,AW,hm,AF,AG,Ak]
theorem WV(a b:Int)(E:aG a)(V:aG b):ah ctx 246 [.d (.int .i64 a),.d (.int .i64 b)] []=some (.ret (afC (Ed a b)),[]):=by
 rw[aeu (by simp)];unfold Ed;by_cases Y:b=0
 ·simp[f246,Y]
 ·by_cases D:a= -9223372036854775808
  ·by_cases A:b= -1
   ·simp[f246,Y,D,A]
   ·have w:IntKind.i64.wrap (a.tdiv b)=a.tdiv b:=aE (by
     have AI:=BF a b;unfold aG at*;have hle:a.natAbs/b.natAbs<=9223372036854775808:=by
      have:=Nat.div_le_self a.natAbs b.natAbs;omega
     have Al:decide (a<0)=decide (b<0)->a.natAbs/b.natAbs<=4611686018427387904:=by
      intro A3;rw[D]at A3;simp at A3;have An:2<=b.natAbs:=by omega
      have O:=Nat.div_le_div_left An (by decide) (a:=a.natAbs);have N:a.natAbs=9223372036854775808:=by omega
      rw[N]at O⊢;exact O
     generalize a.natAbs/b.natAbs=q at*;split at AI
     ·rename_i A3;have:=Al A3;omega
     ·omega)
    rw[D]at w;simp at w;simp[f246,Y,D,A,w]
  ·have w:IntKind.i64.wrap (a.tdiv b)=a.tdiv b:=aE (by
    have AI:=BF a b;unfold aG at*;have hle:a.natAbs/b.natAbs<=a.natAbs:=Nat.div_le_self _ _;generalize a.natAbs/b.natAbs=q at*;split at AI<;>omega)
   simp[f246,Y,D,w]
theorem WW(a b:Int)(E:aG a)(V:aG b):ah ctx 247 [.d (.int .i64 a),.d (.int .i64 b)] []=some (.ret (afC (Ee a b)),[]):=by
 rw[aev (by simp)];unfold Ee;by_cases Y:b=0
 ·simp[f247,Y]
 ·by_cases A:b= -1
  ·simp[f247,Y,A]
  ·simp[f247,Y,A]
theorem Dv(b:Bool):ah ctx 167 [.d (.bool b)] []=some (.ret (.d (.int .i64 (dG b))),[]):=by
 rw[ad6 (by simp)];cases b<;>simp[f167,dG]
@[simp] theorem wr0:IntKind.i64.wrap 0=0:=rfl
@[simp] theorem wr1:IntKind.i64.wrap 1=1:=rfl
@[simp] theorem wr2:IntKind.i64.wrap 2=2:=rfl
@[simp] theorem wr3:IntKind.i64.wrap 3=3:=rfl
@[simp] theorem wr4:IntKind.i64.wrap 4=4:=rfl
@[simp] theorem azr:IntKind.i64.wrap (-1)= -1:=rfl
@[simp] theorem wu0:IntKind.u64.wrap 0=0:=rfl
@[simp] theorem wu1:IntKind.u64.wrap 1=1:=rfl
theorem Ux(op a:Int)(t:Bool)(A:aG a)(V:t=true->a=0\/a=1):ah ctx 191 [.d (.int .i64 op),.d (.int .i64 a),.d (.bool t)] []=some (.ret (AU (mW op a t)),[]):=by
 have T:=I0 0 a (by unfold aG;omega) A;rw[ad9 (by simp)];unfold mW;generalize kE (0-a)=p at*;cases t
 ·by_cases U:op=6
  ·simp at T;cases D:p.2<;>simp[f191,U,D,T,qJ]
  ·simp[f191,U,iV]
 ·rcases V rfl with rfl|rfl<;>by_cases J:op=7
  ·simp[f191,J,dG,wr0,wr1]
  ·simp[f191,J,iV]
  ·simp[f191,J,dG,wr0,wr1]
  ·simp[f191,J,iV]
theorem I3(op a b:Int)(A:a=0\/a=1)(E:b=0\/b=1):ah ctx 192 [.d (.int .i64 op),.d (.int .i64 a),.d (.int .i64 b)] []=some (.ret (AU (BG op a b)),[]):=by
 have Y:xo .i64 0 0=0:=by decide
 have Z:xo .i64 0 1=0:=by decide
 have q:xo .i64 1 0=0:=by decide
 have y:xo .i64 1 1=1:=by decide
 have A':I1 .i64 0 0=0:=by decide
 have A0:I1 .i64 0 1=1:=by decide
 have A1:I1 .i64 1 0=1:=by decide
 have A2:I1 .i64 1 1=1:=by decide
 rw[aea (by simp)];unfold BG;have I:op=13\/op=14\/op=20\/op=19\/op=21\/(op≠13/\op≠14/\op≠20/\op≠19/\op≠21):=by omega
 rcases A with rfl|rfl<;>rcases E with rfl|rfl<;>rcases I with rfl|rfl|rfl|rfl|rfl|⟨A3,A4,H,A5,A6⟩<;>
  simp[f192,Dv, -ej.eq_6, -ej.eq_7,Du,Uv,dG,iV, *]
theorem I4(op a b:Int)(h:13<=op/\op<=18):ah ctx 194 [.d (.int .i64 op),.d (.int .i64 a),.d (.int .i64 b)] []=some (.ret (AU (zn op a b)),[]):=by
 rw[aec (by simp)];unfold zn;have I:op=13\/op=14\/op=15\/op=16\/op=17\/op=18:=by omega
 rcases I with rfl|rfl|rfl|rfl|rfl|rfl<;>simp[f194,Dv,bne]
theorem I5(op a b:Int)(h:8<=op/\op<=12)(A:aG a)(E:aG b):ah ctx 193 [.d (.int .i64 op),.d (.int .i64 a),.d (.int .i64 b)] []=some (.ret (AU (zn op a b)),[]):=by
 have q1:=WT a b A E;have q2:=I0 a b A E;have q3:=WU a b A E;have M:=WV a b A E;have N:=WW a b A E;have I:op=8\/op=9\/op=10\/op=11\/op=12:=by omega
 rw[aeb (by simp)];unfold zn;generalize kE (a+b)=f1 at*;generalize kE (a-b)=f2 at*;generalize kE (a*b)=f3 at*;generalize Ed a b=f4 at*;generalize Ee a b=f5 at*;simp at q1 q2 q3 M N;rcases I with rfl|rfl|rfl|rfl|rfl
 ·cases D:f1.2<;>simp[f193,q1,D,qJ]
 ·cases D:f2.2<;>simp[f193,q2,D,qJ]
 ·cases D:f3.2<;>simp[f193,q3,D,qJ]
 ·by_cases H:f4.2=3
  ·simp[f193,M,H,uM]
  ·by_cases O:f4.2=0<;>simp[f193,M,O,H,uM]
 ·by_cases H:f5.2=3
  ·simp[f193,N,H,uM]
  ·by_cases O:f5.2=0<;>simp[f193,N,O,H,uM]
@[simp] def jD(n:Int):D:=.int .i64 n
theorem rK(b:Bool):ah ctx 128 [.d (.bool b)] []=some (.ret (.d (.int .i64 (dG b))),[]):=by
 rw[adU (by simp)];cases b<;>simp[f128,dG]
theorem aa8(a b q e:Int)(he:aG e)(I:aG b):ah ctx 195 [.ptr 0 0 0] [.box [.vec 1 0 0 4],.vec 1 [.int .i64 a,.int .i64 b,.int .i64 q,.int .i64 e]]=
 some (.ret (.bM []),[(0,.box [.vec 1 0 0 4]),(0,.vec 1 [.int .i64 a,.int .i64 b,.int .i64 q,.int .i64 (xK e b)])]):=by
 rw[TX (by simp)];unfold xK;by_cases h:e<b
 ·have w:IntKind.i64.wrap (e+1)=e+1:=aE (by unfold aG at*;omega);simp[f195,h,w,aj]
 ·simp[f195,h,aj]
theorem aa9(a b q e p r:Int)(he:aG e)(I:aG b):ah ctx 195 [.ptr 0 0 0] [.box [.vec 1 0 0 6],.vec 1 [.int .i64 a,.int .i64 b,.int .i64 q,.int .i64 e,.int .i64 p,.int .i64 r]]=
 some (.ret (.bM []),[(0,.box [.vec 1 0 0 6]),(0,.vec 1 [.int .i64 a,.int .i64 b,.int .i64 q,.int .i64 (xK e b),.int .i64 p,.int .i64 r])]):=by
 rw[TX (by simp)];unfold xK;by_cases h:e<b
 ·have w:IntKind.i64.wrap (e+1)=e+1:=aE (by unfold aG at*;omega);simp[f195,h,w,aj]
 ·simp[f195,h,aj]
theorem Dw(k a b q e:Int)(N:k=10\/k=11)(he:aG e)(I:aG b):ah ctx 126 [.d (.int .i64 k),.vec 0 0 0 4] [.vec 1 [.int .i64 a,.int .i64 b,.int .i64 q,.int .i64 e]]=
 some (.ret (.bM []),[(0,.vec 1 ((rF k a b q e).map jD))]):=by
 have hu:=aa8 a b q e he I;have A:=rK;unfold rF;generalize xK e b=u at*;rw[TS (by simp)];rcases N with rfl|rfl
 ·by_cases h:a=0<;>simp[f126,h,hu,A,aj]
 ·by_cases h:a=0
  ·subst h;by_cases O:q=0<;>simp[f126,O,hu,A,aj]
  ·simp[f126,h,hu,A,aj]
set_option maxHeartbeats 4000000 in
theorem QL(a b q e p r:Int)(he:aG e)(I:aG b):ah ctx 126 [.d (.int .i64 12),.vec 0 0 0 6] [.vec 1 [.int .i64 a,.int .i64 b,.int .i64 q,.int .i64 e,.int .i64 p,.int .i64 r]]=
 some (.ret (.bM []),[(0,.vec 1 ((nb 12 a b q e p r).map jD))]):=by
 have hu:=λa q e p r he=>aa9 a b q e p r he I;have A:=rK;unfold nb Ya;rw[TS (by simp)];have T:aG 0:=by unfold aG;omega
 by_cases E:a=0
 ·subst E;by_cases H:r=0
  ·simp[f126,H,A,aj,bne]
  ·by_cases J:e<b<;>simp[f126,H,A,hu,he,J,aj,bne]
 ·by_cases H:r=0
  ·subst H;by_cases M:p=0
   ·subst M;by_cases J:0<b<;>simp[f126,E,A,hu,T,J,aj,bne]
   ·simp[f126,E,M,A,aj,bne]
  ·by_cases M:p=0
   ·subst M;by_cases J:e<b<;>simp[f126,E,H,A,hu,he,J,aj,bne]
   ·by_cases J:e<b<;>simp[f126,E,H,M,A,hu,he,J,aj,bne]
set_option maxHeartbeats 4000000 in
theorem A2(k a b q e p r:Int)(N:k=13\/k=14)(he:aG p):ah ctx 127 [.d (.int .i64 k),.vec 0 0 0 6] [.vec 1 [.int .i64 a,.int .i64 b,.int .i64 q,.int .i64 e,.int .i64 p,.int .i64 r]]=
 some (.ret (.bM []),[(0,.vec 1 ((nb k a b q e p r).map jD))]):=by
 have A:=rK;unfold nb Yb Yc;unfold aG at he;rw[adT (by simp)];rcases N with rfl|rfl
 ·by_cases I:b=0
  ·by_cases E:a=0
   ·simp[f127,E,I,A,aj,bne]
   ·by_cases H:r=0
    ·by_cases J:p<9223372036854775807
     ·have w:IntKind.i64.wrap (p+1)=p+1:=aE (by unfold aG at*;omega);simp[f127,E,I,H,J,w,A,aj,bne]
     ·simp[f127,E,I,H,J,A,aj,bne]
    ·simp[f127,E,I,H,A,aj,bne]
  ·by_cases E:a=0<;>by_cases H:r=0<;>simp[f127,E,I,H,A,aj,bne]
 ·by_cases I:b=0
  ·by_cases E:a=0
   ·simp[f127,E,I,A,aj,bne]
   ·by_cases H:r=0
    ·by_cases J: -9223372036854775808<p
     ·have w:IntKind.i64.wrap (p-1)=p-1:=aE (by unfold aG at*;omega);simp[f127,E,I,H,J,w,A,aj,bne]
     ·simp[f127,E,I,H,J,A,aj,bne]
    ·simp[f127,E,I,H,A,aj,bne]
  ·by_cases E:a=0<;>by_cases H:r=0<;>simp[f127,E,I,H,A,aj,bne]
theorem Eu{s:Tx}{w:Vr}:∀(l:List Vr)(n:Int)(a:Nat),bu l s=some w->∃i:Nat,iL (λv:Vr=>decide (v.name=s)) l a=((a+i:Nat):Int)/\l[i]?=some w/\(mG l n)[i]?=some (Dl l s n).1
 |[],_,_,h=>by simp[bu]at h
 |v::r,n,a,h=>by
  simp only[bu]at h;simp only[iL,mG,Dl];by_cases J:v.name=s
  ·rw[aal J]at h;cases h;exact⟨0,by simp[J],rfl,by simp[J]⟩
  ·rw[aac J]at h;obtain⟨i,A,E,M⟩:=Eu r (n+b5 v) (a+1) h;refine⟨i+1,?_,by simpa using E,?_⟩
   ·simp only[J,decide_false,akh,acy];rw[A];congr 1;omega
   ·rw[aac J];simpa using M
theorem s7:∀(l:List Vr)(n:Int),(mG l n).length=l.length
 |[],_=>rfl
 |v::r,n=>by simp[mG,s7 r]
def Dx(v:Vr):D:=.list ((br v.ty).map cD)
@[simp] def rnB(p:Pg)(C:List Int)(f v:Nat):ax:=.box [.d (.str p.name),.d (.list (p.vars.map bm)),.d (.list (p.body.map cG)),.d (.list ((mG p.vars 0).map kl)),.vec 1 0 0 p.vars.length,.vec 2 v 0 C.length,.d (.int .i64 f)]
@[simp] def iO(p:Pg)(C:List Int)(f:Nat):List ax:=[rnB p C f 0,.vec 1 (p.vars.map Dx),.vec 1 (C.map jD)]
@[simp] def oP(p:Pg)(C:List Int)(f v:Nat):List (Nat×ax):=[(0,rnB p C f v),(0,.vec 1 (p.vars.map Dx)),(v,.vec 1 (C.map jD))]
def km(e:Int):D:=.agg [.int .i64 e]
section
variable {p:Pg} (H:p.vars.length<=1000)
include H
theorem A3(s:Tx)(C:List Int)(f:Nat):ah ctx 250 [.ptr 0 0 0,.d (.str s)] (iO p C f)=some (.ret (.d (.int .i64 (iL (λv:Vr=>decide (v.name=s)) p.vars 0))),oP p C f 0):=by
 have h:=aa5 s p.vars (by omega);rw[aew (by simp)];try simp at h
 simp[f250,h]
theorem rU{s:Tx}{w:Vr}(N:bu p.vars s=some w)(C:List Int)(f:Nat):ah ctx 202 [.ptr 0 0 0,.d (.str s)] (iO p C f)=some (.ret (.bM [.d (.int .i64 (dt p.vars s).1),.d (bm w)]),oP p C f 0):=by
 have h:=A3 H s C f;obtain⟨i,A,E,M⟩:=Eu p.vars 0 0 N;rw[adj]at A;rw[A]at h;have hi:=(aaa.1 E).1;have T:i<(mG p.vars 0).length:=by rw[s7];exact hi
 have g2:p.vars[i]=w:=(aaa.1 E).2;have g3:(mG p.vars 0)[i]=(dt p.vars s).1:=(aaa.1 M).2;rw[aed (by simp)];simp at h;have A0:=s7 p.vars 0;simp[f202,h,aj,hi,T,g2,g3,bm,dj]
theorem Uy{s fl:Tx}{w:Vr}{q:Pn}(N:bu p.vars s=some w)(U:2<w.ty)(A1:lS w.ty fl=some q)(AA:0<=(dt p.vars s).1/\(dt p.vars s).1<=100000)(C:List Int)(f:Nat):ah ctx 206 [.ptr 0 0 0,.d (.str s),.d (.str fl)] (iO p C f)=some (.ret (.bM [.d (.int .i64 (ke p.vars s fl).1),.d (cD q)]),oP p C f 0):=by
 have h:=A3 H s C f;obtain⟨i,A,E,M⟩:=Eu p.vars 0 0 N;rw[adj]at A;rw[A]at h;have hi:=(aaa.1 E).1;have T:i<(mG p.vars 0).length:=by rw[s7];exact hi
 have g2:p.vars[i]=w:=(aaa.1 E).2;have g3:(mG p.vars 0)[i]=(dt p.vars s).1:=(aaa.1 M).2;have AB:=zx w.ty;obtain⟨q0,AC,j,y,_,AD⟩:=IP (i:=0) A1;have A':=IU fl (br w.ty) 0;rw[y]at A';obtain⟨A2,_,V⟩:=A';rw[Nat.sub_zero]at V;have A4:(ke p.vars s fl).1=(dt p.vars s).1+j:=by
  unfold ke;rw[N,nr N,aal ⟨rfl,U,q0⟩,y]
 have Y:=aa6 fl (br w.ty) (by omega);rw[A2]at Y;have A5:=(aaa.1 V).1;have A6:(br w.ty)[j]=q:=(aaa.1 V).2;have AE:(p.vars.map Dx)[i]'(by simpa using hi)=.list ((br w.ty).map cD):=by simp[g2,Dx]
 have O:IntKind.i64.wrap ((dt p.vars s).1+(j:Int))=(dt p.vars s).1+(j:Int):=aE (by unfold aG;omega);rw[aeh (by simp),A4];simp at h Y;have A0:=s7 p.vars 0;simp[f206,h,aj,hi,T,g2,g3,Dx,Y,A5,A6,O,cD]
omit H in
theorem kU(C:List Int)(f:Nat)(AF:f<=1000000):ah ctx 142 [.ptr 0 0 0] (iO p C f)=if f=0 then some (.panic 103 (km 4),oP p C 0 0)else some (.ret (.bM []),oP p C (f-1) 0):=by
 rw[adV (by simp)];by_cases h:f=0
 ·subst h;simp[f142,km]
 ·have A7:¬((f:Int)=0):=by omega
  have O:IntKind.i64.wrap ((f:Int)-1)=((f-1:Nat):Int):=by rw[show (f:Int)-1=((f-1:Nat):Int) by omega];exact aE (by unfold aG;omega)
  simp[f142,h,A7,O]
omit H in
theorem WX(b:Bool):ah ctx 306 [.d (.bool b)] []=some (.ret (.d (.int .i64 (dG b))),[]):=by
 rw[aeH (by simp)];cases b<;>simp[f306,dG]
omit H in
theorem Ew(C:List Int)(f:Nat){a t:Int}(I:0<=a/\a.toNat<C.length):ah ctx 282 [.ptr 0 0 0,.d (.int .i64 a),.d (.int .i64 t)] (iO p C f)=some (.ret (.d (.int .i64 (Dq C a t))),oP p C f 0):=by
 obtain⟨n,rfl⟩:∃n:Nat,a=n:=⟨a.toNat,by omega⟩;obtain⟨_,I⟩:=I;simp only[Int.toNat_natCast]at I;have A8:ju C (n:Int)=C[n]:=by unfold ju;simp[I]
 have U:=λb=>WX b;rw[aeF (by simp)];unfold Dq;rw[A8];by_cases h:t=2
 ·simp[f282,h,I,U,aj];by_cases Z:C[n]=0
  ·simp[Z]
  ·simp[Z];exact aeT dG (bne_iff_ne.2 Z)
 ·simp[f282,h,I,aj]
omit H in
theorem FU{a n:Int}{w:Vr}(I:0<=a/\a<=100000)(hw:0<=w.lo/\w.hi<=255):ah ctx 204 [.d (.int .i64 a),.d (bm w),.d (.int .i64 n)] []=if n<w.lo\/w.hi<n then some (.panic 103 (km 3),[])else some (.ret (.d (.int .i64 (a+(n-w.lo)))),[]):=by
 rw[aef (by simp)];by_cases A:n<w.lo
 ·simp[f204,bm,dj,A,km]
 ·by_cases E:w.hi<n
  ·simp[f204,bm,dj,A,E,km]
  ·have O:IntKind.i64.wrap (n-w.lo)=n-w.lo:=aE (by unfold aG;omega);have A9:IntKind.i64.wrap (a+(n-w.lo))=a+(n-w.lo):=aE (by unfold aG;omega);simp[f204,bm,dj,A,E,O,A9]
end
theorem J5(op a:Int)(t:Bool)(J:aG a):ah ctx 125 [.d (.int .i64 op),.d (.list [.int .i64 a]),.d (.bool t)] []=some (.ret (AU (mW op a t)),[]):=by
 rw[TR (by simp)];by_cases E:t=true/\a≠0/\a≠1
 ·obtain⟨rfl,O,A⟩:=E;simp[f125];rw[ai];simp[O,A,mW,iV]
 ·have A:=Ux op a t J (by intro h;subst h;simp at E;omega);have T:(t&&(a != 0))=true->a=1:=by simp;intro A D;simp[A]at E;exact E D
  generalize mW op a t=p at*;simp at A;cases t
  ·simp[f125];rw[ai];simp;rw[ai];simp[A]
  ·have U:a=0\/a=1:=by simp at T;omega
   rcases U with rfl|rfl
   ·simp[f125];rw[ai];simp;rw[ai];simp[A]
   ·simp[f125];rw[ai];simp;rw[ai];simp[A]
theorem uT(op a b:Int)(t:Bool)(J:aG a)(E:aG b):ah ctx 125 [.d (.int .i64 op),.d (.list [.int .i64 a,.int .i64 b]),.d (.bool t)] []=some (.ret (AU (jJ op a b t)),[]):=by
 rw[TR (by simp)];have cmp:=λh=>I4 op a b h;have V:=λh=>I5 op a b h J E;have qY:=λA D=>I3 op a b A D;unfold jJ;cases t
 ·have Y:¬(8<=op/\op<=12)->¬(13<=op/\op<=18)->zn op a b=iV:=by
   intro A D;unfold zn;simp only[show ¬op=8 by omega,show ¬op=9 by omega,show ¬op=10 by omega,show ¬op=11 by omega,show ¬op=12 by omega,show ¬op=13 by omega,show ¬op=14 by omega,show ¬op=15 by omega,show ¬op=16 by omega,show ¬op=17 by omega,show ¬op=18 by omega,acy]
  generalize zn op a b=p at*;simp[f125];rw[ai];simp;rw[ai];simp;rw[ai];simp;by_cases A:8<=op/\op<=12
  ·have r:=V A;simp at r;simp[A.1,A.2,r,aj]
  ·by_cases D:13<=op/\op<=18
   ·have r:=cmp D;have H:¬op<=12:=by omega
    have I:8<=op:=by omega
    simp at r;simp[D.1,D.2,H,I,r,aj]
   ·have Z:=Y A D;subst Z;by_cases N:8<=op
    ·have q:¬op<=12:=by omega
     have M:13<=op:=by omega
     have y:¬op<=18:=by omega
     simp[N,q,M,y,iV]
    ·have M:¬13<=op:=by omega
     simp[N,M,iV]
 ·by_cases A:a=0\/a=1
  ·by_cases D:b=0\/b=1
   ·have r:=qY A D;generalize BG op a b=p at*;rcases A with rfl|rfl<;>rcases D with rfl|rfl<;>
     (simp at r
      simp[f125];rw[ai];simp;rw[ai];simp;rw[ai];simp[r,aj])
   ·have H:¬b=0:=by omega
    have I:¬b=1:=by omega
    rcases A with rfl|rfl<;>
     (simp[f125]
      rw[ai];simp;rw[ai];simp[H,I,iV])
  ·have H:¬a=0:=by omega
   have I:¬a=1:=by omega
   simp[f125];rw[ai];simp[H,I,iV]
end Go.Am
end
section
namespace Go.Am
open Go Go.Proofs
variable [Inhabited bB]
set_option maxRecDepth 20000
def afE(f:Nat)(A:Int->Nat):Prop:=∀b:Int,∃l:List D,ah ctx f [.d (.int .i64 b)] []=some (.ret (.d (.list l)),[])/\l.length=A b/\A b<=100
end Go.Am
end
section
namespace Go.Am
open Go Go.Proofs Go.Proofs.Tryz
variable [Inhabited bB]
set_option maxRecDepth 20000
def ep:Option (Out×List (Nat×ax))->Option Nat
 |some (.ret (.d (.list l)),[])=>some l.length
 |_=>none
theorem J6{r:Option (Out×List (Nat×ax))}{n:Nat}(h:ep r=some n):∃l,r=some (.ret (.d (.list l)),[])/\l.length=n:=by
 unfold ep at h;split at h
 ·rename_i l;exact⟨l,rfl,by simpa using h⟩
 ·cases h
theorem eg{f:FuncId}{b:Int}{n:Nat}(h:ep (aF ctx 120 f [.d (.int .i64 b)] [])=some n):∃l:List D,ah ctx f [.d (.int .i64 b)] []=some (.ret (.d (.list l)),[])/\l.length=n:=by
 obtain⟨l,A,E⟩:=J6 h;exact⟨l,bk 120 A,E⟩
theorem afF:ep (aF ctx 120 54 [.d (.int .i64 10)] [])=some 4:=by kernel_rfl
theorem afG:ep (aF ctx 120 54 [.d (.int .i64 11)] [])=some 4:=by kernel_rfl
theorem afH:ep (aF ctx 120 54 [.d (.int .i64 12)] [])=some 6:=by kernel_rfl
theorem afI:ep (aF ctx 120 54 [.d (.int .i64 13)] [])=some 6:=by kernel_rfl
theorem afJ:ep (aF ctx 120 54 [.d (.int .i64 14)] [])=some 6:=by kernel_rfl
theorem afK:ep (aF ctx 120 54 [.d (.int .i64 15)] [])=some 3:=by kernel_rfl
theorem afL:ep (aF ctx 120 54 [.d (.int .i64 16)] [])=some 3:=by kernel_rfl
theorem afM:ep (aF ctx 120 54 [.d (.int .i64 17)] [])=some 3:=by kernel_rfl
theorem afN:ep (aF ctx 120 54 [.d (.int .i64 18)] [])=some 3:=by kernel_rfl
theorem afO:ep (aF ctx 120 54 [.d (.int .i64 20)] [])=some 4:=by kernel_rfl
theorem afP:ep (aF ctx 120 54 [.d (.int .i64 21)] [])=some 9:=by kernel_rfl
theorem afQ:ep (aF ctx 120 54 [.d (.int .i64 22)] [])=some 9:=by kernel_rfl
theorem afR:ep (aF ctx 120 54 [.d (.int .i64 23)] [])=some 9:=by kernel_rfl
theorem afS:ep (aF ctx 120 54 [.d (.int .i64 24)] [])=some 12:=by kernel_rfl
theorem afT:ep (aF ctx 120 54 [.d (.int .i64 25)] [])=some 12:=by kernel_rfl
theorem afU:ep (aF ctx 120 54 [.d (.int .i64 26)] [])=some 12:=by kernel_rfl
theorem afV:ep (aF ctx 120 54 [.d (.int .i64 27)] [])=some 10:=by kernel_rfl
theorem afW:ep (aF ctx 120 54 [.d (.int .i64 28)] [])=some 12:=by kernel_rfl
theorem afX:ep (aF ctx 120 54 [.d (.int .i64 29)] [])=some 5:=by kernel_rfl
theorem afY:ep (aF ctx 120 54 [.d (.int .i64 30)] [])=some 6:=by kernel_rfl
theorem afZ:ep (aF ctx 120 54 [.d (.int .i64 31)] [])=some 4:=by kernel_rfl
def qB:List Int:=[10,11,12,13,14,15,16,17,18,20,21,22,23,24,25,26,27,28,29,30,31]
def mf:D->Option Int
 | .agg [.int .i64 k,.str _,.str _,.str _,.int .i64 _]=>some k
 |_=>none
theorem zH{d:D}{k:Int}(h:mf d=some k):∃a b c n,d=.agg [.int .i64 k,.str a,.str b,.str c,.int .i64 n]:=by
 unfold mf at h;split at h
 ·rename_i A' a b c n;cases h;exact⟨a,b,c,n,rfl⟩
 ·cases h
def I6:Option (Out×List (Nat×ax))->Option (List (Option Int))
 |some (.ret (.d (.list l)),[])=>some (l.map mf)
 |_=>none
theorem WY:I6 (aF ctx 120 137 [] [])=some (qB.map some):=by kernel_rfl
theorem QM:∃l:List D,ah ctx 137 [] []=some (.ret (.d (.list l)),[])/\l.map mf=qB.map some:=by
 have h:=WY;generalize U:aF ctx 120 137 [] []=r at h;unfold I6 at h;split at h
 ·rename_i l;exact⟨l,bk 120 U,by simpa using h⟩
 ·cases h
theorem QN(d:D)(k b:Int)(I:mf d=some k):ah ctx 139 [.d d,.ptr 0 0 0] [.box [.d (.int .i64 b)]]=some (.ret (.d (.bool (decide (k=b)))),[(0,.box [.d (.int .i64 b)])]):=by
 obtain⟨a,e,c,n,rfl⟩:=zH I;rw[TV (by simp)];simp[f139]
theorem xP(b:Int):∀(rest pre:List D),(∀d∈rest,∃k,mf d=some k/\k≠b)->(pre++rest).length<1000->∀k:Kt,
 aK ctx 138 (.loop (Code.at (bq f138) [1,0,1,0,0])) ⟨19,aA,[(0,true,.d (.list (pre++rest))),(1,true,.fn 139 [.ptr 0 0 0]),(7,true,.d (.int .i64 (pre++rest).length)),(8,true,.d (.int .i64 pre.length))],[⟨0,0,.box [.d (.int .i64 b)]⟩]⟩ k=
  k (.exit 0) ⟨19,aA,[(0,true,.d (.list (pre++rest))),(1,true,.fn 139 [.ptr 0 0 0]),(7,true,.d (.int .i64 (pre++rest).length)),(8,true,.d (.int .i64 (pre++rest).length)),(9,true,.d (.bool false))],[⟨0,0,.box [.d (.int .i64 b)]⟩]⟩
 |[],pre,h,J,k=>by
  rw[ai];simp[f138]
 |d::rest,pre,h,J,k=>by
  obtain⟨N,M,V⟩:=h d (by simp);have O:=QN d N b M;obtain⟨Y,a2,a3,a4,rfl⟩:=zH M;have ih:=xP b rest (pre++[.agg [.int .i64 N,.str Y,.str a2,.str a3,.int .i64 a4]]) (λd I=>h d (by simp[I])) (by simpa using J) k;have A:(pre.length:Int)<pre.length+(rest.length+1):=by omega
  have E:IntKind.i64.wrap ((pre.length:Int)+1)=pre.length+1:=aE (by unfold aG;simp at J;omega);simp[V]at O;rw[ai];simp[f138]at ih⊢;simp[A,E,O,ih]
theorem Uz(b:Int)(H:b∉qB):ah ctx 54 [.d (.int .i64 b)] []=some (.ret (.d (.list [])),[]):=by
 obtain⟨l,J,hm⟩:=QM;have A0:l.length=21:=by have:=aeT List.length hm;simpa [qB]using this
 have Z:∀d∈l,∃k,mf d=some k/\k≠b:=by
  intro d I;have A:mf d∈l.map mf:=abW I;rw[hm]at A;obtain⟨k,M,he⟩:=ab9.1 A;exact⟨k,he.symm,λh=>H (h▸M)⟩
 have T:=xP b l [] Z (by simp;omega);have q:ah ctx 138 [.d (.list l),.fn 139 [.ptr 0 0 0]] [.box [.d (.int .i64 b)]]=some (.ret (.d (.int .i64 (-1))),[(0,.box [.d (.int .i64 b)])]):=by
  rw[TU (by simp)];simp[f138]at T⊢;simp[T]
 have y:ah ctx 89 [.d (.int .i64 b)] []=some (.ret (.bM [.d (.agg [.int .i64 0,.str [],.str [],.str [],.int .i64 0]),.d (.bool false)]),[]):=by
  rw[Z5 (by simp)];simp[f89,J,q]
 rw[Z3 (by simp)];simp[f54,y]
theorem aba:afE 54 nh:=by
 intro b;by_cases H:b∈qB
 ·simp only[qB,aak,ae6,ak5]at H;rcases H with rfl|rfl|rfl|rfl|rfl|rfl|rfl|rfl|rfl|rfl|rfl|rfl|rfl|rfl|rfl|rfl|rfl|rfl|rfl|rfl|rfl
  ·obtain⟨l,A,E⟩:=eg afF;exact⟨l,A,by rw[E];rfl,by decide⟩
  ·obtain⟨l,A,E⟩:=eg afG;exact⟨l,A,by rw[E];rfl,by decide⟩
  ·obtain⟨l,A,E⟩:=eg afH;exact⟨l,A,by rw[E];rfl,by decide⟩
  ·obtain⟨l,A,E⟩:=eg afI;exact⟨l,A,by rw[E];rfl,by decide⟩
  ·obtain⟨l,A,E⟩:=eg afJ;exact⟨l,A,by rw[E];rfl,by decide⟩
  ·obtain⟨l,A,E⟩:=eg afK;exact⟨l,A,by rw[E];rfl,by decide⟩
  ·obtain⟨l,A,E⟩:=eg afL;exact⟨l,A,by rw[E];rfl,by decide⟩
  ·obtain⟨l,A,E⟩:=eg afM;exact⟨l,A,by rw[E];rfl,by decide⟩
  ·obtain⟨l,A,E⟩:=eg afN;exact⟨l,A,by rw[E];rfl,by decide⟩
  ·obtain⟨l,A,E⟩:=eg afO;exact⟨l,A,by rw[E];rfl,by decide⟩
  ·obtain⟨l,A,E⟩:=eg afP;exact⟨l,A,by rw[E];rfl,by decide⟩
  ·obtain⟨l,A,E⟩:=eg afQ;exact⟨l,A,by rw[E];rfl,by decide⟩
  ·obtain⟨l,A,E⟩:=eg afR;exact⟨l,A,by rw[E];rfl,by decide⟩
  ·obtain⟨l,A,E⟩:=eg afS;exact⟨l,A,by rw[E];rfl,by decide⟩
  ·obtain⟨l,A,E⟩:=eg afT;exact⟨l,A,by rw[E];rfl,by decide⟩
  ·obtain⟨l,A,E⟩:=eg afU;exact⟨l,A,by rw[E];rfl,by decide⟩
  ·obtain⟨l,A,E⟩:=eg afV;exact⟨l,A,by rw[E];rfl,by decide⟩
  ·obtain⟨l,A,E⟩:=eg afW;exact⟨l,A,by rw[E];rfl,by decide⟩
  ·obtain⟨l,A,E⟩:=eg afX;exact⟨l,A,by rw[E];rfl,by decide⟩
  ·obtain⟨l,A,E⟩:=eg afY;exact⟨l,A,by rw[E];rfl,by decide⟩
  ·obtain⟨l,A,E⟩:=eg afZ;exact⟨l,A,by rw[E];rfl,by decide⟩
 ·refine⟨[],Uz b H,?_,?_⟩
  ·simp only[qB,aak,ae6,ak5,ak0]at H;simp[nh,H]
  ·simp only[qB,aak,ae6,ak5,ak0]at H;simp[nh,H]
theorem uU(c:List Int)(A':c.length<=100000):ah ctx 48 [.d (.list (c.map jD))] []=some (.ret (.vec 0 0 0 c.length),[(0,.vec 1 (c.map jD))]):=by
 rw[aiY (by simp)];cases c with
 |nil=>simp[f48]
 |cons x r=>
  simp at A';have A6:((r.length:Int)+1)*8<=140737488355328:=by omega
  have A0:(r.length+1)*8<=140737488355328:=by omega
  have A1:r.length+1<=4611686018427387904:=by omega
  simp[f48,A0,A1]
theorem cl3{c:List Int}(h:c.length=3):∃a b q,c=[a,b,q]:=by
 match c,h with
 |[a,b,q],_=>exact⟨a,b,q,rfl⟩
theorem af0{c:List Int}(h:c.length=4):∃a b q e,c=[a,b,q,e]:=by
 match c,h with
 |[a,b,q,e],_=>exact⟨a,b,q,e,rfl⟩
theorem WZ{c:List Int}(h:c.length=6):∃a b q e p r,c=[a,b,q,e,p,r]:=by
 match c,h with
 |[a,b,q,e,p,r],_=>exact⟨a,b,q,e,p,r,rfl⟩
theorem J7{k:Int}(Y:k<10\/18<k)(c:List Int):fZ k c=c:=by
 unfold fZ;split
 ·unfold rG;simp only[show ¬k=15 by omega,show ¬k=16 by omega,show ¬k=17 by omega,show ¬k=18 by omega,acy]
 ·unfold rF;simp only[show ¬k=10 by omega,show ¬k=11 by omega,acy]
 ·unfold nb;simp only[show ¬k=12 by omega,show ¬k=13 by omega,show ¬k=14 by omega,acy]
 ·rfl
set_option maxHeartbeats 4000000 in
theorem W0(k:Int)(c:List Int)(J:c.length=nh k)(M:∀x∈c,aG x):ah ctx 85 [.d (.int .i64 k),.d (.list (c.map jD))] []=some (.ret (.vec 0 0 0 c.length),[(0,.vec 1 ((fZ k c).map jD))]):=by
 obtain⟨pl,A,U,V⟩:=aba k;have D:=uU c (by omega);have A7:=rK;have E:(pl.length:Int)=c.length:=by omega
 rw[ai8 (by simp)];by_cases Y:k<10\/18<k
 ·rw[J7 Y];try simp at D
  try simp at A
  simp[f85,D,A,E,show ¬k=10 by omega,show ¬k=11 by omega,show ¬k=12 by omega,show ¬k=13 by omega,show ¬k=14 by omega,show ¬k=15 by omega,show ¬k=16 by omega,show ¬k=17 by omega,show ¬k=18 by omega,aj]
 ·have A3:k=10\/k=11\/k=12\/k=13\/k=14\/k=15\/k=16\/k=17\/k=18:=by omega
  clear Y;have A4:(k=10\/k=11->nh k=4)/\(k=12\/k=13\/k=14->nh k=6)/\(k=15\/k=16\/k=17\/k=18->nh k=3):=by
   refine⟨?_,?_,?_⟩
   ·rintro (rfl|rfl)<;>rfl
   ·rintro (rfl|rfl|rfl)<;>rfl
   ·rintro (rfl|rfl|rfl|rfl)<;>rfl
  obtain⟨T,O,N⟩:=A4;rcases A3 with h|h|h|h|h|h|h|h|h
  ·obtain⟨a,b,q,e,rfl⟩:=af0 (J.trans (T (by omega)));have:=Dw k a b q e (.inl h) (M _ (by simp)) (M _ (by simp));subst h;simp at D A E;simp[fZ];have H:=zy 10 a b q e;generalize rF 10 a b q e=z at*;have I:(z.map jD).take z.length=z.map jD:=acG (by simp);rw[H]at I;try simp at this
   simp[f85,D,A,E,this,H,I,aj]
  ·obtain⟨a,b,q,e,rfl⟩:=af0 (J.trans (T (by omega)));have:=Dw k a b q e (.inr h) (M _ (by simp)) (M _ (by simp));subst h;simp at D A E;simp[fZ];have H:=zy 11 a b q e;generalize rF 11 a b q e=z at*;have I:(z.map jD).take z.length=z.map jD:=acG (by simp);rw[H]at I;try simp at this
   simp[f85,D,A,E,this,H,I,aj]
  ·obtain⟨a,b,q,e,p,r,rfl⟩:=WZ (J.trans (O (by omega)));have:=QL a b q e p r (M _ (by simp)) (M _ (by simp));subst h;simp at D A E;simp[fZ];have H:=tS 12 a b q e p r;generalize nb 12 a b q e p r=z at*;have I:(z.map jD).take z.length=z.map jD:=acG (by simp);rw[H]at I;try simp at this
   simp[f85,D,A,E,this,H,I,aj]
  ·obtain⟨a,b,q,e,p,r,rfl⟩:=WZ (J.trans (O (by omega)));have:=A2 k a b q e p r (.inl h) (M _ (by simp));subst h;simp at D A E;simp[fZ];have H:=tS 13 a b q e p r;generalize nb 13 a b q e p r=z at*;have I:(z.map jD).take z.length=z.map jD:=acG (by simp);rw[H]at I;try simp at this
   simp[f85,D,A,E,this,H,I,aj]
  ·obtain⟨a,b,q,e,p,r,rfl⟩:=WZ (J.trans (O (by omega)));have:=A2 k a b q e p r (.inr h) (M _ (by simp));subst h;simp at D A E;simp[fZ];have H:=tS 14 a b q e p r;generalize nb 14 a b q e p r=z at*;have I:(z.map jD).take z.length=z.map jD:=acG (by simp);rw[H]at I;try simp at this
   simp[f85,D,A,E,this,H,I,aj]
  ·obtain⟨a,b,q,rfl⟩:=cl3 (J.trans (N (by omega)));subst h;simp at D A E;clear M J N T O U V;rcases aj7 (a=0)with rfl|Z<;>rcases aj7 (q=0)with rfl|y<;>simp[f85,fZ,rG,aj,bne, *]
  ·obtain⟨a,b,q,rfl⟩:=cl3 (J.trans (N (by omega)));subst h;simp at D A E;clear M J N T O U V;rcases aj7 (a=0)with rfl|Z<;>rcases aj7 (q=0)with rfl|y<;>simp[f85,fZ,rG,aj,bne, *]
  ·obtain⟨a,b,q,rfl⟩:=cl3 (J.trans (N (by omega)));subst h;simp at D A E;clear M J N T O U V;rcases aj7 (a=0)with rfl|Z<;>rcases aj7 (q=0)with rfl|y<;>rcases aj7 (b=0)with rfl|A5<;>simp[f85,fZ,rG,aj,bne, *]
  ·obtain⟨a,b,q,rfl⟩:=cl3 (J.trans (N (by omega)));subst h;simp at D A E;clear M J N T O U V;rcases aj7 (a=0)with rfl|Z<;>rcases aj7 (q=0)with rfl|y<;>rcases aj7 (b=0)with rfl|A5<;>simp[f85,fZ,rG,aj,bne, *]
end Go.Am
end
section
namespace Go.Am
open Go Go.Proofs
variable [Inhabited bB]
set_option maxRecDepth 20000
@[simp] def iA(n:Int):AV:=.d (.int .i64 n)
def mB(A:AV)(D E:Int)(H:AV)(S G:List Int)(h a f x:Int):List AV:=
 A::.d (.int .i64 D)::.d (.int .i64 E)::H::((S++G).map iA++[.d (.int .i64 h),.d (.int .i64 a),.d (.int .i64 f),.d (.int .i64 x)])
section
variable {A:AV} {D E:Int} {H:AV} {S G:List Int} {h a f x:Int}
end
def zI(n:Nat)(k:Int):Prop:=0<=k/\k.toNat<n
def aam(n:Nat)(x:aS):Prop:=0<=x.n/\x.n<=x.m/\x.m<=255/\0<=x.a/\x.a+(x.m-x.n)<n
structure Fit(x:aS)(n h:Nat):Prop where
 top:h<=64
 i1:x.op=1->h<64
 i2:x.op=2\/x.op=3\/x.op=14->h<64/\zI n x.a
 i4:x.op=4\/x.op=5->1<=h/\aam n x
 i6:x.op=6->1<=h/\zI n x.a
 i7:x.op=7->2<=h/\aam n x
 i8:x.op=8->(x.b=6\/x.b=7->1<=h)/\(¬(x.b=6\/x.b=7)->2<=h)
 i10:x.op=10->1<=h
 i12:x.op=12->0<=x.a/\x.a.toNat+nh x.b<=n
 i13:x.op=13->h<64/\zI n x.a/\zI n x.b/\zI n (x.b+1)
structure af1(s:Ms):Prop where
 cells:∀n∈s.cells,aG n
 sW:∀n∈s.sW,aG n
 few:s.cells.length<=8192
 fuel:0<=s.fuel/\s.fuel<=16384
 place:0<=s.at_/\s.at_<=5000
theorem Dy:∀Y:List Int,iX (Y.map jD)=true
 |[]=>rfl
 |x::r=>by simp[iX,gI,Dy r]
theorem W1(C Y:List Int)(a:Nat)(h:a+Y.length<=C.length):a8 (C.map jD) a (Y.map jD)=(C.take a++Y++C.drop (a+Y.length)).map jD:=by
 rw[cH _ _ _ (by simpa using h)];simp[List.map_take,List.map_drop]
end Go.Am
end
section
namespace Go.Am
open Go Go.Proofs
variable [Inhabited bB]
structure azs(l:List aS)(st:Nat->List Bool)(n:Nat)(s:Ms):Prop where
 azt:af1 s
 len:s.cells.length=n
 h64:s.sW.length<=64
 here:s.fault=0->s.at_.toNat<l.length/\s.sW.length=(st s.at_.toNat).length
def Ca(x:aS)(h:Nat):Nat:=
 if x.op=1\/x.op=2\/x.op=3\/x.op=13\/x.op=14 then h+1 else if x.op=4\/x.op=5 then h else if x.op=6\/x.op=10 then h-1 else if x.op=7 then h-2
 else if x.op=8 then (if x.b=6\/x.b=7 then h else h-1)else h
theorem ir:aG 0:=by unfold aG;omega
theorem Gs:aG 1:=by unfold aG;omega
theorem s8(b:Bool):aG (dG b):=by unfold dG;split;exact Gs;exact ir
theorem Dz(z:Int):aG (kE z).1:=by
 unfold kE;split
 ·rename_i h;exact h
 ·exact ir
theorem DA{p:Int×Bool}(h:aG p.1):aG (qJ p).1:=by
 unfold qJ;split
 ·exact h
 ·exact ir
theorem abb{a b:Int}(A:aG a)(D:b≠0)(h:¬(a= -9223372036854775808/\b= -1)):aG (a.tdiv b):=by
 have E:=BF a b;unfold aG at*;have AA:a.natAbs/b.natAbs<=a.natAbs:=Nat.div_le_self _ _;have Y:decide (a<0)=decide (b<0)->a.natAbs/b.natAbs<=9223372036854775807:=by
  intro H;by_cases Z:a= -9223372036854775808
  ·have y:2<=b.natAbs:=by
    have:b<0:=by rw[Z]at H;simpa using H
    omega
   have AB:=Nat.div_le_div_left y (by decide) (a:=a.natAbs);omega
  ·omega
 generalize a.natAbs/b.natAbs=q at*;split at E
 ·rename_i H;have:=Y H;omega
 ·omega
theorem abc{a b:Int}(A:aG a)(D:b≠0):aG (a.tmod b):=by
 have E:=VY a b;unfold aG at*;have AC:a.natAbs%b.natAbs<=a.natAbs:=Nat.mod_le _ _;have AD:a.natAbs%b.natAbs<b.natAbs:=Nat.mod_lt _ (by omega);generalize a.natAbs%b.natAbs=q at*;split at E<;>omega
theorem UA{p:Int×Int}(h:aG p.1):aG (uM p).1:=by
 unfold uM;split
 ·exact ir
 ·split
  ·exact h
  ·exact ir
theorem af2{a b:Int}(A:aG a):aG (Ed a b).1:=by
 unfold Ed;split
 ·exact ir
 ·rename_i D;split
  ·exact ir
  ·rename_i h;exact abb A D h
theorem af3{a b:Int}(A:aG a):aG (Ee a b).1:=by
 unfold Ee;split
 ·exact ir
 ·rename_i D;exact abc A D
theorem ajs(op a:Int)(t:Bool):aG (mW op a t).1:=by
 unfold mW iV;repeat' split
 all_goals first|exact ir|exact s8 _|exact DA (Dz _)
theorem ajt(op a b:Int):aG (BG op a b).1:=by
 unfold BG iV;repeat' split
 all_goals first|exact ir|exact s8 _
theorem aju(op a b:Int)(A:aG a):aG (zn op a b).1:=by
 have A':=DA (Dz (a+b));have A0:=DA (Dz (a-b));have A1:=DA (Dz (a*b));have A2:=UA (af2 (b:=b) A);have A3:=UA (af3 (b:=b) A);unfold zn iV;by_cases J:op=8
 ·rw[aal J];exact A'
 rw[aac J];by_cases M:op=9
 ·rw[aal M];exact A0
 rw[aac M];by_cases N:op=10
 ·rw[aal N];exact A1
 rw[aac N];by_cases O:op=11
 ·rw[aal O];exact A2
 rw[aac O];by_cases T:op=12
 ·rw[aal T];exact A3
 rw[aac T];repeat' split
 all_goals first|exact ir|exact s8 _
theorem QO(op a b:Int)(t:Bool)(A:aG a):aG (jJ op a b t).1:=by
 unfold jJ;split
 ·split
  ·exact ir
  ·exact ajt ..
 ·exact aju _ _ _ A
theorem Gt{e b:Int}(he:aG e)(D:aG b):aG (xK e b):=by unfold xK aG at*;split<;>omega
theorem abd(k:Int)(c:List Int)(h:∀n∈c,aG n):∀n∈fZ k c,aG n:=by
 unfold fZ;split
 ·rename_i a b q;have A:=h a (by simp);have D:=h b (by simp);have E:=h q (by simp);unfold rG;repeat' split
  all_goals (simp only[List.forall_mem_cons];simp[A,D,E,s8])
 ·rename_i a b q e;have A:=h a (by simp);have D:=h b (by simp);have E:=h q (by simp);have he:=h e (by simp);have hu:=Gt he D;unfold rF;repeat' split
  all_goals (simp only[List.forall_mem_cons];simp[A,D,E,he,hu,s8,ir,Gs])
 ·rename_i a b q e p r;have A:=h a (by simp);have D:=h b (by simp);have E:=h q (by simp);have he:=h e (by simp);have I:=h p (by simp);have U:=h r (by simp);have hu:=Gt he D;have AE:=Gt ir D;have A4:p<9223372036854775807->aG (p+1):=λ_=>by unfold aG at*;omega
  have A5: -9223372036854775808<p->aG (p-1):=λ_=>by unfold aG at*;omega
  have A6:aG (if b≠0 then 0 else if a≠0/\r=0/\p<9223372036854775807 then p+1 else p):=by
   split
   ·exact ir
   ·split
    ·rename_i h;exact A4 h.2.2
    ·exact I
  have A7:aG (if b≠0 then q else if a≠0/\r=0/\ -9223372036854775808<p then p-1 else p):=by
   split
   ·exact E
   ·split
    ·rename_i h;exact A5 h.2.2
    ·exact I
  have A8:aG (if a≠0/\p=0/\r=0 then 1 else r):=by split;exact Gs;exact U
  have V:aG (if a≠0/\p=0/\r=0 then 0 else e):=by split;exact ir;exact he
  unfold nb Ya Yb Yc;dsimp only
  generalize (if b≠0 then 0 else if a≠0/\r=0/\p<9223372036854775807 then p+1 else p)=v1 at*;generalize (if b≠0 then q else if a≠0/\r=0/\ -9223372036854775808<p then p-1 else p)=v2 at*;generalize (if a≠0/\p=0/\r=0 then (1:Int)else r)=v3 at*;generalize (if a≠0/\p=0/\r=0 then (0:Int)else e)=v4 at*;have A9:=Gt V D;repeat' split
  all_goals (simp only[List.forall_mem_cons];simp[A,D,E,he,I,U,hu,A9,A6,A7,A8,V,s8,ir,Gs])
 ·exact h
end Go.Am
end
section
namespace Go.Am
open Go Go.Proofs Go.Proofs.Tryz
variable [Inhabited bB]
set_option maxRecDepth 20000
def mnV(p:Pg)(C:List Int)(f:Nat)(q:Vl):bW:=
 match q with
 | .v n t=>some (.ret (.bM [.d (.int .i64 n),.d (.bool t)]),oP p C f 0)
 | .f e=>some (.panic 103 (km e),oP p C f 0)
def mnW(p:Pg)(C:List Int)(f:Nat)(q:Vl):bW:=
 match q with
 | .v n _=>some (.ret (.d (.int .i64 n)),oP p C f 0)
 | .f e=>some (.panic 103 (km e),oP p C f 0)
@[simp] theorem awZ(p:Pg)(C:List Int)(f:Nat)(n:Int)(t:Bool):mnV p C f (.v n t)=some (.ret (.bM [.d (.int .i64 n),.d (.bool t)]),oP p C f 0):=rfl
@[simp] theorem aw0(p:Pg)(C:List Int)(f:Nat)(e:Int):mnV p C f (.f e)=some (.panic 103 (km e),oP p C f 0):=rfl
@[simp] theorem aw1(p:Pg)(C:List Int)(f:Nat)(n:Int)(t:Bool):mnW p C f (.v n t)=some (.ret (.d (.int .i64 n)),oP p C f 0):=rfl
@[simp] theorem aw2(p:Pg)(C:List Int)(f:Nat)(e:Int):mnW p C f (.f e)=some (.panic 103 (km e),oP p C f 0):=rfl
structure eu(p:Pg)(C:List Int):Prop where
 len:(C.length:Int)=dS p.vars
 le:C.length<=1024
 num:∀c∈C,aG c
def KV(p:Pg)(x:Ex):Prop:=∀(C:List Int)(f:Nat),eu p C->ah ctx 251 [.ptr 0 0 0,.d (.agg [.int .i64 (cA x),.int .i64 (iK x),.str (dY x),.str (eW x),.list ((cQ x).map du),.int .i64 (mY x)])] (iO p C f)=mnV p C f (cb p.vars C x)
def RI(p:Pg)(x:Ex):Prop:=∀(C:List Int) n t,eu p C->cb p.vars C x=.v n t->aG n
theorem rV{C:List Int}(h:∀c∈C,aG c)(k:Int):aG (ju C k):=by
 unfold ju;cases M:C[k.toNat]? with
 |none=>simp;exact ir
 |some c=>simp;exact h c (aah M)
theorem QP{C:List Int}(h:∀c∈C,aG c)(k t:Int):aG (Dq C k t):=by
 unfold Dq;split
 ·exact s8 _
 ·exact rV h k
theorem QQ{op:Int}{l:List Int}{t:Bool}(h:∀c∈l,aG c){n:Int}{b:Bool}(E:q9 op l t=.v n b):aG n:=by
 unfold q9 at E;split at E
 ·injection E with D _
  rw[<-D];unfold No;split
  ·exact ajs _ _ _
  ·exact QO _ _ _ _ (h _ (by simp))
  ·exact ir
 ·cases E
section
variable {p:Pg} (O:p.vars.length<=1000) (I:∀w∈p.vars,dA w=true)
include O I
omit O in
theorem ajv{x:Ex}(A5:XC p.vars x)(A6:mE x=true)(ih:∀y∈cQ x,RI p y):RI p x:=by
 intro C n t A h;cases A5 with
 |num D=>
  rw[Nr]at h;cases h;simp only[mE,Ds,aag]at A6;unfold aG;omega
 |qY D=>rw[Ns]at h;cases h;unfold aG;omega
 |var E N J=>rw[Nt]at h;cases h;exact QP A.num _ _
 |@idx name line v y E N J A2 A3 ty=>
  rw[Nu]at h;cases H:cb p.vars C y with
  |f e=>rw[H]at h;cases h
  |v k b=>
   rw[H]at h;simp only[vV,Et]at h;split at h
   ·cases h
   ·cases h;exact QP A.num _ _
 |fld E J Y Z=>rw[Nv]at h;cases h;exact QP A.num _ _
 |@one op line y A7 A2 A3 ty=>
  rw[Nw _ _ _ _ (by omega)]at h;cases H:cb p.vars C y with
  |f e=>rw[H]at h;cases h
  |v a b=>
   rw[H]at h;exact QQ (by intro c V;simp at V;rw[V];exact ih y (by simp) C a b A H) h
 |@two op line y z A7 A2 A3 AA AB ty AC=>
  rw[Nx _ _ _ _ _ (by omega)]at h;cases H:cb p.vars C y with
  |f e=>rw[H]at h;cases h
  |v a b=>
   rw[H]at h;simp only at h;cases A':cb p.vars C z with
   |f e=>rw[A']at h;cases h
   |v a2 A8=>
    rw[A']at h;refine QQ ?_ h;intro c V;simp at V;rcases V with rfl|rfl
    ·exact ih y (by simp) C _ b A H
    ·exact ih z (by simp) C _ A8 A A'
theorem I7{name:Tx}{w:Vr}(hw:bu p.vars name=some w)(N:w.arr=false)(J:w.ty<=2){C:List Int}(A:eu p C):0<=(dt p.vars name).1/\(dt p.vars name).1.toNat<C.length:=by
 have:=WS (v:=C.length) I A.len (WN (cells:=C.length) I (by have:=A.len;omega) hw (by simp[N]) J);omega
theorem DB{name:Tx}{w:Vr}(hw:bu p.vars name=some w){C:List Int}(A:eu p C):0<=(dt p.vars name).1/\(dt p.vars name).1<=1024:=by
 have A4:∀v∈p.vars,0<=b5 v:=λv E=>tZ (I v E);have D:=tY A4 hw;have T:=A4 w (qx hw).1;have:=A.len;have:=A.le;omega
theorem aan{name:Tx}{w:Vr}(hw:bu p.vars name=some w)(N:w.arr=true):0<=w.lo/\w.hi<=255:=by
 have Z:=I _ (qx hw).1;simp only[dA,Ds]at Z;have A0:=Z.2.2.1;rw[aal N]at A0;have:=acw A0;omega
theorem af6{n line:Int}:KV p (.mk 1 n [] [] [] line):=by
 intro C f A;rw[Nr,sX (by simp)];simp[f251]
theorem af7{n line:Int}:KV p (.mk 2 n [] [] [] line):=by
 intro C f A;rw[Ns,sX (by simp)];simp[f251]
theorem af8{name:Tx}{line:Int}{w:Vr}(hw:bu p.vars name=some w)(N:w.arr=false)(J:w.ty<=2):KV p (.mk 3 0 name [] [] line):=by
 intro C f A;have D:=rU O hw C f;have T:=Ew (p:=p) C f (t:=w.ty) (I7 O I hw N J A);rw[Nt,nr hw,sX (by simp)];simp[bm,dj]at D T;simp[f251,D,T,aj]
theorem af9{name field:Tx}{line:Int}{w:Vr}{q:Pn}(hw:bu p.vars name=some w)(J:2<w.ty)(Y:lS w.ty field=some q):KV p (.mk 5 0 name field [] line):=by
 intro C f A;obtain⟨q1,q2,j,q3,AD⟩:=Nj hw J Y;have A0:=ub (cells:=C.length) I (by have:=A.len;omega) hw J;have hle:=DB O I hw A;have D:=Uy O hw J Y ⟨hle.1,by omega⟩ C f;have T:=Ew (p:=p) C f (t:=q.ty) (a:=(ke p.vars name field).1) (by rw[q3];omega);rw[Nv,q1,sX (by simp)];simp[cD]at D T;simp[f251,D,T,aj]
theorem aga{name:Tx}{line:Int}{w:Vr}{y:Ex}(hw:bu p.vars name=some w)(N:w.arr=true)(J:w.ty<=2)(H:KV p y):KV p (.mk 4 0 name [] [y] line):=by
 intro C f A;have D:=rU O hw C f;have hle:=DB O I hw A;have A9:=aan O I hw N;have M:=H C f A;have U:=λn=>FU (a:=(dt p.vars name).1) (n:=n) (w:=w) ⟨hle.1,by omega⟩ A9;rw[Nu,nr hw,sX (by simp)];cases E:cb p.vars C y with
 |f e=>
  rw[E]at M;simp[bm,dj]at D M;simp[f251,D,M,aZ,vV,aj]
 |v k b=>
  rw[E]at M;have U:=U k;simp only[vV,Et];by_cases A1:k<w.lo\/w.hi<k
  ·rw[aal A1]at U⊢;simp[bm,dj]at D M U;simp[f251,D,M,U,aZ,aj]
  ·rw[aac A1]at U⊢;have T:=Ew (p:=p) C f (t:=w.ty) (a:=(dt p.vars name).1+(k-w.lo)) (by
    have:=Uu (v:=C.length) I A.len hw N A1;omega)
   simp[bm,dj]at D M U T;simp[f251,D,M,U,T,aZ,aj]
end
end Go.Am
end
section
namespace Go.Am
open Go Go.Proofs Go.Proofs.Tryz
variable [Inhabited bB]
set_option maxRecDepth 20000
set_option maxHeartbeats 1000000
theorem ajw{op a:Int}{t:Bool}(h:(mW op a t).2.2=0):q9 op [a] t=.v (mW op a t).1 (mW op a t).2.1:=aal h
theorem agc{op a:Int}{t:Bool}(h:¬(mW op a t).2.2=0):q9 op [a] t=.f (mW op a t).2.2:=aac h
theorem ajx{op a b:Int}{t:Bool}(h:(jJ op a b t).2.2=0):q9 op [a,b] t=.v (jJ op a b t).1 (jJ op a b t).2.1:=aal h
theorem agd{op a b:Int}{t:Bool}(h:¬(jJ op a b t).2.2=0):q9 op [a,b] t=.f (jJ op a b t).2.2:=aac h
section
variable {p:Pg} (J:p.vars.length<=1000) (I:∀w∈p.vars,dA w=true)
include J I
theorem age{op line:Int}{y:Ex}(A1:op=6\/op=7)(H:KV p y)(A4:RI p y):KV p (.mk op 0 [] [] [y] line):=by
 intro C f M;have T:¬op=1:=by omega
 have U:¬op=2:=by omega
 have V:¬op=3:=by omega
 have Y:¬op=4:=by omega
 have Z:¬op=5:=by omega
 have A:=H C f M;rw[Nw _ _ _ _ (by omega),sX (by simp)];cases D:cb p.vars C y with
 |f e=>
  rw[D]at A;simp at A;simp[f251,T,U,V,Y,Z];rw[ai];simp[f251,aZ,A]
 |v a t=>
  rw[D]at A;have N:=J5 op a t (A4 C a t M D);by_cases E:(mW op a t).2.2=0
  ·simp only
   rw[ajw E];generalize mW op a t=r at*;obtain⟨A5,A6,A7⟩:=r;simp only at E;subst E;simp at A N;simp[f251,T,U,V,Y,Z];rw[ai];simp[f251,aZ,A];rw[ai];simp[f251,aZ,N]
  ·simp only
   rw[agc E];generalize mW op a t=r at*;obtain⟨A5,A6,A7⟩:=r;simp only at E;simp at A N;simp[f251,T,U,V,Y,Z];rw[ai];simp[f251,aZ,A];rw[ai];simp[f251,aZ,N,E,km]
theorem agf{op line:Int}{y z:Ex}(A1:8<=op/\op<=21)(H:KV p y)(A4:RI p y)(A8:KV p z)(AD:RI p z):KV p (.mk op 0 [] [] [y,z] line):=by
 intro C f M;have T:¬op=1:=by omega
 have U:¬op=2:=by omega
 have V:¬op=3:=by omega
 have Y:¬op=4:=by omega
 have Z:¬op=5:=by omega
 have A:=H C f M;have q:=A8 C f M;rw[Nx _ _ _ _ _ (by omega),sX (by simp)];cases D:cb p.vars C y with
 |f e=>
  rw[D]at A;simp at A;simp[f251,T,U,V,Y,Z];rw[ai];simp[f251,aZ,A]
 |v a t=>
  rw[D]at A;cases A9:cb p.vars C z with
  |f e=>
   rw[A9]at q;simp at A q;simp[f251,T,U,V,Y,Z];rw[ai];simp[f251,aZ,A];rw[ai];simp[f251,aZ,q]
  |v b t2=>
   rw[A9]at q;have N:=uT op a b t2 (A4 C a t M D) (AD C b t2 M A9);have A':IntKind.i64.wrap 1=1:=rfl;have A3:IntKind.i64.wrap 2=2:=rfl;by_cases E:(jJ op a b t2).2.2=0
   ·simp only
    rw[ajx E];generalize jJ op a b t2=r at*;obtain⟨A5,A6,A7⟩:=r;simp only at E;subst E;simp at A q N;simp[f251,T,U,V,Y,Z];rw[ai];simp[f251,aZ,A,A'];rw[ai];simp[f251,aZ,q,A',A3];rw[ai];simp[f251,aZ,N,A',A3]
   ·simp only
    rw[agd E];generalize jJ op a b t2=r at*;obtain⟨A5,A6,A7⟩:=r;simp only at E;simp at A q N;simp[f251,T,U,V,Y,Z];rw[ai];simp[f251,aZ,A,A'];rw[ai];simp[f251,aZ,q,A',A3];rw[ai];simp[f251,aZ,N,E,km,A',A3]
theorem ajy{x:Ex}(AE:XC p.vars x)(ih:∀y∈cQ x,KV p y/\RI p y):KV p x:=by
 cases AE with
 |num h=>exact af6 J I
 |qY h=>exact af7 J I
 |var D AA A2=>exact af8 J I D AA A2
 |@idx name line v y D AA A2 AB AC ty=>exact aga J I D AA A2 (ih y (by simp)).1
 |fld D A2 AF O=>exact af9 J I D A2 AF
 |@one op line y A1 AB AC ty=>exact age J I A1 (ih y (by simp)).1 (ih y (by simp)).2
 |@two op line y z A1 AB AC AJ AK ty AL=>exact agf J I A1 (ih y (by simp)).1 (ih y (by simp)).2 (ih z (by simp)).1 (ih z (by simp)).2
mutual
theorem UB:∀x:Ex,dI x=true->mE x=true->(aQ p.vars x).e=0->KV p x/\RI p x
 | .mk op n name field sub line,O,A0,he=>by
  have AG:=aaX O he;have AH:=(Ng O).2;have AI:=(aaY A0).2;have h:=Nz sub AH AI AG;exact⟨ajy J I (Es O he) h,ajv I (Es O he) A0 (λy H=>(h y H).2)⟩
theorem Nz:∀l:List Ex,cR l=true->mc l=true->(∀y∈l,(aQ p.vars y).e=0)->∀y∈l,KV p y/\RI p y
 |[],_,_,_,y,H=>absurd H (ae6)
 |x::r,O,A0,he,y,H=>by
  simp only[cR,Ds]at O;simp only[mc,Ds]at A0;rcases aak.1 H with E|H
  ·rw[E];exact UB x O.1 A0.1 (he x (by simp))
  ·exact Nz r O.2 A0.2 (λz A8=>he z (by simp[A8])) y H
end
end
theorem iP{p:Pg}{x:Ex}(h:KV p x){C:List Int}{f:Nat}(M:eu p C):ah ctx 203 [.ptr 0 0 0,.d (.agg [.int .i64 (cA x),.int .i64 (iK x),.str (dY x),.str (eW x),.list ((cQ x).map du),.int .i64 (mY x)])] (iO p C f)=mnW p C f (cb p.vars C x):=by
 have A:=h C f M;rw[aee (by simp)];cases D:cb p.vars C x with
 |f e=>
  rw[D]at A;simp at A;simp[f203,A]
 |v n t=>
  rw[D]at A;simp at A;simp[f203,A]
def NA(p:Pg)(q:Rr)(v:Nat):bW:=
 match q with
 |(.ft e,s)=>some (.panic 103 (km e),oP p s.cells s.fuel v)
 |(_,s)=>some (.ret (.bM []),oP p s.cells s.fuel v)
def NB(p:Pg)(q:Rr)(r:bW):Prop:=∃v,r=NA p q v
def eO:Hw->Int
 | .lv=>1
 | .rt=>2
 |_=>0
def eP(p:Pg)(q:Rr)(v:Nat):bW:=
 match q with
 |(.ft e,s)=>some (.panic 103 (km e),oP p s.cells s.fuel v)
 |(h,s)=>some (.ret (.d (.int .i64 (eO h))),oP p s.cells s.fuel v)
def kP(p:Pg)(q:Rr)(r:bW):Prop:=∃v,r=eP p q v
theorem eu.put{p:Pg}{C:List Int}(h:eu p C)(k:Int){n:Int}(A3:aG n):eu p (dU C k n):=by
 refine⟨by simpa using h.len,by simpa using h.le,λc A0=>?_⟩;unfold dU at A0;rcases List.mem_or_eq_of_mem_set A0 with A|A
 ·exact h.num c A
 ·rw[A];exact A3
section
variable {p:Pg} (M:p.vars.length<=1000) (N:∀w∈p.vars,dA w=true)
include M N
theorem ajz{name:Tx}{I Y:Int}{w:Vr}{val:Ex}(hw:bu p.vars name=some w)(T:w.arr=false)(A1:w.ty<=2)(Z:KV p val)(C:List Int)(f:Nat)(J:eu p C):
 NB p (s5 p.vars (.mk 3 0 name [] [] I) val ⟨C,f⟩) (ah ctx 143 [.ptr 0 0 0,.d (cG (.mk 1 [] (.mk 3 0 name [] [] I) val [] [] [] [] Y))] (iO p C f)):=by
 have A:=rU M hw C f;have D:=iP Z (f:=f) J;have U:=I7 M N hw T A1 J;obtain⟨a,V⟩:∃a:Nat,(dt p.vars name).1=a:=⟨(dt p.vars name).1.toNat,by omega⟩;rw[V]at A;have A':a<C.length:=by omega
 have e:s5 p.vars (.mk 3 0 name [] [] I) val ⟨C,f⟩=vR (cb p.vars C val) ⟨C,f⟩ (λn=>(.on,⟨dU C a n,f⟩)):=by simp[s5,V]
 rw[e,TW (by simp)];cases O:cb p.vars C val with
 |f e=>
  rw[O]at D;simp[bm,dj]at A D;simp[f143,cu,aZ,A,D,aj];exact⟨_,rfl⟩
 |v n t=>
  rw[O]at D;simp[bm,dj]at A D;simp[f143,cu,aZ,A,D,A',aj];refine⟨0,?_⟩;simp[vR,NA,dU,List.map_set]
theorem ajA{name:Tx}{I Y:Int}{w:Vr}{y val:Ex}(hw:bu p.vars name=some w)(T:w.arr=true)(A1:w.ty<=2)(A4:KV p y)(Z:KV p val)(C:List Int)(f:Nat)(J:eu p C):
 NB p (s5 p.vars (.mk 4 0 name [] [y] I) val ⟨C,f⟩) (ah ctx 143 [.ptr 0 0 0,.d (cG (.mk 1 [] (.mk 4 0 name [] [y] I) val [] [] [] [] Y))] (iO p C f)):=by
 have A:=rU M hw C f;have hle:=DB M N hw J;have A5:=aan M N hw T;have E:=iP A4 (f:=f) J;have D:=iP Z (f:=f) J;have H:=λn=>FU (a:=(dt p.vars name).1) (n:=n) (w:=w) ⟨hle.1,by omega⟩ A5;have e:s5 p.vars (.mk 4 0 name [] [y] I) val ⟨C,f⟩=vR (cb p.vars C y) ⟨C,f⟩ (λk=>vR (cb p.vars C val) ⟨C,f⟩ λn=>zF C f (dt p.vars name).1 w k n):=by simp[s5,Dr,nr hw]
 rw[e,TW (by simp)];clear e;cases O:cb p.vars C y with
 |f e=>
  rw[O]at E;simp[bm,dj]at A E;simp[f143,cu,aZ,A,E,aj];exact⟨_,rfl⟩
 |v k t=>
  rw[O]at E;cases A2:cb p.vars C val with
  |f e=>
   rw[A2]at D;simp[bm,dj]at A E D;simp[f143,cu,aZ,A,E,D,aj];exact⟨_,rfl⟩
  |v n t=>
   rw[A2]at D;have H:=H k;simp only[vR,zF];by_cases U:k<w.lo\/w.hi<k
   ·rw[aal U]at H⊢;simp[bm,dj]at A E D H;simp[f143,cu,aZ,A,E,D,H,aj];exact⟨_,rfl⟩
   ·rw[aac U]at H⊢;have A6:=Uu (v:=C.length) N J.len hw T U;obtain⟨a,V⟩:∃a:Nat,(dt p.vars name).1+(k-w.lo)=a:=⟨((dt p.vars name).1+(k-w.lo)).toNat,by omega⟩;rw[V]at H A6⊢;have A':a<C.length:=by omega
    simp[bm,dj]at A E D H;simp[f143,cu,aZ,A,E,D,H,A',aj];refine⟨0,?_⟩;simp[NA,dU,List.map_set]
end
end Go.Am
end

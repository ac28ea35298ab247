/-
  Texts of one proof, one behind the other.
-/
import Derived.Test.YtccmboenpbjhnaaGreatDoorD4
import Derived.ProofKit
import Derived.ChangeArms
import Derived.ChangeCalls
set_option linter.all false
section
namespace Go.Am
open Go Go.Proofs Go.Proofs.Tryz
variable [Inhabited bA]
set_option maxRecDepth 20000
@[reducible] noncomputable def bL(p:List Nat):Code:=Code.at (bm f37) p
section
variable {x:Sm} {v:Nat} {k:Kt} {R1:bW} {a b:AV} (A:k .ret ⟨258,aA,[(2,true,.d (.bool false))],[⟨300,v,bg x⟩]⟩=R1)
def IF(x:Sm):Bool:=decide (1<=a6 x/\a6 x<=9)&&(if a6 x=4\/a6 x=9 then cL (gG x)else decide (gG x=[]))
def IG(x:Sm):Bool:=if a6 x=1 then decide (cB (fB x)=3\/cB (fB x)=4)&&dJ (fB x)else fw (fB x)
def ED(x:Sm):Bool:=(if a6 x=1\/a6 x=3\/a6 x=5\/a6 x=6 then !fw (dn x)&&dJ (dn x)else fw (dn x))&&cS (bV x)
include A
theorem ap2{d6 d7:AV}:aI ctx 37 (bL [1,0,1,0,0,1,0,0,1,1,0]) ⟨258,aA,[(0,true,a),(3,true,b),(4,true,.ptr 300 v 0),(5,true,.d (.bool (decide (a6 x=4\/a6 x=9)))),(6,true,d6),(7,true,d7)],[⟨300,v,bg x⟩]⟩ k=
 if IF x=true then k .normal ⟨258,aA,[(0,true,a),(3,true,b),(4,true,.ptr 300 v 0),(6,true,d6),(7,true,d7),(59,true,.d (.bool false))],[⟨300,v,bg x⟩]⟩else R1:=by
 have M:=ei (gG x);unfold IF;simp only[bg]at A;generalize cL (gG x)=N at*;by_cases D:a6 x<1
 ·have J:¬1<=a6 x:=by omega
  simp[bL,f37];simp[D,J,A]
 ·have J:1<=a6 x:=by omega
  by_cases U:9<a6 x
  ·have E:¬a6 x<=9:=by omega
   simp[bL,f37];simp[D,J,U,E,A]
  ·have E:a6 x<=9:=by omega
   by_cases H:a6 x=4
   ·simp only[H]at A⊢;cases N<;>(simp[bL,f37];simp[H,M,A])
   ·by_cases O:a6 x=9
    ·simp only[O]at A⊢;cases N<;>(simp[bL,f37];simp[O,M,A])
    ·by_cases he:gG x=[]
     ·simp only[he]at A⊢;simp[bL,f37];simp[D,J,U,E,H,O,he,A]
     ·simp[bL,f37];simp[D,J,U,E,H,O,he,A]
theorem ap3{d7:AV}(V:(ec (fB x)).length<100000000/\(fa (fB x)).length<100000000/\(cR (fB x)).length<100000000)(I:KF [fB x]):aI ctx 37 (bL [1,0,1,0,0,1,0,0,1,1,1,0]) ⟨258,aA,[(0,true,a),(3,true,b),(4,true,.ptr 300 v 0),(6,true,.d (.bool (decide (a6 x=1)))),(7,true,d7),(59,true,.d (.bool false))],[⟨300,v,bg x⟩]⟩ k=
 if IG x=true then k .normal ⟨258,aA,[(0,true,a),(3,true,b),(4,true,.ptr 300 v 0),(7,true,d7),(89,true,.d (.bool false))],[⟨300,v,bg x⟩]⟩else R1:=by
 have M:=No V;unfold KF at I;simp[aZ,cS]at I;unfold IG;simp only[bg]at A;generalize fw (fB x)=N at*;generalize dJ (fB x)=T at*;by_cases D:a6 x=1
 ·simp only[D]at A;by_cases E:cB (fB x)=3
  ·simp only[E]at A I;cases T<;>(simp[bL,f37];simp[D,E,I,A])
  ·by_cases H:cB (fB x)=4
   ·simp only[H]at A I;cases T<;>(simp[bL,f37];simp[D,H,I,A])
   ·simp[bL,f37];simp[D,E,H,A]
 ·cases N<;>(simp[bL,f37];simp[D,M,A])
end
section
variable {x:Sm} {v:Nat} {k:Kt} {R1:bW} {a b:AV}
theorem ap4(A:k .ret ⟨258,aA,[(2,true,.d (.bool false))],[⟨300,v,bg x⟩]⟩=R1){V:Bool}(A5:V=decide (a6 x=1\/a6 x=3\/a6 x=5\/a6 x=6))(A6:(ec (dn x)).length<100000000/\(fa (dn x)).length<100000000/\(cR (dn x)).length<100000000)(A2:KF [dn x])(A3:KF (bV x)):aI ctx 37 (bL [1,0,1,0,0,1,0,0,1,1,1,1,0]) ⟨258,aA,[(0,true,a),(3,true,b),(4,true,.ptr 300 v 0),(7,true,.d (.bool V)),(89,true,.d (.bool false))],[⟨300,v,bg x⟩]⟩ k=
 if ED x=true then k .normal ⟨258,aA,[(0,true,a),(3,true,b),(4,true,.ptr 300 v 0),(118,true,.d (.bool false))],[⟨300,v,bg x⟩]⟩else R1:=by
 have A4:=No A6;unfold KF at A2 A3;simp[aZ,cS]at A2;have e:ED x=((if V=true then !fw (dn x)&&dJ (dn x)else fw (dn x))&&cS (bV x)):=by
  unfold ED;rw[A5];by_cases h:a6 x=1\/a6 x=3\/a6 x=5\/a6 x=6
  ·rw[aap h,aap (by simpa using h)]
  ·rw[aah h,aah (by simpa using h)]
 rw[e];simp only[bg]at A;generalize fw (dn x)=N at*;generalize dJ (dn x)=T at*;generalize cS (bV x)=W at*;clear A5 e;cases V with
 |true=>
  cases N with
  |true=>(simp[bL,f37];simp[A4,A])
  |false=>cases T<;>cases W<;>(simp[bL,f37];simp[A4,A2,A3,A])
 |false=>cases N<;>cases W<;>(simp[bL,f37];simp[A4,A3,A])
theorem ap5{X:Env}:aI ctx 37 (bL [1,0,1,0,0,1,0,0,1,1,1,1,1,0]) ⟨258,aA,[(0,true,a),(3,true,b),(4,true,.ptr 300 v 0),(118,true,.d (.bool false))],[⟨300,v,bg x⟩]⟩ k=
 k .normal ⟨258,aA,[(0,true,a),(3,true,b),(4,true,.ptr 300 v 0),(8,true,.d (.int .i64 0)),(9,true,.d (.int .i64 0)),(10,true,.d (.int .i64 0)),(11,true,.d (.int .i64 0)),(12,true,.d (.int .i64 0))],[⟨300,v,bg x⟩]⟩:=by
 simp[bL,f37]
def zI(n:Int):Int:=if 1<n then n else 1
def oS(x:Sm):Int:=if a6 x=2 then zI (bV x).length else if a6 x=4 then 3 else if a6 x=9 then (dp x).length else 0
def oT(x:Sm):Int:=if a6 x=3 then (cx x).length else 0
def lg(x:Sm):Int:=if a6 x=9 then (dp x).length else 0
def iw(x:Sm):Int:=if a6 x=2 then zI (bV x).length else if a6 x=3 then (cx x).length else if a6 x=4\/a6 x=5\/a6 x=6 then 1 else 0
def iP(x:Sm):Int:=if a6 x=2\/a6 x=3 then 1 else 0
def cX(x:Sm):Env:=if a6 x=2\/a6 x=3\/a6 x=4\/a6 x=5\/a6 x=6\/a6 x=9 then []else [(144,true,.d (.bool false))]
theorem ae9(Z:a6 x=2):aI ctx 37 (bL [1,0,1,0,0,1,0,0,1,1,1,1,1,1,0]) ⟨258,aA,[(0,true,a),(3,true,b),(4,true,.ptr 300 v 0),(8,true,.d (.int .i64 0)),(9,true,.d (.int .i64 0)),(10,true,.d (.int .i64 0)),(11,true,.d (.int .i64 0)),(12,true,.d (.int .i64 0))],[⟨300,v,bg x⟩]⟩ k=
 k .normal ⟨258,aA,[(0,true,a),(3,true,b),(4,true,.ptr 300 v 0),(8,true,.d (.int .i64 (oS x))),(9,true,.d (.int .i64 (oT x))),(10,true,.d (.int .i64 (lg x))),(11,true,.d (.int .i64 (iw x))),(12,true,.d (.int .i64 (iP x)))]++cX x,[⟨300,v,bg x⟩]⟩:=by
 unfold oS oT lg iw iP cX;simp[bL,f37];simp[Z,aj,zI]
theorem afa(q:a6 x=3):aI ctx 37 (bL [1,0,1,0,0,1,0,0,1,1,1,1,1,1,0]) ⟨258,aA,[(0,true,a),(3,true,b),(4,true,.ptr 300 v 0),(8,true,.d (.int .i64 0)),(9,true,.d (.int .i64 0)),(10,true,.d (.int .i64 0)),(11,true,.d (.int .i64 0)),(12,true,.d (.int .i64 0))],[⟨300,v,bg x⟩]⟩ k=
 k .normal ⟨258,aA,[(0,true,a),(3,true,b),(4,true,.ptr 300 v 0),(8,true,.d (.int .i64 (oS x))),(9,true,.d (.int .i64 (oT x))),(10,true,.d (.int .i64 (lg x))),(11,true,.d (.int .i64 (iw x))),(12,true,.d (.int .i64 (iP x)))]++cX x,[⟨300,v,bg x⟩]⟩:=by
 unfold oS oT lg iw iP cX;simp[bL,f37];simp[q,aj,zI]
theorem afb(y:a6 x=4):aI ctx 37 (bL [1,0,1,0,0,1,0,0,1,1,1,1,1,1,0]) ⟨258,aA,[(0,true,a),(3,true,b),(4,true,.ptr 300 v 0),(8,true,.d (.int .i64 0)),(9,true,.d (.int .i64 0)),(10,true,.d (.int .i64 0)),(11,true,.d (.int .i64 0)),(12,true,.d (.int .i64 0))],[⟨300,v,bg x⟩]⟩ k=
 k .normal ⟨258,aA,[(0,true,a),(3,true,b),(4,true,.ptr 300 v 0),(8,true,.d (.int .i64 (oS x))),(9,true,.d (.int .i64 (oT x))),(10,true,.d (.int .i64 (lg x))),(11,true,.d (.int .i64 (iw x))),(12,true,.d (.int .i64 (iP x)))]++cX x,[⟨300,v,bg x⟩]⟩:=by
 unfold oS oT lg iw iP cX;simp[bL,f37];simp[y,aj,zI]
theorem afc(A':a6 x=5):aI ctx 37 (bL [1,0,1,0,0,1,0,0,1,1,1,1,1,1,0]) ⟨258,aA,[(0,true,a),(3,true,b),(4,true,.ptr 300 v 0),(8,true,.d (.int .i64 0)),(9,true,.d (.int .i64 0)),(10,true,.d (.int .i64 0)),(11,true,.d (.int .i64 0)),(12,true,.d (.int .i64 0))],[⟨300,v,bg x⟩]⟩ k=
 k .normal ⟨258,aA,[(0,true,a),(3,true,b),(4,true,.ptr 300 v 0),(8,true,.d (.int .i64 (oS x))),(9,true,.d (.int .i64 (oT x))),(10,true,.d (.int .i64 (lg x))),(11,true,.d (.int .i64 (iw x))),(12,true,.d (.int .i64 (iP x)))]++cX x,[⟨300,v,bg x⟩]⟩:=by
 unfold oS oT lg iw iP cX;simp[bL,f37];simp[A',aj,zI]
theorem afd(A0:a6 x=6):aI ctx 37 (bL [1,0,1,0,0,1,0,0,1,1,1,1,1,1,0]) ⟨258,aA,[(0,true,a),(3,true,b),(4,true,.ptr 300 v 0),(8,true,.d (.int .i64 0)),(9,true,.d (.int .i64 0)),(10,true,.d (.int .i64 0)),(11,true,.d (.int .i64 0)),(12,true,.d (.int .i64 0))],[⟨300,v,bg x⟩]⟩ k=
 k .normal ⟨258,aA,[(0,true,a),(3,true,b),(4,true,.ptr 300 v 0),(8,true,.d (.int .i64 (oS x))),(9,true,.d (.int .i64 (oT x))),(10,true,.d (.int .i64 (lg x))),(11,true,.d (.int .i64 (iw x))),(12,true,.d (.int .i64 (iP x)))]++cX x,[⟨300,v,bg x⟩]⟩:=by
 unfold oS oT lg iw iP cX;simp[bL,f37];simp[A0,aj,zI]
theorem afe(D:a6 x=9):aI ctx 37 (bL [1,0,1,0,0,1,0,0,1,1,1,1,1,1,0]) ⟨258,aA,[(0,true,a),(3,true,b),(4,true,.ptr 300 v 0),(8,true,.d (.int .i64 0)),(9,true,.d (.int .i64 0)),(10,true,.d (.int .i64 0)),(11,true,.d (.int .i64 0)),(12,true,.d (.int .i64 0))],[⟨300,v,bg x⟩]⟩ k=
 k .normal ⟨258,aA,[(0,true,a),(3,true,b),(4,true,.ptr 300 v 0),(8,true,.d (.int .i64 (oS x))),(9,true,.d (.int .i64 (oT x))),(10,true,.d (.int .i64 (lg x))),(11,true,.d (.int .i64 (iw x))),(12,true,.d (.int .i64 (iP x)))]++cX x,[⟨300,v,bg x⟩]⟩:=by
 unfold oS oT lg iw iP cX;simp[bL,f37];simp[D,aj,zI]
theorem aff(Z:¬a6 x=2)(q:¬a6 x=3)(y:¬a6 x=4)(A':¬a6 x=5)(A0:¬a6 x=6)(D:¬a6 x=9):aI ctx 37 (bL [1,0,1,0,0,1,0,0,1,1,1,1,1,1,0]) ⟨258,aA,[(0,true,a),(3,true,b),(4,true,.ptr 300 v 0),(8,true,.d (.int .i64 0)),(9,true,.d (.int .i64 0)),(10,true,.d (.int .i64 0)),(11,true,.d (.int .i64 0)),(12,true,.d (.int .i64 0))],[⟨300,v,bg x⟩]⟩ k=
 k .normal ⟨258,aA,[(0,true,a),(3,true,b),(4,true,.ptr 300 v 0),(8,true,.d (.int .i64 (oS x))),(9,true,.d (.int .i64 (oT x))),(10,true,.d (.int .i64 (lg x))),(11,true,.d (.int .i64 (iw x))),(12,true,.d (.int .i64 (iP x)))]++cX x,[⟨300,v,bg x⟩]⟩:=by
 unfold oS oT lg iw iP cX;simp[bL,f37];simp[Z,q,y,A',A0,D,aj,zI]
theorem ap6:aI ctx 37 (bL [1,0,1,0,0,1,0,0,1,1,1,1,1,1,0]) ⟨258,aA,[(0,true,a),(3,true,b),(4,true,.ptr 300 v 0),(8,true,.d (.int .i64 0)),(9,true,.d (.int .i64 0)),(10,true,.d (.int .i64 0)),(11,true,.d (.int .i64 0)),(12,true,.d (.int .i64 0))],[⟨300,v,bg x⟩]⟩ k=
 k .normal ⟨258,aA,[(0,true,a),(3,true,b),(4,true,.ptr 300 v 0),(8,true,.d (.int .i64 (oS x))),(9,true,.d (.int .i64 (oT x))),(10,true,.d (.int .i64 (lg x))),(11,true,.d (.int .i64 (iw x))),(12,true,.d (.int .i64 (iP x)))]++cX x,[⟨300,v,bg x⟩]⟩:=by
 by_cases Z:a6 x=2
 ·exact ae9 Z
 ·by_cases q:a6 x=3
  ·exact afa q
  ·by_cases y:a6 x=4
   ·exact afb y
   ·by_cases A':a6 x=5
    ·exact afc A'
    ·by_cases A0:a6 x=6
     ·exact afd A0
     ·by_cases D:a6 x=9
      ·exact afe D
      ·exact aff Z q y A' A0 D
theorem ajA(A:k .ret ⟨258,aA,[(2,true,.d (.bool false))],[⟨300,v,bg x⟩]⟩=R1){M O U E I:Int}(hw:IntKind.i64.wrap (E+I)=E+I):aI ctx 37 (bL [1,0,1,0,0,1,0,0,1,1,1,1,1,1,1,0]) ⟨258,aA,[(0,true,a),(3,true,b),(4,true,.ptr 300 v 0),(8,true,.d (.int .i64 M)),(9,true,.d (.int .i64 O)),(10,true,.d (.int .i64 U)),(11,true,.d (.int .i64 E)),(12,true,.d (.int .i64 I))],[⟨300,v,bg x⟩]⟩ k=
 if (((bV x).length:Int)=M/\((cx x).length:Int)=O/\((dp x).length:Int)=U/\¬((aO x).length:Int)<E/\¬E+I<((aO x).length:Int))then k .normal ⟨258,aA,[(0,true,a),(3,true,b),(4,true,.ptr 300 v 0),(186,true,.d (.bool false))],[⟨300,v,bg x⟩]⟩else R1:=by
 simp only[bg]at A;by_cases H:((bV x).length:Int)=M
 ·by_cases D:((cx x).length:Int)=O
  ·by_cases J:((dp x).length:Int)=U
   ·by_cases Y:((aO x).length:Int)<E
    ·(simp[bL,f37];simp[H,D,J,Y,A];intros;exfalso;omega)
    ·by_cases A1:E+I<((aO x).length:Int)
     ·(simp[bL,f37];simp[H,D,J,Y,hw,A1,A];intros;exfalso;omega)
     ·(simp[bL,f37];simp[H,D,J,Y,hw,A1,A])
   ·(simp[bL,f37];simp[H,D,J,A])
  ·(simp[bL,f37];simp[H,D,A])
 ·(simp[bL,f37];simp[H,A])
theorem ajB(A:k .ret ⟨258,aA,[(2,true,.d (.bool false))],[⟨300,v,bg x⟩]⟩=R1){M O U E I:Int}(hw:IntKind.i64.wrap (E+I)=E+I):aI ctx 37 (bL [1,0,1,0,0,1,0,0,1,1,1,1,1,1,1,0]) ⟨258,aA,[(0,true,a),(3,true,b),(4,true,.ptr 300 v 0),(8,true,.d (.int .i64 M)),(9,true,.d (.int .i64 O)),(10,true,.d (.int .i64 U)),(11,true,.d (.int .i64 E)),(12,true,.d (.int .i64 I)),(144,true,.d (.bool false))],[⟨300,v,bg x⟩]⟩ k=
 if (((bV x).length:Int)=M/\((cx x).length:Int)=O/\((dp x).length:Int)=U/\¬((aO x).length:Int)<E/\¬E+I<((aO x).length:Int))then k .normal ⟨258,aA,[(0,true,a),(3,true,b),(4,true,.ptr 300 v 0),(186,true,.d (.bool false))],[⟨300,v,bg x⟩]⟩else R1:=by
 simp only[bg]at A;by_cases H:((bV x).length:Int)=M
 ·by_cases D:((cx x).length:Int)=O
  ·by_cases J:((dp x).length:Int)=U
   ·by_cases Y:((aO x).length:Int)<E
    ·(simp[bL,f37];simp[H,D,J,Y,A];intros;exfalso;omega)
    ·by_cases A1:E+I<((aO x).length:Int)
     ·(simp[bL,f37];simp[H,D,J,Y,hw,A1,A];intros;exfalso;omega)
     ·(simp[bL,f37];simp[H,D,J,Y,hw,A1,A])
   ·(simp[bL,f37];simp[H,D,J,A])
  ·(simp[bL,f37];simp[H,D,A])
 ·(simp[bL,f37];simp[H,A])
end
def KS(b:List Sm):Prop:=ah ctx 37 [.d (.list (b.map cw))] []=some (.ret (.d (.bool (ej b))),[])
section
variable {x:Sm} {v:Nat} {k:Kt} {R1 R2:bW} {a b:AV}
theorem II(M:(dp x).length<100000000)(D:k .ret ⟨258,aA,[(2,true,.d (.bool false))],[⟨300,v,bg x⟩]⟩=R1)
 (E:k (.exit 3) ⟨258,aA,[(0,true,a),(3,true,b),(4,true,.ptr 300 v 0),(13,true,.d (.int .i64 (dp x).length)),(191,true,.d (.bool false))],[⟨300,v,bg x⟩]⟩=R2):∀(rest pre:List Tx),dp x=pre++rest->
 aI ctx 37 (.loop (bL [1,0,1,0,0,1,0,0,1,1,1,1,1,1,1,1,0,1,0,0])) ⟨258,aA,[(0,true,a),(3,true,b),(4,true,.ptr 300 v 0),(13,true,.d (.int .i64 pre.length))],[⟨300,v,bg x⟩]⟩ k=if rest.all cL=true then R2 else R1
 |[],pre,A=>by
  have O:pre.length=(dp x).length:=by rw[A];simp
  simp only[bg]at E;rw[O,ai];simp[bL,f37,E]
 |c::rest,pre,A=>by
  have H:pre.length<(dp x).length:=by rw[A];simp
  have I:(dp x)[pre.length]=c:=by simp[A]
  have ih:=II M D E rest (pre++[c]) (by simp[A]);have J:=ei c;have T:IntKind.i64.wrap ((pre.length:Int)+1)=(pre.length:Int)+1:=aE (by unfold aG;omega);simp only[bg]at D;rw[afX];generalize cL c=N at*;rw[ai];cases N with
  |true=>
   simp[bL,f37]at ih⊢;simp[H,I,J,T,ih]
  |false=>
   simp[bL,f37];simp[H,I,J,D]
theorem IJ{l:List Int}{i:Nat}(hi:i<(cx x).length)(U:(cx x)[i]=l)(M:l.length<100000000)(D:k .ret ⟨258,aA,[(2,true,.d (.bool false))],[⟨300,v,bg x⟩]⟩=R1)
 (E:k (.exit 7) ⟨258,aA,[(0,true,a),(3,true,b),(4,true,.ptr 300 v 0),(14,true,.d (.int .i64 i)),(15,true,.d (.int .i64 l.length)),(232,true,.d (.bool false))],[⟨300,v,bg x⟩]⟩=R2):∀(rest pre:List Int),l=pre++rest->
 aI ctx 37 (.loop (bL [1,0,1,0,0,1,0,0,1,1,1,1,1,1,1,1,1,0,1,0,0,1,0,0,1,1,0,0])) ⟨258,aA,[(0,true,a),(3,true,b),(4,true,.ptr 300 v 0),(14,true,.d (.int .i64 i)),(15,true,.d (.int .i64 pre.length))],[⟨300,v,bg x⟩]⟩ k=if rest.all (λn=>decide (n≠ -9223372036854775808))=true then R2 else R1
 |[],pre,A=>by
  have O:pre.length=l.length:=by rw[A];simp
  simp only[bg]at E;rw[O,ai];simp[bL,f37];simp[hi,U,hM,E]
 |c::rest,pre,A=>by
  have H:pre.length<l.length:=by rw[A];simp
  have I:l[pre.length]=c:=by simp[A]
  have ih:=IJ hi U M D E rest (pre++[c]) (by simp[A]);have T:IntKind.i64.wrap ((pre.length:Int)+1)=(pre.length:Int)+1:=aE (by unfold aG;omega);simp only[bg]at D;rw[afX];rw[ai];by_cases V:c= -9223372036854775808
  ·simp[bL,f37];simp[hi,U,hM,H,I,V,D]
  ·simp[bL,f37]at ih⊢;simp[hi,U,hM,H,I,V,T,ih]
theorem IK(M:(aO x).length<100000000)(Y:∀c∈aO x,KS c)(D:k .ret ⟨258,aA,[(2,true,.d (.bool false))],[⟨300,v,bg x⟩]⟩=R1)
 (E:k (.exit 9) ⟨258,aA,[(0,true,a),(3,true,b),(4,true,.ptr 300 v 0),(16,true,.d (.int .i64 (aO x).length)),(248,true,.d (.bool false))],[⟨300,v,bg x⟩]⟩=R2):∀(rest pre:List (List Sm)),aO x=pre++rest->
 aI ctx 37 (.loop (bL [1,0,1,0,0,1,0,0,1,1,1,1,1,1,1,1,1,1,1,0,0])) ⟨258,aA,[(0,true,a),(3,true,b),(4,true,.ptr 300 v 0),(16,true,.d (.int .i64 pre.length))],[⟨300,v,bg x⟩]⟩ k=if dL rest=true then R2 else R1
 |[],pre,A=>by
  have O:pre.length=(aO x).length:=by rw[A];simp
  simp only[bg]at E;rw[O,ai];simp[bL,f37,E,dL]
 |c::rest,pre,A=>by
  have H:pre.length<(aO x).length:=by rw[A];simp
  have I:(aO x)[pre.length]=c:=by simp[A]
  have ih:=IK M Y D E rest (pre++[c]) (by simp[A]);have J:=Y c (by rw[A];simp);have T:IntKind.i64.wrap ((pre.length:Int)+1)=(pre.length:Int)+1:=aE (by unfold aG;omega);simp only[bg]at D;unfold KS at J;have key:dL (c::rest)=(ej c&&dL rest):=by rw[dL]
  rw[key];generalize ej c=N at*;rw[ai];cases N with
  |true=>
   simp[bL,f37]at ih⊢;simp[H,I,J,nL,T,ih]
  |false=>
   simp[bL,f37];simp[H,I,J,nL,D]
end
section
variable {x:Sm} {v:Nat} {k:Kt} {R1 R2:bW} {a b:AV}
theorem IL(Y:(cx x).length<100000000)(U:∀l∈cx x,l.length<100000000)(A:k .ret ⟨258,aA,[(2,true,.d (.bool false))],[⟨300,v,bg x⟩]⟩=R1)
 (E:k (.exit 5) ⟨258,aA,[(0,true,a),(3,true,b),(4,true,.ptr 300 v 0),(14,true,.d (.int .i64 (cx x).length)),(205,true,.d (.bool false))],[⟨300,v,bg x⟩]⟩=R2):∀(rest pre:List (List Int)),cx x=pre++rest->
 aI ctx 37 (.loop (bL [1,0,1,0,0,1,0,0,1,1,1,1,1,1,1,1,1,0,1,0,0])) ⟨258,aA,[(0,true,a),(3,true,b),(4,true,.ptr 300 v 0),(14,true,.d (.int .i64 pre.length))],[⟨300,v,bg x⟩]⟩ k=if rest.all zG=true then R2 else R1
 |[],pre,D=>by
  have Z:pre.length=(cx x).length:=by rw[D];simp
  simp only[bg]at E;rw[Z,ai];simp[bL,f37,E]
 |c::rest,pre,D=>by
  have I:pre.length<(cx x).length:=by rw[D];simp
  have J:(cx x)[pre.length]=c:=by simp[D]
  have q:=U c (by rw[D];simp);have ih:=IL Y U A E rest (pre++[c]) (by simp[D]);have y:IntKind.i64.wrap ((pre.length:Int)+1)=(pre.length:Int)+1:=aE (by unfold aG;omega);have V:=λk R1 R2 A E=>IJ (a:=a) (b:=b) (v:=v) (k:=k) (R1:=R1) (R2:=R2) I J q A E c [] rfl;simp only[bg]at A;rw[afX];have key:zG c=(!decide (c.length=0)&&(decide (c.length%2=0)&&c.all λn=>decide (n≠ -9223372036854775808))):=rfl;rw[key];generalize (c.all λn=>decide (n≠ -9223372036854775808))=B at*;rw[ai];have M:((c.length:Int)).tmod 2=((c.length%2:Nat):Int):=(Int.ofNat_tmod c.length 2).symm;by_cases H:c.length=0
  ·have N:c=[]:=acp H;simp[bL,f37];simp[I,J,hM,H,N,A]
  ·have N:¬c=[]:=λh=>H (by rw[h];rfl);by_cases T:c.length%2=1
   ·have O:¬c.length%2=0:=by omega
    rw[T]at M;simp[bL,f37];simp[I,J,hM,H,N,T,O,M,A]
   ·have O:c.length%2=0:=by omega
    rw[O]at M;simp[bL,f37]at ih V⊢;simp[I,J,hM,H,N,T,O,M];rw[V];cases B<;>simp[A,y,ih]
end
section
variable {x:Sm} {v:Nat} {k:Kt} {R1 R2:bW} {a b:AV}
theorem ap7(H:(dp x).length<100000000)(A:k .ret ⟨258,aA,[(2,true,.d (.bool false))],[⟨300,v,bg x⟩]⟩=R1):
 aI ctx 37 (bL [1,0,1,0,0,1,0,0,1,1,1,1,1,1,1,1,0]) ⟨258,aA,[(0,true,a),(3,true,b),(4,true,.ptr 300 v 0),(186,true,.d (.bool false))],[⟨300,v,bg x⟩]⟩ k=
 if (dp x).all cL=true then k .normal ⟨258,aA,[(0,true,a),(3,true,b),(4,true,.ptr 300 v 0),(13,true,.d (.int .i64 (dp x).length)),(191,true,.d (.bool false))],[⟨300,v,bg x⟩]⟩else R1:=by
 have D:=λk R1 R2 A E=>II (a:=a) (b:=b) (v:=v) (k:=k) (R1:=R1) (R2:=R2) H A E (dp x) [] rfl;simp only[bg]at A;generalize (dp x).all cL=B at*;simp[bL,f37]at D⊢;rw[D];cases B<;>simp[A]
theorem ap8(H:(cx x).length<100000000)(T:∀l∈cx x,l.length<100000000)(A:k .ret ⟨258,aA,[(2,true,.d (.bool false))],[⟨300,v,bg x⟩]⟩=R1){d1 d2:AV}:
 aI ctx 37 (bL [1,0,1,0,0,1,0,0,1,1,1,1,1,1,1,1,1,0]) ⟨258,aA,[(0,true,a),(3,true,b),(4,true,.ptr 300 v 0),(13,true,d1),(191,true,d2)],[⟨300,v,bg x⟩]⟩ k=
 if (cx x).all zG=true then k .normal ⟨258,aA,[(0,true,a),(3,true,b),(4,true,.ptr 300 v 0),(14,true,.d (.int .i64 (cx x).length)),(205,true,.d (.bool false))],[⟨300,v,bg x⟩]⟩else R1:=by
 have D:=λk R1 R2 A E=>IL (a:=a) (b:=b) (v:=v) (k:=k) (R1:=R1) (R2:=R2) H T A E (cx x) [] rfl;simp only[bg]at A;generalize (cx x).all zG=B at*;simp[bL,f37]at D⊢;rw[D];cases B<;>simp[A]
theorem ap9(H:(aO x).length<100000000)(U:∀c∈aO x,KS c)(A:k .ret ⟨258,aA,[(2,true,.d (.bool false))],[⟨300,v,bg x⟩]⟩=R1){d1 d2:AV}:
 aI ctx 37 (bL [1,0,1,0,0,1,0,0,1,1,1,1,1,1,1,1,1,1]) ⟨258,aA,[(0,true,a),(3,true,b),(4,true,.ptr 300 v 0),(14,true,d1),(205,true,d2)],[⟨300,v,bg x⟩]⟩ k=
 if dL (aO x)=true then k .normal ⟨258,aA,[(0,true,a),(3,true,b),(4,true,.ptr 300 v 0),(16,true,.d (.int .i64 (aO x).length)),(248,true,.d (.bool false))],[⟨300,v,bg x⟩]⟩else R1:=by
 have D:=λk R1 R2 A E=>IK (a:=a) (b:=b) (v:=v) (k:=k) (R1:=R1) (R2:=R2) H U A E (aO x) [] rfl;simp only[bg]at A;generalize dL (aO x)=B at*;simp[bL,f37]at D⊢;rw[D];cases B<;>simp[A]
theorem aqa:aI ctx 37 (bL [1,0,1,0,0,1,0,0,1,0]) ⟨258,aA,[(0,true,a),(3,true,b),(4,true,.ptr 300 v 0)],[⟨300,v,bg x⟩]⟩ k=
 k .normal ⟨258,aA,[(0,true,a),(3,true,b),(4,true,.ptr 300 v 0),(5,true,.d (.bool (decide (a6 x=4\/a6 x=9)))),(6,true,.d (.bool (decide (a6 x=1)))),(7,true,.d (.bool (decide (a6 x=1\/a6 x=3\/a6 x=5\/a6 x=6))))],[⟨300,v,bg x⟩]⟩:=by
 have V:=WO (a6 x);simp[bL,f37];simp[V]
end
def EE(x:Sm):Bool:=decide (((bV x).length:Int)=oS x/\((cx x).length:Int)=oT x/\((dp x).length:Int)=lg x/\¬((aO x).length:Int)<iw x/\¬iw x+iP x<((aO x).length:Int))
theorem QT(x:Sm):EE x=gO (a6 x) (bV x).length (cx x).length (dp x).length (aO x).length:=by
 unfold EE gO oS oT lg iw iP zI;generalize a6 x=o;generalize (bV x).length=Y;generalize (cx x).length=Z;generalize (dp x).length=q;generalize (aO x).length=y;rw[Bool.eq_iff_iff];by_cases E:o=2
 ·subst E;by_cases h:(1:Int)<Y
  ·simp[h];omega
  ·simp[h];omega
 ·by_cases I:o=3
  ·subst I;simp;omega
  ·by_cases J:o=4
   ·subst J;simp;omega
   ·by_cases M:o=5
    ·subst M;simp;omega
    ·by_cases N:o=6
     ·subst N;simp;omega
     ·by_cases O:o=9
      ·subst O;simp;omega
      ·simp[E,I,J,M,N,O]
theorem afg(x:Sm):nu x=(IF x&&(IG x&&(ED x&&(EE x&&((dp x).all cL&&((cx x).all zG&&dL (aO x))))))):=by
 rw[QT];obtain⟨op,name,to,val,A',A0,fields,A1,line⟩:=x;unfold nu IF IG ED;simp only[Bool.and_assoc];rfl
end Go.Am
end
section
namespace Go.Am
open Go Go.Proofs
variable [Inhabited bA]
set_option maxRecDepth 20000
theorem aag(x:Ex):vG x↔((ec x).length<100000000/\(fa x).length<100000000/\(cR x).length<100000000)/\oz (cR x):=by
 obtain⟨op,nn,name,field,sub,line⟩:=x;simp only[vG,Th,Ti,Tj]
mutual
def Bb:Sm->Prop
 | .mk _ _ to val E H fields I _=>(vG to/\vG val/\(E.length<100000000/\oz E)/\(H.length<100000000/\∀l∈H,l.length<100000000)/\fields.length<100000000/\I.length<100000000)/\nw I
def ke:List Sm->Prop
 |[]=>True
 |x::r=>Bb x/\ke r
def nw:List (List Sm)->Prop
 |[]=>True
 |b::r=>(b.length<100000000/\ke b)/\nw r
end
def ub(x:Sm):Prop:=vG (fB x)/\vG (dn x)/\((bV x).length<100000000/\oz (bV x))/\((cx x).length<100000000/\∀l∈cx x,l.length<100000000)/\(dp x).length<100000000/\(aO x).length<100000000
theorem QU(x:Sm):Bb x↔ub x/\nw (aO x):=by
 obtain⟨op,name,to,val,E,H,fields,I,line⟩:=x;unfold Bb ub;rfl
theorem WR(x:Sm):cX x=[]\/cX x=[(144,true,.d (.bool false))]:=by
 unfold cX;split
 ·exact .inl rfl
 ·exact .inr rfl
theorem ajC{x:Sm}(h:ub x):IntKind.i64.wrap (iw x+iP x)=iw x+iP x:=by
 obtain⟨_,_,⟨J,_⟩,⟨AE,_⟩,_,_⟩:=h;apply aE;have AF:0<=iw x/\iw x<200000000:=by
  unfold iw zI;split
  ·split<;>omega
  ·split
   ·omega
   ·split<;>omega
 have a2:0<=iP x/\iP x<=1:=by
  unfold iP;split<;>omega
 unfold aG;omega
section
variable {x:Sm} {v:Nat} {k:Kt} {R1:bW} {a b:AV}
theorem afh(N:ub x)(V:∀c∈aO x,KS c)(J:k .ret ⟨258,aA,[(2,true,.d (.bool false))],[⟨300,v,bg x⟩]⟩=R1):
 aI ctx 37 (bL [1,0,1,0,0,1,0,0,1]) ⟨258,aA,[(0,true,a),(3,true,b),(4,true,.ptr 300 v 0)],[⟨300,v,bg x⟩]⟩ k=
 if nu x=true then k .normal ⟨258,aA,[(0,true,a),(3,true,b),(4,true,.ptr 300 v 0),(16,true,.d (.int .i64 (aO x).length)),(248,true,.d (.bool false))],[⟨300,v,bg x⟩]⟩else R1:=by
 have Y:bL [1,0,1,0,0,1,0,0,1]=Code.seq (bL [1,0,1,0,0,1,0,0,1,0]) (bL [1,0,1,0,0,1,0,0,1,1]):=rfl;have Z:bL [1,0,1,0,0,1,0,0,1,1]=Code.seq (bL [1,0,1,0,0,1,0,0,1,1,0]) (bL [1,0,1,0,0,1,0,0,1,1,1]):=rfl;have q:bL [1,0,1,0,0,1,0,0,1,1,1]=Code.seq (bL [1,0,1,0,0,1,0,0,1,1,1,0]) (bL [1,0,1,0,0,1,0,0,1,1,1,1]):=rfl;have y:bL [1,0,1,0,0,1,0,0,1,1,1,1]=Code.seq (bL [1,0,1,0,0,1,0,0,1,1,1,1,0]) (bL [1,0,1,0,0,1,0,0,1,1,1,1,1]):=rfl;have A':bL [1,0,1,0,0,1,0,0,1,1,1,1,1]=Code.seq (bL [1,0,1,0,0,1,0,0,1,1,1,1,1,0]) (bL [1,0,1,0,0,1,0,0,1,1,1,1,1,1]):=rfl;have A0:bL [1,0,1,0,0,1,0,0,1,1,1,1,1,1]=Code.seq (bL [1,0,1,0,0,1,0,0,1,1,1,1,1,1,0]) (bL [1,0,1,0,0,1,0,0,1,1,1,1,1,1,1]):=rfl;have A1:bL [1,0,1,0,0,1,0,0,1,1,1,1,1,1,1]=Code.seq (bL [1,0,1,0,0,1,0,0,1,1,1,1,1,1,1,0]) (bL [1,0,1,0,0,1,0,0,1,1,1,1,1,1,1,1]):=rfl;have A2:bL [1,0,1,0,0,1,0,0,1,1,1,1,1,1,1,1]=Code.seq (bL [1,0,1,0,0,1,0,0,1,1,1,1,1,1,1,1,0]) (bL [1,0,1,0,0,1,0,0,1,1,1,1,1,1,1,1,1]):=rfl;have A3:bL [1,0,1,0,0,1,0,0,1,1,1,1,1,1,1,1,1]=Code.seq (bL [1,0,1,0,0,1,0,0,1,1,1,1,1,1,1,1,1,0]) (bL [1,0,1,0,0,1,0,0,1,1,1,1,1,1,1,1,1,1]):=rfl;have A:∀c,zn ctx 37 c k .ret ⟨258,aA,[(2,true,.d (.bool false))],[⟨300,v,bg x⟩]⟩=R1:=λ_=>J;have hw:=ajC N;obtain⟨O,T,⟨A4,A5⟩,⟨A6,A7⟩,A8,A9⟩:=N;have AA:KF [fB x]:=BX (l:=[fB x]) (by simp) ⟨O,trivial⟩;have AB:KF [dn x]:=BX (l:=[dn x]) (by simp) ⟨T,trivial⟩;have AC:KF (bV x):=BX A4 A5;rw[afg];rw[Y,fF,aqa,iL,Z,fF,ap2 (A _)];cases IF x
 ·rw[agy,aah acC,aah acC]
 rw[aap rfl,aks,iL,q,fF,ap3 (A _) ((aag _).1 O).1 AA];cases IG x
 ·rw[agy,aah acC,aah acC]
 rw[aap rfl,aks,iL,y,fF,ap4 (A _) rfl ((aag _).1 T).1 AB AC];cases ED x
 ·rw[agy,aah acC,aah acC]
 rw[aap rfl,aks,iL,A',fF,ap5 (X:=[]),iL,A0,fF,ap6,iL,A1,fF];have AD:∀D:Kt,D .ret ⟨258,aA,[(2,true,.d (.bool false))],[⟨300,v,bg x⟩]⟩=R1->aI ctx 37 (bL [1,0,1,0,0,1,0,0,1,1,1,1,1,1,1,0]) ⟨258,aA,[(0,true,a),(3,true,b),(4,true,.ptr 300 v 0),(8,true,.d (.int .i64 (oS x))),(9,true,.d (.int .i64 (oT x))),(10,true,.d (.int .i64 (lg x))),(11,true,.d (.int .i64 (iw x))),(12,true,.d (.int .i64 (iP x)))]++cX x,[⟨300,v,bg x⟩]⟩ D=
  if EE x=true then D .normal ⟨258,aA,[(0,true,a),(3,true,b),(4,true,.ptr 300 v 0),(186,true,.d (.bool false))],[⟨300,v,bg x⟩]⟩else R1:=by
  intro D U;unfold EE;rcases WR x with M|M
  ·rw[M,afl,ajA U hw];simp only[aam]
  ·rw[M];simp only[afK,List.nil_append];rw[ajB U hw];simp only[aam]
 rw[AD _ (A _)];cases EE x
 ·rw[agy,aah acC,aah acC]
 rw[aap rfl,aks,iL,A2,fF,ap7 A8 (A _)];cases (dp x).all cL
 ·rw[agy,aah acC,aah acC]
 rw[aap rfl,aks,iL,A3,fF,ap8 A6 A7 (A _)];cases (cx x).all zG
 ·rw[agy,aah acC,aah acC]
 rw[aap rfl,aks,iL,ap9 A9 V J]
end
end Go.Am
end
section
namespace Go.Am
open Go Go.Proofs Go.Proofs.Tryz
variable [Inhabited bA]
set_option maxRecDepth 20000
theorem IM(l:List Sm)(I:l.length<100000000)(O:∀x∈l,ub x)(T:∀x∈l,∀c∈aO x,KS c)(k:Kt)(R1 R2:bW)
 (D:∀v X,k .ret ⟨258,aA,[(2,true,.d (.bool false))],[⟨300,v,X⟩]⟩=R1)
 (E:∀(Y:Env) v X,k (.exit 0) ⟨258,aA,Y,[⟨300,v,X⟩]⟩=R2):∀(rest pre:List Sm)(v:Nat)(X:ay),l=pre++rest->
 aI ctx 37 (.loop (bL [1,0,1,0,0])) ⟨258,aA,[(0,true,.d (.list (l.map cw))),(3,true,.d (.int .i64 pre.length))],[⟨300,v,X⟩]⟩ k=if ej rest=true then R2 else R1
 |[],pre,v,X,H=>by
  have V:pre.length=l.length:=by rw[H];simp
  rw[V,ai];simp[bL,f37,E,ej]
 |x::rest,pre,v,X,H=>by
  have Z:pre.length<l.length:=by rw[H];simp
  have q:l[pre.length]=x:=by simp[H]
  have hm:x∈l:=by rw[H];simp
  have U:=λ(v:Nat) (a b:AV) (k:Kt)=>afh (v:=v) (a:=a) (b:=b) (k:=k) (O x hm) (T x hm) rfl;have ih:∀v X,aI ctx 37 (.loop (bL [1,0,1,0,0])) ⟨258,aA,[(0,true,.d (.list (l.map cw))),(3,true,.d (.int .i64 (pre.length+1)))],[⟨300,v,X⟩]⟩ k=if ej rest=true then R2 else R1:=λv X=>by
   have:=IM l I O T k R1 R2 D E rest (pre++[x]) v X (by simp[H]);simpa using this
  have A':IntKind.i64.wrap ((pre.length:Int)+1)=(pre.length:Int)+1:=aE (by unfold aG;omega);have key:ej (x::rest)=(nu x&&ej rest):=by rw[ej]
  rw[key];generalize nu x=N at*;generalize ej rest=M at*;rw[ai];simp[bL,f37]at U ih⊢;simp[Z,q,b6];simp[U];cases N<;>simp[D,A',ih]
theorem Uj{l:List Sm}(I:l.length<100000000)(O:∀x∈l,ub x)(T:∀x∈l,∀c∈aO x,KS c):KS l:=by
 have h:=λk R1 R2 D E v X=>IM l I O T k R1 R2 D E l [] v X rfl;unfold KS;rw[aje (by simp)];simp[bL,f37]at h⊢;rw[h _ (some (.ret (.d (.bool false)),[])) (some (.ret (.d (.bool true)),[]))]
 ·cases ej l<;>simp
 ·intro v X;simp
 ·intro Y v X;simp
mutual
theorem afj:∀x:Sm,Bb x->ub x/\∀c∈aO x,KS c
 | .mk op name to val A1 A2 fields A0 line,h=>by
  have h:=(QU _).1 h;exact⟨h.1,Nq A0 h.2⟩
theorem Ay:∀l:List Sm,ke l->∀x∈l,ub x/\∀c∈aO x,KS c
 |[],_,x,A=>by simp at A
 |y::r,h,x,A=>by
  simp only[ke]at h;have D:=afj y h.1;have E:=Ay r h.2;rcases aan.1 A with e|A
  ·rw[e];exact D
  ·exact E x A
theorem Nq:∀l:List (List Sm),nw l->∀c∈l,KS c
 |[],_,c,J=>by simp at J
 |b::r,h,c,J=>by
  simp only[nw]at h;have D:=Ay b h.1.2;have E:=Nq r h.2;rcases aan.1 J with e|J
  ·rw[e];exact Uj h.1.1 (λx A=>(D x A).1) (λx A=>(D x A).2)
  ·exact E c J
end
theorem WS{l:List Sm}(I:l.length<100000000)(h:ke l):KS l:=
 Uj I (λx A=>(Ay l h x A).1) (λx A=>(Ay l h x A).2)
end Go.Am
end
section
namespace Go.Am
open Go Go.Proofs
variable [Inhabited bA]
set_option maxRecDepth 20000
theorem aqb:ah ctx 52 [.d (.int .i64 10)] []=some (.ret (.d (.list ((br 10).map cE))),[]):=bk 120 (by kernel_rfl)
theorem aqc:ah ctx 52 [.d (.int .i64 11)] []=some (.ret (.d (.list ((br 11).map cE))),[]):=bk 120 (by kernel_rfl)
theorem aqd:ah ctx 52 [.d (.int .i64 12)] []=some (.ret (.d (.list ((br 12).map cE))),[]):=bk 120 (by kernel_rfl)
theorem aqe:ah ctx 52 [.d (.int .i64 13)] []=some (.ret (.d (.list ((br 13).map cE))),[]):=bk 120 (by kernel_rfl)
theorem aqf:ah ctx 52 [.d (.int .i64 14)] []=some (.ret (.d (.list ((br 14).map cE))),[]):=bk 120 (by kernel_rfl)
theorem aqg:ah ctx 52 [.d (.int .i64 15)] []=some (.ret (.d (.list ((br 15).map cE))),[]):=bk 120 (by kernel_rfl)
theorem aqh:ah ctx 52 [.d (.int .i64 16)] []=some (.ret (.d (.list ((br 16).map cE))),[]):=bk 120 (by kernel_rfl)
theorem aqi:ah ctx 52 [.d (.int .i64 17)] []=some (.ret (.d (.list ((br 17).map cE))),[]):=bk 120 (by kernel_rfl)
theorem aqj:ah ctx 52 [.d (.int .i64 18)] []=some (.ret (.d (.list ((br 18).map cE))),[]):=bk 120 (by kernel_rfl)
theorem aqk:ah ctx 52 [.d (.int .i64 19)] []=some (.ret (.d (.list ((br 19).map cE))),[]):=bk 120 (by kernel_rfl)
theorem aql:ah ctx 52 [.d (.int .i64 20)] []=some (.ret (.d (.list ((br 20).map cE))),[]):=bk 120 (by kernel_rfl)
theorem aqm:ah ctx 52 [.d (.int .i64 21)] []=some (.ret (.d (.list ((br 21).map cE))),[]):=bk 120 (by kernel_rfl)
theorem aqn:ah ctx 52 [.d (.int .i64 22)] []=some (.ret (.d (.list ((br 22).map cE))),[]):=bk 120 (by kernel_rfl)
theorem aqo:ah ctx 52 [.d (.int .i64 23)] []=some (.ret (.d (.list ((br 23).map cE))),[]):=bk 120 (by kernel_rfl)
theorem aqp:ah ctx 52 [.d (.int .i64 24)] []=some (.ret (.d (.list ((br 24).map cE))),[]):=bk 120 (by kernel_rfl)
theorem aqq:ah ctx 52 [.d (.int .i64 25)] []=some (.ret (.d (.list ((br 25).map cE))),[]):=bk 120 (by kernel_rfl)
theorem aqr:ah ctx 52 [.d (.int .i64 26)] []=some (.ret (.d (.list ((br 26).map cE))),[]):=bk 120 (by kernel_rfl)
theorem aqs:ah ctx 52 [.d (.int .i64 27)] []=some (.ret (.d (.list ((br 27).map cE))),[]):=bk 120 (by kernel_rfl)
theorem aqt:ah ctx 52 [.d (.int .i64 28)] []=some (.ret (.d (.list ((br 28).map cE))),[]):=bk 120 (by kernel_rfl)
theorem aqu:ah ctx 52 [.d (.int .i64 29)] []=some (.ret (.d (.list ((br 29).map cE))),[]):=bk 120 (by kernel_rfl)
theorem aqv:ah ctx 52 [.d (.int .i64 30)] []=some (.ret (.d (.list ((br 30).map cE))),[]):=bk 120 (by kernel_rfl)
theorem aqw:ah ctx 52 [.d (.int .i64 31)] []=some (.ret (.d (.list ((br 31).map cE))),[]):=bk 120 (by kernel_rfl)
end Go.Am
end
section
namespace Go.Am
open Go Go.Proofs Go.Proofs.Tryz
variable [Inhabited bA]
set_option maxRecDepth 20000
abbrev Rw:=Int×Tx×Tx×List Tx
def Dv:List Rw:=[
 (10,[84,79,78],[105,73,111,79],[[73,78],[80,84],[81],[69,84]]),
 (11,[84,79,70],[105,73,111,79],[[73,78],[80,84],[81],[69,84]]),
 (12,[84,80],[105,73,111,79,46,46],[[73,78],[80,84],[81],[69,84]]),
 (13,[67,84,85],[105,105,73,111,79,46],[[67,85],[82],[80,86],[81],[67,86]]),
 (14,[67,84,68],[105,105,73,111,79,46],[[67,68],[76,68],[80,86],[81],[67,86]]),
 (15,[82,95,84,82,73,71],[105,111,46],[[67,76,75],[81]]),
 (16,[70,95,84,82,73,71],[105,111,46],[[67,76,75],[81]]),
 (17,[83,82],[105,105,111],[[83,49],[82],[81,49]]),
 (18,[82,83],[105,105,111],[[83],[82,49],[81,49]]),
 (20,[77,67,95,80,111,119,101,114],[73,105,111,111],[[65,120,105,115],[69,110,97,98,108,101],[83,116,97,116,117,115],[69,114,114,111,114]]),
 (21,[77,67,95,72,111,109,101],[73,105,111,111,111,111,111,46,46],[[65,120,105,115],[69,120,101,99,117,116,101],[68,111,110,101],[66,117,115,121],[65,99,116,105,118,101],[67,111,109,109,97,110,100,65,98,111,114,116,101,100],[69,114,114,111,114]]),
 (22,[77,67,95,83,116,111,112],[73,105,111,111,111,111,111,46,46],[[65,120,105,115],[69,120,101,99,117,116,101],[68,111,110,101],[66,117,115,121],[65,99,116,105,118,101],[67,111,109,109,97,110,100,65,98,111,114,116,101,100],[69,114,114,111,114]]),
 (23,[77,67,95,72,97,108,116],[73,105,111,111,111,111,111,46,46],[[65,120,105,115],[69,120,101,99,117,116,101],[68,111,110,101],[66,117,115,121],[65,99,116,105,118,101],[67,111,109,109,97,110,100,65,98,111,114,116,101,100],[69,114,114,111,114]]),
 (24,[77,67,95,77,111,118,101,65,98,115,111,108,117,116,101],[73,105,73,73,73,111,111,111,111,111,46,46],[[65,120,105,115],[69,120,101,99,117,116,101],[80,111,115,105,116,105,111,110],[86,101,108,111,99,105,116,121],[66,117,102,102,101,114,77,111,100,101],[68,111,110,101],[66,117,115,121],[65,99,116,105,118,101],[67,111,109,109,97,110,100,65,98,111,114,116,101,100],[69,114,114,111,114]]),
 (25,[77,67,95,77,111,118,101,82,101,108,97,116,105,118,101],[73,105,73,73,73,111,111,111,111,111,46,46],[[65,120,105,115],[69,120,101,99,117,116,101],[68,105,115,116,97,110,99,101],[86,101,108,111,99,105,116,121],[66,117,102,102,101,114,77,111,100,101],[68,111,110,101],[66,117,115,121],[65,99,116,105,118,101],[67,111,109,109,97,110,100,65,98,111,114,116,101,100],[69,114,114,111,114]]),
 (26,[77,67,95,77,111,118,101,65,100,100,105,116,105,118,101],[73,105,73,73,73,111,111,111,111,111,46,46],[[65,120,105,115],[69,120,101,99,117,116,101],[68,105,115,116,97,110,99,101],[86,101,108,111,99,105,116,121],[66,117,102,102,101,114,77,111,100,101],[68,111,110,101],[66,117,115,121],[65,99,116,105,118,101],[67,111,109,109,97,110,100,65,98,111,114,116,101,100],[69,114,114,111,114]]),
 (27,[77,67,95,77,111,118,101,86,101,108,111,99,105,116,121],[73,105,73,111,111,111,111,111,46,46],[[65,120,105,115],[69,120,101,99,117,116,101],[86,101,108,111,99,105,116,121],[73,110,86,101,108,111,99,105,116,121],[66,117,115,121],[65,99,116,105,118,101],[67,111,109,109,97,110,100,65,98,111,114,116,101,100],[69,114,114,111,114]]),
 (28,[77,67,95,71,101,97,114,73,110],[73,105,73,73,73,111,111,111,111,111,46,46],[[65,120,105,115],[69,120,101,99,117,116,101],[77,97,115,116,101,114],[78,117,109,101,114,97,116,111,114],[68,101,110,111,109,105,110,97,116,111,114],[73,110,71,101,97,114],[66,117,115,121],[65,99,116,105,118,101],[67,111,109,109,97,110,100,65,98,111,114,116,101,100],[69,114,114,111,114]]),
 (29,[77,67,95,82,101,115,101,116],[73,105,111,111,46],[[65,120,105,115],[69,120,101,99,117,116,101],[68,111,110,101],[69,114,114,111,114]]),
 (30,[77,67,95,83,101,116,80,111,115,105,116,105,111,110],[73,105,73,111,111,46],[[65,120,105,115],[69,120,101,99,117,116,101],[80,111,115,105,116,105,111,110],[68,111,110,101],[69,114,114,111,114]]),
 (31,[77,67,95,83,101,116,79,118,101,114,114,105,100,101],[73,105,73,111],[[65,120,105,115],[69,110,97,98,108,101],[80,101,114,99,101,110,116],[69,110,97,98,108,101,100]])]
def rwD(r:Rw):D:=.agg [.int .i64 r.1,.str r.2.1,.str r.2.2.1,.list (r.2.2.2.map .str)]
theorem afk:ah ctx 67 [] []=some (.ret (.d (.list (Dv.map rwD))),[]):=bk 120 (by kernel_rfl)
def uQ(k:Int):List Rw->Tx
 |[]=>[]
 |r::l=>if r.1=k then r.2.1 else uQ k l
theorem Nr(q:Int)(l:List Rw)(N:l.length<1000)(k:Kt)(RF:Tx->bW)
 (E:∀t,k .ret ⟨24,aA,[(2,true,.d (.str t))],[]⟩=RF t)
 (H:∀Y:Env,k (.exit 0) ⟨24,aA,Y,[]⟩=RF []):∀(rest pre:List Rw),l=pre++rest->
 aI ctx 36 (.loop (Code.at (bm f36) [1,1,0,1,0,0])) ⟨24,aA,[(0,true,.d (.int .i64 q)),(3,true,.d (.list (l.map rwD))),(4,true,.d (.int .i64 pre.length))],[]⟩ k=RF (uQ q rest)
 |[],pre,A=>by
  have O:pre.length=l.length:=by rw[A];simp
  rw[O,ai];simp[f36,H,uQ]
 |x::rest,pre,A=>by
  have I:pre.length<l.length:=by rw[A];simp
  have J:l[pre.length]=x:=by simp[A]
  have ih:=Nr q l N k RF E H rest (pre++[x]) (by simp[A]);have T:IntKind.i64.wrap ((pre.length:Int)+1)=(pre.length:Int)+1:=aE (by unfold aG;omega);rw[ai];by_cases M:x.1=q
  ·simp[f36];simp[I,J,rwD,M,E,uQ]
  ·simp[f36]at ih⊢;simp[I,J,rwD,M,T,ih,uQ]
theorem aqx(q:Int):ah ctx 36 [.d (.int .i64 q)] []=some (.ret (.d (.str (uQ q Dv))),[]):=by
 have h:=λk RF E H=>Nr q Dv (by decide) k RF E H Dv [] rfl;have U:=afk;rw[ajd (by simp)];generalize Dv=l at*;simp[f36]at h⊢;simp[U];rw[h _ (λt=>some (.ret (.d (.str t)),[])) (by simp) (by simp)]
theorem aa9(q:Int):(uQ q Dv=[])↔pU q=false:=by
 by_cases h:10<=q/\q<=31
 ·have:q=10\/q=11\/q=12\/q=13\/q=14\/q=15\/q=16\/q=17\/q=18\/q=19\/q=20\/q=21\/q=22\/q=23\/q=24\/q=25\/q=26\/q=27\/q=28\/q=29\/q=30\/q=31:=by omega
  rcases this with h|h|h|h|h|h|h|h|h|h|h|h|h|h|h|h|h|h|h|h|h|h<;>subst h<;>decide
 ·have e:∀n:Int,10<=n->n<=31->¬n=q:=λn a b c=>h (by omega);have V:br q=[]:=by
   unfold br K6;simp only[xf];rw[aah (e _ (by decide) (by decide)),aah (e _ (by decide) (by decide)),aah (e _ (by decide) (by decide)),aah (e _ (by decide) (by decide)),aah (e _ (by decide) (by decide)),aah (e _ (by decide) (by decide)),aah (e _ (by decide) (by decide)),aah (e _ (by decide) (by decide)),aah (e _ (by decide) (by decide)),aah (e _ (by decide) (by decide)),aah (e _ (by decide) (by decide)),aah (e _ (by decide) (by decide)),aah (e _ (by decide) (by decide)),aah (e _ (by decide) (by decide)),aah (e _ (by decide) (by decide)),aah (e _ (by decide) (by decide)),aah (e _ (by decide) (by decide)),aah (e _ (by decide) (by decide)),aah (e _ (by decide) (by decide)),aah (e _ (by decide) (by decide)),aah (e _ (by decide) (by decide))]
  have Z:uQ q Dv=[]:=by
   unfold Dv;simp only[uQ];rw[aah (e _ (by decide) (by decide)),aah (e _ (by decide) (by decide)),aah (e _ (by decide) (by decide)),aah (e _ (by decide) (by decide)),aah (e _ (by decide) (by decide)),aah (e _ (by decide) (by decide)),aah (e _ (by decide) (by decide)),aah (e _ (by decide) (by decide)),aah (e _ (by decide) (by decide)),aah (e _ (by decide) (by decide)),aah (e _ (by decide) (by decide)),aah (e _ (by decide) (by decide)),aah (e _ (by decide) (by decide)),aah (e _ (by decide) (by decide)),aah (e _ (by decide) (by decide)),aah (e _ (by decide) (by decide)),aah (e _ (by decide) (by decide)),aah (e _ (by decide) (by decide)),aah (e _ (by decide) (by decide)),aah (e _ (by decide) (by decide)),aah (e _ (by decide) (by decide))]
  rw[Z];unfold pU;rw[V];simp
end Go.Am
end
section
namespace Go.Am
open Go Go.Proofs
variable [Inhabited bA]
set_option maxRecDepth 20000
section
variable {vs:List Vr} {n:Int} (A:vs.length<1000000) (D:∀v∈vs,dB v=true)
def Uk(vs:List Vr)(x:Sm):EL:=match bu vs (gG x)with
 |none=>(9,kR x)
 |some v=>if v.ty<=2 then (10,kR x)else jt vs v.ty (kR x) (dp x) (bV x) []
def coE(vs:List Vr)(x:Sm):EL:=match bu vs (gG x)with
 |none=>(9,kR x)
 |some v=>if v.sec=1 then (1,kR x)else if v.arr=true\/v.ty≠1 then (10,kR x)else eS (lX vs 1 (bV x)) (s8 vs (aO x))
include A D
end
theorem rP(vs:List Vr)(lp:Bool)(x:Sm):zH vs lp x=
 if a6 x=1 then asE vs (fB x) (dn x) (kR x)
 else if a6 x=2 then fJ vs lp (bV x) (aO x)
 else if a6 x=3 then eS (dy vs (dn x) 1) (fJ vs lp [] (aO x))
 else if a6 x=4 then coE vs x
 else if a6 x=5 then eS (dy vs (dn x) 2) (s8 vs (aO x))
 else if a6 x=6 then eS (s8 vs (aO x)) (dy vs (dn x) 2)
 else if a6 x=7 then (if lp=true then (0,0)else (14,kR x))
 else if a6 x=9 then Uk vs x
 else (0,0):=by
 obtain⟨op,name,to,val,A,D,fields,E,line⟩:=x;unfold zH coE Uk;rfl
mutual
def Ns:Sm->Nat
 | .mk _ _ _ _ A D fields E _=>1+A.length+D.length+fields.length+uR E
def qQ:List Sm->Nat
 |[]=>0
 |x::r=>Ns x+qQ r
def uR:List (List Sm)->Nat
 |[]=>0
 |b::r=>qQ b+1+uR r
end
theorem BY:∀l:List Sm,l.length<=qQ l
 |[]=>by simp[qQ]
 | .mk _ _ _ _ c H f I _::r=>by have:=BY r;simp only[qQ,Ns,ab1];omega
theorem IN:∀l:List (List Sm),l.length<=uR l
 |[]=>by simp[uR]
 |b::r=>by have:=IN r;simp only[uR,ab1];omega
section
variable {vs:List Vr} {n:Int} (J:vs.length<1000000) (M:∀v∈vs,dB v=true)
end
section
variable {vs:List Vr} {n:Int} (A:vs.length<1000000) (D:∀v∈vs,dB v=true)
theorem kI{a b:EL}(h:a.1=0):eS a b=b:=by unfold eS;rw[aah (by simp[h])]
theorem oA{a b:EL}(h:¬a.1=0):eS a b=a:=by unfold eS;rw[aap h]
include A D
end
def di(e:EL):EL:=if e.1=0 then (0,0)else e
end Go.Am
end
section
namespace Go.Am
open Go Go.Proofs Go.Proofs.Tryz
variable [Inhabited bA]
set_option maxRecDepth 20000
@[reducible] noncomputable def fe(p:List Nat):Code:=Code.at (bm f14) p
def Ul(w:Vr):Bool:=cL w.name&&decide (0<=w.sec/\w.sec<=2)
def Um(w:Vr):Bool:=decide (w.ty=1\/w.ty=2)||pU w.ty
def Un(w:Vr):Bool:=if w.arr=true then decide (w.ty<=2/\0<=w.lo/\w.lo<=w.hi/\w.hi<=255)else decide (w.lo=0/\w.hi=0)
def fiE(w:Vr):Bool:=!decide (((w.arr=true\/2<w.ty)/\w.init≠0)\/(w.ty=2/\(w.init<0\/1<w.init))\/w.init= -9223372036854775808)
theorem afm(w:Vr):dB w=(Ul w&&(Um w&&(Un w&&fiE w))):=by
 unfold dB Ul Um Un fiE;simp only[Bool.and_assoc]
section
variable {w:Vr} {v:Nat} {k:Kt} {R1:bW} {a b:AV} {B:ay} (A:k .ret ⟨129,aA,[(2,true,.d (.bool false))],[⟨150,1,B⟩,⟨300,v,iB w⟩]⟩=R1)
include A
theorem ajD:aI ctx 14 (fe [1,1,0,1,0,0,1,0,0,1,0]) ⟨129,aA,[(1,true,a),(3,true,b),(4,true,.ptr 300 v 0)],[⟨150,1,B⟩,⟨300,v,iB w⟩]⟩ k=
 if Ul w=true then k .normal ⟨129,aA,[(1,true,a),(3,true,b),(4,true,.ptr 300 v 0),(40,true,.d (.bool false))],[⟨150,1,B⟩,⟨300,v,iB w⟩]⟩else R1:=by
 have O:=ei w.name;unfold Ul;simp only[iB]at A;generalize cL w.name=N at*;cases N with
 |false=>(simp[fe,f14];simp[O,A])
 |true=>
  by_cases D:w.sec<0
  ·have E:¬0<=w.sec:=by omega
   (simp[fe,f14];simp[O,D,E,A])
  ·have E:0<=w.sec:=by omega
   by_cases H:2<w.sec
   ·have J:¬w.sec<=2:=by omega
    (simp[fe,f14];simp[O,D,E,H,J,A])
   ·have J:w.sec<=2:=by omega
    (simp[fe,f14];simp[O,D,E,H,J,A])
theorem ajE{d:AV}:aI ctx 14 (fe [1,1,0,1,0,0,1,0,0,1,1,0]) ⟨129,aA,[(1,true,a),(3,true,b),(4,true,.ptr 300 v 0),(40,true,d)],[⟨150,1,B⟩,⟨300,v,iB w⟩]⟩ k=
 if Um w=true then k .normal ⟨129,aA,[(1,true,a),(3,true,b),(4,true,.ptr 300 v 0),(54,true,.d (.bool false))],[⟨150,1,B⟩,⟨300,v,iB w⟩]⟩else R1:=by
 have O:=aqx w.ty;have A':=aa9 w.ty;unfold Um;simp only[iB]at A;generalize uQ w.ty Dv=T at*;generalize pU w.ty=Q at*;by_cases D:w.ty=1
 ·(simp only[D]at A⊢;simp[fe,f14];simp[D])
 ·by_cases E:w.ty=2
  ·(simp only[E]at A⊢;simp[fe,f14];simp[E])
  ·by_cases V:T=[]
   ·have q:=A'.1 V
    (simp[fe,f14];simp[O,D,E,V,q,A])
   ·have q:Q=true:=by cases Q with|true=>rfl|false=>exact absurd (A'.2 rfl) V
    (simp[fe,f14];simp[O,D,E,V,q,A])
theorem ajF{d:AV}:aI ctx 14 (fe [1,1,0,1,0,0,1,0,0,1,1,1,0]) ⟨129,aA,[(1,true,a),(3,true,b),(4,true,.ptr 300 v 0),(54,true,d)],[⟨150,1,B⟩,⟨300,v,iB w⟩]⟩ k=
 if Un w=true then k .normal ⟨129,aA,[(1,true,a),(3,true,b),(4,true,.ptr 300 v 0),(93,true,.d (.bool false))],[⟨150,1,B⟩,⟨300,v,iB w⟩]⟩else R1:=by
 unfold Un;simp only[iB]at A;obtain⟨name,ty,sec,arr,lo,hi,init,line⟩:=w;simp only at A⊢;cases arr with
 |false=>
  by_cases D:lo=0
  ·by_cases E:hi=0
   ·(simp[fe,f14];simp[D,E,A])
   ·(simp only[D]at A;simp[fe,f14];simp[D,E,A])
  ·(simp[fe,f14];simp[D,A])
 |true=>
  by_cases D:2<ty
  ·have I:¬ty<=2:=by omega
   (simp[fe,f14];simp[D,I,A])
  ·have I:ty<=2:=by omega
   by_cases E:lo<0
   ·have U:¬0<=lo:=by omega
    (simp[fe,f14];simp[D,I,E,U,A])
   ·have U:0<=lo:=by omega
    by_cases H:hi<lo
    ·have Y:¬lo<=hi:=by omega
     (simp[fe,f14];simp[D,I,E,U,H,Y,A])
    ·have Y:lo<=hi:=by omega
     by_cases J:255<hi
     ·have M:¬hi<=255:=by omega
      (simp[fe,f14];simp[D,I,E,U,H,Y,J,M,A])
     ·have M:hi<=255:=by omega
      (simp[fe,f14];simp[D,I,E,U,H,Y,J,M,A])
theorem ajG{d:AV}:aI ctx 14 (fe [1,1,0,1,0,0,1,0,0,1,1,1,1]) ⟨129,aA,[(1,true,a),(3,true,b),(4,true,.ptr 300 v 0),(93,true,d)],[⟨150,1,B⟩,⟨300,v,iB w⟩]⟩ k=
 if fiE w=true then k .normal ⟨129,aA,[(1,true,a),(3,true,b),(125,true,.d (.bool false))],[⟨150,1,B⟩,⟨300,v,iB w⟩]⟩else R1:=by
 unfold fiE;simp only[iB]at A;obtain⟨name,ty,sec,arr,lo,hi,init,line⟩:=w;simp only at A⊢;cases arr with
 |true=>
  by_cases E:init=0
  ·subst E;by_cases H:ty=2
   ·subst H;(simp[fe,f14];all_goals simp[A])
   ·(simp[fe,f14];all_goals simp[H,A])
  ·(simp[fe,f14];all_goals simp[E,A])
 |false=>
  by_cases D:2<ty
  ·have H:¬ty=2:=by omega
   have I:¬ty<=2:=by omega
   by_cases E:init=0
   ·subst E;(simp[fe,f14];all_goals simp[D,I,H,A])
   ·(simp[fe,f14];all_goals simp[D,I,E,H,A])
  ·have I:ty<=2:=by omega
   by_cases H:ty=2
   ·subst H;by_cases J:init<0
    ·have M:¬0<=init:=by omega
     (simp[fe,f14];all_goals simp[J,M,A])
    ·have M:0<=init:=by omega
     by_cases A0:1<init
     ·have y:¬init<=1:=by omega
      (simp[fe,f14];all_goals simp[J,M,A0,y,A])
     ·have Z:¬init= -9223372036854775808:=by omega
      have y:init<=1:=by omega
      (simp[fe,f14];all_goals simp[J,M,A0,y,Z,A])
   ·by_cases Z:init= -9223372036854775808
    ·subst Z;(simp[fe,f14];all_goals simp[D,I,H,A])
    ·(simp[fe,f14];all_goals simp[D,I,H,Z,A])
end
section
variable {w:Vr} {v:Nat} {k:Kt} {R1:bW} {a b:AV} {B:ay}
theorem afo(Y:k .ret ⟨129,aA,[(2,true,.d (.bool false))],[⟨150,1,B⟩,⟨300,v,iB w⟩]⟩=R1):
 aI ctx 14 (fe [1,1,0,1,0,0,1,0,0,1]) ⟨129,aA,[(1,true,a),(3,true,b),(4,true,.ptr 300 v 0)],[⟨150,1,B⟩,⟨300,v,iB w⟩]⟩ k=
 if dB w=true then k .normal ⟨129,aA,[(1,true,a),(3,true,b),(125,true,.d (.bool false))],[⟨150,1,B⟩,⟨300,v,iB w⟩]⟩else R1:=by
 have A':fe [1,1,0,1,0,0,1,0,0,1]=Code.seq (fe [1,1,0,1,0,0,1,0,0,1,0]) (fe [1,1,0,1,0,0,1,0,0,1,1]):=rfl;have A0:fe [1,1,0,1,0,0,1,0,0,1,1]=Code.seq (fe [1,1,0,1,0,0,1,0,0,1,1,0]) (fe [1,1,0,1,0,0,1,0,0,1,1,1]):=rfl;have A1:fe [1,1,0,1,0,0,1,0,0,1,1,1]=Code.seq (fe [1,1,0,1,0,0,1,0,0,1,1,1,0]) (fe [1,1,0,1,0,0,1,0,0,1,1,1,1]):=rfl;have T:∀c,zn ctx 14 c k .ret ⟨129,aA,[(2,true,.d (.bool false))],[⟨150,1,B⟩,⟨300,v,iB w⟩]⟩=R1:=λ_=>Y;rw[afm,A',fF,ajD (T _)];cases Ul w
 ·rw[agy,aah acC,aah acC]
 rw[aap rfl,aks,iL,A0,fF,ajE (T _)];cases Um w
 ·rw[agy,aah acC,aah acC]
 rw[aap rfl,aks,iL,A1,fF,ajF (T _)];cases Un w
 ·rw[agy,aah acC,aah acC]
 rw[aap rfl,aks,iL,ajG Y]
end
theorem Nt(l:List Vr)(A2:l.length<=64)(A D:AV)(k:Kt)(R1 R2:bW)
 (H:∀v X,k .ret ⟨129,aA,[(2,true,.d (.bool false))],[⟨150,1,.box [A,.d (.list (l.map bn)),D]⟩,⟨300,v,X⟩]⟩=R1)
 (I:∀(b c:AV) v X,k (.exit 0) ⟨129,aA,[(1,true,.ptr 150 1 0),(3,true,b),(19,true,c)],[⟨150,1,.box [A,.d (.list (l.map bn)),D]⟩,⟨300,v,X⟩]⟩=R2):∀(rest pre:List Vr)(v:Nat)(X:ay),l=pre++rest->
 aI ctx 14 (.loop (fe [1,1,0,1,0,0])) ⟨129,aA,[(1,true,.ptr 150 1 0),(3,true,.d (.int .i64 pre.length))],[⟨150,1,.box [A,.d (.list (l.map bn)),D]⟩,⟨300,v,X⟩]⟩ k=if rest.all dB=true then R2 else R1
 |[],pre,v,X,E=>by
  have A3:pre.length=l.length:=by rw[E];simp
  rw[A3,ai];simp[fe,f14,I]
 |x::rest,pre,v,X,E=>by
  have A4:pre.length<l.length:=by rw[E];simp
  have A5:l[pre.length]=x:=by simp[E]
  have J:=λ(v:Nat) (a b:AV) (k:Kt)=>afo (w:=x) (v:=v) (a:=a) (b:=b) (k:=k) (B:=.box [A,.d (.list (l.map bn)),D]) rfl;have ih:∀v X,aI ctx 14 (.loop (fe [1,1,0,1,0,0])) ⟨129,aA,[(1,true,.ptr 150 1 0),(3,true,.d (.int .i64 (pre.length+1)))],[⟨150,1,.box [A,.d (.list (l.map bn)),D]⟩,⟨300,v,X⟩]⟩ k=if rest.all dB=true then R2 else R1:=λv X=>by
   have:=Nt l A2 A D k R1 R2 H I rest (pre++[x]) v X (by simp[E]);simpa using this
  have A6:IntKind.i64.wrap ((pre.length:Int)+1)=(pre.length:Int)+1:=aE (by unfold aG;omega);rw[afX];generalize dB x=N at*;generalize rest.all dB=M at*;rw[ai];simp[fe,f14]at J ih⊢;simp[A4,A5,bn,dk];simp[J];cases N<;>simp[H,A6,ih]
theorem afp{p:Pg}(J:p.body.length<100000000)(A7:ke p.body):ah ctx 14 [.d (.agg [.str p.name,.list (p.vars.map bn),.list (p.body.map cw)])] []=some (.ret (.d (.bool (mG p))),[]):=by
 have U:=ei p.name;have Z:=WS J A7;unfold KS at Z;rw[ai6 (by simp)];unfold mG;generalize cL p.name=N at*;generalize ej p.body=M at*;cases N with
 |false=>simp[f14,U]
 |true=>
  by_cases q:64<p.vars.length
  ·have V:(64:Int)<p.vars.length:=by omega
   have O:¬p.vars.length<=64:=by omega
   simp[f14,U,q,V,O]
  ·have V:¬(64:Int)<p.vars.length:=by omega
   have O:p.vars.length<=64:=by omega
   have y:=λA D k R1 R2 H I v X=>Nt p.vars O A D k R1 R2 H I p.vars [] v X rfl;generalize p.vars.all dB=Q at*;simp[fe,f14]at y;simp[f14,U,q,V,O];rw[y _ _ _ (some (.ret (.d (.bool false)),[])) (some (.ret (.d (.bool M)),[]))]
   ·cases Q<;>simp
   ·intro v X;simp
   ·intro b c v X;simp[Z]
def SE(l:List Ex):Prop:=∀most:Int,∃n d:Int,ah ctx 108 [.d (.list (l.map du)),.d (.int .i64 most)] []=some (.ret (.bM [.d (.int .i64 n),.d (.int .i64 d)]),[])
theorem Nu(l:List Ex)(E:l.length<100000000)(J:∀x∈l,SE (cR x))(most:Int)(k:Kt)(Q:bW->Prop)
 (H:∀(n d:Int)(b c:AV),Q (k (.exit 0) ⟨44,aA,[(0,true,.d (.list (l.map du))),(1,true,.d (.int .i64 most)),(6,true,.d (.int .i64 n)),(7,true,.d (.int .i64 d)),(8,true,b),(19,true,c)],[]⟩)):∀(rest pre:List Ex)(n d:Int),l=pre++rest->
 Q (aI ctx 108 (.loop (Code.at (bm f108) [1,1,0,1,0,0])) ⟨44,aA,[(0,true,.d (.list (l.map du))),(1,true,.d (.int .i64 most)),(6,true,.d (.int .i64 n)),(7,true,.d (.int .i64 d)),(8,true,.d (.int .i64 pre.length))],[]⟩ k)
 |[],pre,n,d,D=>by
  have O:pre.length=l.length:=by rw[D];simp
  rw[O,ai];simp[f108,H]
 |x::rest,pre,n,d,D=>by
  have M:pre.length<l.length:=by rw[D];simp
  have T:l[pre.length]=x:=by simp[D]
  obtain⟨m,V,hm⟩:=J x (by rw[D];simp) (IntKind.i64.wrap (most-n));have ih:∀n d,Q (aI ctx 108 (.loop (Code.at (bm f108) [1,1,0,1,0,0])) ⟨44,aA,[(0,true,.d (.list (l.map du))),(1,true,.d (.int .i64 most)),(6,true,.d (.int .i64 n)),(7,true,.d (.int .i64 d)),(8,true,.d (.int .i64 (pre.length+1)))],[]⟩ k):=λn d=>by
   have:=Nu l E J most k Q H rest (pre++[x]) n d (by simp[D]);simpa using this
  have U:IntKind.i64.wrap ((pre.length:Int)+1)=(pre.length:Int)+1:=aE (by unfold aG;omega);rw[ai];by_cases N:n<=most
  ·simp[f108]at ih⊢;simp[M,T,N,aZ,hm,U,ih]
  ·simp[f108];simp[M,N,H]
theorem afr{l:List Ex}(E:l.length<100000000)(J:∀x∈l,SE (cR x)):SE l:=by
 intro most;have h:=λk Q H=>Nu l E J most k Q H l [] 0 0 rfl;rw[ad5 (by simp)];simp[f108]at h⊢;apply h _ (λA=>∃n d:Int,A=some (.ret (.bM [.d (.int .i64 n),.d (.int .i64 d)]),[]));intro n d b c;simp
mutual
theorem aqy:∀x:Ex,vG x->SE (cR x)
 | .mk op nn name field sub line,h=>by
  simp only[vG]at h;exact afr h.1.2.2 (QV sub h.2)
theorem QV:∀l:List Ex,oz l->∀x∈l,SE (cR x)
 |[],_,x,I=>by simp at I
 |y::r,h,x,I=>by
  simp only[oz]at h;rcases aan.1 I with e|I
  ·rw[e];exact aqy y h.1
  ·exact QV r h.2 x I
end
theorem Up{l:List Ex}(E:l.length<100000000)(h:oz l):SE l:=afr E (QV l h)
@[reducible] noncomputable def km(p:List Nat):Code:=Code.at (bm f65) p
def SS(l:List Sm):Prop:=∀most:Int,∃n d:Int,ah ctx 65 [.d (.list (l.map cw)),.d (.int .i64 most)] []=some (.ret (.bM [.d (.int .i64 n),.d (.int .i64 d)]),[])
section
variable {x:Sm} {v:Nat} {k:Kt} {Q:bW->Prop} {a b:AV} {most:Int}
theorem ssA(A:SE [fB x,dn x])(D:SE (bV x))(n d:Int)
 (E:∀(n d:Int)(I J M N:AV),Q (k .normal ⟨136,aA,[(0,true,a),(1,true,.d (.int .i64 most)),(6,true,.d (.int .i64 n)),(7,true,.d (.int .i64 d)),(8,true,b),(9,true,.ptr 550 v 0),(42,true,I),(43,true,J),(44,true,M),(45,true,N)],[⟨550,v,bg x⟩]⟩)):
 Q (aI ctx 65 (km [1,1,0,1,0,0,1,0,0,1,1,0]) ⟨136,aA,[(0,true,a),(1,true,.d (.int .i64 most)),(6,true,.d (.int .i64 n)),(7,true,.d (.int .i64 d)),(8,true,b),(9,true,.ptr 550 v 0)],[⟨550,v,bg x⟩]⟩ k):=by
 unfold SE at A D;simp[aZ]at A;have H:IntKind.i64.wrap 1=1:=by decide
 have O:IntKind.i64.wrap 2=2:=by decide
 have T:List.range' 0 2=[0,1]:=rfl;simp only[bg]at E;obtain⟨m,Y,hm⟩:=A (IntKind.i64.wrap (most-n));simp[km,f65,T];rw[ai];simp[hm,H];generalize IntKind.i64.wrap (n+m)=U;obtain⟨Z,d2,V⟩:=D (IntKind.i64.wrap (most-U));rw[ai];simp[V,H,O];rw[ai];simp[E]
end
section
variable {x:Sm} {v:Nat} {k:Kt} {Q:bW->Prop} {a b:AV} {most:Int}
theorem ssB(n d:Int)(I J A3 A4:AV)
 (D:∀(n:Int),Q (k .normal ⟨136,aA,[(0,true,a),(1,true,.d (.int .i64 most)),(6,true,.d (.int .i64 n)),(7,true,.d (.int .i64 d)),(8,true,b),(9,true,.ptr 550 v 0)],[⟨550,v,bg x⟩]⟩)):
 Q (aI ctx 65 (km [1,1,0,1,0,0,1,0,0,1,1,1,0]) ⟨136,aA,[(0,true,a),(1,true,.d (.int .i64 most)),(6,true,.d (.int .i64 n)),(7,true,.d (.int .i64 d)),(8,true,b),(9,true,.ptr 550 v 0),(42,true,I),(43,true,J),(44,true,A3),(45,true,A4)],[⟨550,v,bg x⟩]⟩ k):=by
 simp only[bg]at D;simp[km,f65];apply D
theorem IQ(U:(cx x).length<100000000)(d:Int)
 (D:∀(n:Int)(I J:AV),Q (k (.exit 4) ⟨136,aA,[(0,true,a),(1,true,.d (.int .i64 most)),(6,true,.d (.int .i64 n)),(7,true,.d (.int .i64 d)),(8,true,b),(9,true,.ptr 550 v 0),(14,true,I),(88,true,J)],[⟨550,v,bg x⟩]⟩)):∀(rest pre:List (List Int))(n:Int),cx x=pre++rest->
 Q (aI ctx 65 (.loop (km [1,1,0,1,0,0,1,0,0,1,1,1,1,0,1,0,0])) ⟨136,aA,[(0,true,a),(1,true,.d (.int .i64 most)),(6,true,.d (.int .i64 n)),(7,true,.d (.int .i64 d)),(8,true,b),(9,true,.ptr 550 v 0),(14,true,.d (.int .i64 pre.length))],[⟨550,v,bg x⟩]⟩ k)
 |[],pre,n,E=>by
  have Z:pre.length=(cx x).length:=by rw[E];simp
  simp only[bg]at D;rw[Z,ai];simp[km,f65,D]
 |c::rest,pre,n,E=>by
  have O:pre.length<(cx x).length:=by rw[E];simp
  have q:(cx x)[pre.length]=c:=by simp[E]
  have ih:=λn=>IQ U d D rest (pre++[c]) n (by simp[E]);have A':IntKind.i64.wrap ((pre.length:Int)+1)=(pre.length:Int)+1:=aE (by unfold aG;omega);simp only[bg]at D;rw[ai];by_cases T:n<=most
  ·simp[km,f65]at ih⊢;simp[O,q,T,hM,A'];apply ih
  ·simp[km,f65];simp[O,T,D]
theorem IS(U:(aO x).length<100000000)(M:∀c∈aO x,SS c)
 (D:∀(n d:Int)(I J:AV),Q (k (.exit 6) ⟨136,aA,[(0,true,a),(1,true,.d (.int .i64 most)),(6,true,.d (.int .i64 n)),(7,true,.d (.int .i64 d)),(8,true,b),(9,true,.ptr 550 v 0),(15,true,I),(111,true,J)],[⟨550,v,bg x⟩]⟩)):∀(rest pre:List (List Sm))(n d:Int),aO x=pre++rest->
 Q (aI ctx 65 (.loop (km [1,1,0,1,0,0,1,0,0,1,1,1,1,1,1,0,0])) ⟨136,aA,[(0,true,a),(1,true,.d (.int .i64 most)),(6,true,.d (.int .i64 n)),(7,true,.d (.int .i64 d)),(8,true,b),(9,true,.ptr 550 v 0),(15,true,.d (.int .i64 pre.length))],[⟨550,v,bg x⟩]⟩ k)
 |[],pre,n,d,E=>by
  have Z:pre.length=(aO x).length:=by rw[E];simp
  simp only[bg]at D;rw[Z,ai];simp[km,f65,D]
 |c::rest,pre,n,d,E=>by
  have O:pre.length<(aO x).length:=by rw[E];simp
  have q:(aO x)[pre.length]=c:=by simp[E]
  have ih:=λn d=>IS U M D rest (pre++[c]) n d (by simp[E]);obtain⟨m,AF,hm⟩:=M c (by rw[E];simp) (IntKind.i64.wrap (most-n));have A':IntKind.i64.wrap ((pre.length:Int)+1)=(pre.length:Int)+1:=aE (by unfold aG;omega);simp only[bg]at D;rw[ai];by_cases T:n<=most
  ·simp[km,f65]at ih⊢;simp[O,q,T,nL,hm,A'];apply ih
  ·simp[km,f65];simp[O,T,D]
theorem afs(H:ub x)(M:∀c∈aO x,SS c)(n d:Int)
 (D:∀(n d:Int)(I J:AV),Q (k .normal ⟨136,aA,[(0,true,a),(1,true,.d (.int .i64 most)),(6,true,.d (.int .i64 n)),(7,true,.d (.int .i64 d)),(8,true,b),(9,true,.ptr 550 v 0),(15,true,I),(111,true,J)],[⟨550,v,bg x⟩]⟩)):
 Q (aI ctx 65 (km [1,1,0,1,0,0,1,0,0,1,1]) ⟨136,aA,[(0,true,a),(1,true,.d (.int .i64 most)),(6,true,.d (.int .i64 n)),(7,true,.d (.int .i64 d)),(8,true,b),(9,true,.ptr 550 v 0)],[⟨550,v,bg x⟩]⟩ k):=by
 obtain⟨A7,A8,⟨V,A9⟩,⟨AA,AG⟩,AH,AB⟩:=H;have AC:km [1,1,0,1,0,0,1,0,0,1,1]=Code.seq (km [1,1,0,1,0,0,1,0,0,1,1,0]) (km [1,1,0,1,0,0,1,0,0,1,1,1]):=rfl;have AD:km [1,1,0,1,0,0,1,0,0,1,1,1]=Code.seq (km [1,1,0,1,0,0,1,0,0,1,1,1,0]) (km [1,1,0,1,0,0,1,0,0,1,1,1,1]):=rfl;rw[AC,fF];apply ssA (Up (l:=[fB x,dn x]) (by simp) ⟨A7,A8,trivial⟩) (Up V A9);intro n d I J A3 A4;rw[iL,AD,fF];apply ssB;intro n;rw[iL];have A5:=λk Q D=>IQ (a:=a) (b:=b) (v:=v) (most:=most) (k:=k) (Q:=Q) AA d D (cx x) [] n rfl;simp[km,f65]at A5⊢;apply A5;intro n I J;have A6:=λk Q D=>IS (a:=a) (b:=b) (v:=v) (most:=most) (k:=k) (Q:=Q) AB M D (aO x) [] n d rfl;simp[km,f65]at A6⊢;apply A6;intro n d I J;simp only[bg]at D;simp[D]
end
theorem Nv(l:List Sm)(A0:l.length<100000000)(A1:∀x∈l,ub x)(M:∀x∈l,∀c∈aO x,SS c)(most:Int)(k:Kt)(Q:bW->Prop)
 (N:∀(n d:Int)(b c:AV) v X,Q (k (.exit 0) ⟨136,aA,[(0,true,.d (.list (l.map cw))),(1,true,.d (.int .i64 most)),(6,true,.d (.int .i64 n)),(7,true,.d (.int .i64 d)),(8,true,b),(26,true,c)],[⟨550,v,X⟩]⟩)):∀(rest pre:List Sm)(n d:Int)(v:Nat)(X:ay),l=pre++rest->
 Q (aI ctx 65 (.loop (km [1,1,0,1,0,0])) ⟨136,aA,[(0,true,.d (.list (l.map cw))),(1,true,.d (.int .i64 most)),(6,true,.d (.int .i64 n)),(7,true,.d (.int .i64 d)),(8,true,.d (.int .i64 pre.length))],[⟨550,v,X⟩]⟩ k)
 |[],pre,n,d,v,X,E=>by
  have Z:pre.length=l.length:=by rw[E];simp
  rw[Z,ai];simp[km,f65,N]
 |x::rest,pre,n,d,v,X,E=>by
  have O:pre.length<l.length:=by rw[E];simp
  have q:l[pre.length]=x:=by simp[E]
  have hm:x∈l:=by rw[E];simp
  have Y:=λ(v:Nat) (a b:AV) (k:Kt) (Q:bW->Prop) (n d:Int)=>afs (v:=v) (a:=a) (b:=b) (most:=most) (k:=k) (Q:=Q) (A1 x hm) (M x hm) n d;have ih:=λn d v X=>Nv l A0 A1 M most k Q N rest (pre++[x]) n d v X (by simp[E]);have A':IntKind.i64.wrap ((pre.length:Int)+1)=(pre.length:Int)+1:=aE (by unfold aG;omega);rw[ai];by_cases T:n<=most
  ·simp[km,f65]at Y ih⊢;simp[O,q,T,b6];apply Y;intro n d I J;simp[A',ih]
  ·simp[km,f65];simp[O,T,N]
theorem aft{l:List Sm}(A0:l.length<100000000)(A1:∀x∈l,ub x)(M:∀x∈l,∀c∈aO x,SS c):SS l:=by
 intro most;have h:=λk Q N v X=>Nv l A0 A1 M most k Q N l [] 0 0 v X rfl;rw[ajo (by simp)];simp[km,f65]at h⊢;apply h _ (λA=>∃n d:Int,A=some (.ret (.bM [.d (.int .i64 n),.d (.int .i64 d)]),[]));intro n d b c v X;simp
mutual
theorem aqz:∀x:Sm,Bb x->ub x/\∀c∈aO x,SS c
 | .mk op name to val AI AJ fields AE line,h=>by
  have h:=(QU _).1 h;exact⟨h.1,aaj AE h.2⟩
theorem GD:∀l:List Sm,ke l->∀x∈l,ub x/\∀c∈aO x,SS c
 |[],_,x,H=>by simp at H
 |y::r,h,x,H=>by
  simp only[ke]at h;have A2:=aqz y h.1;have N:=GD r h.2;rcases aan.1 H with e|H
  ·rw[e];exact A2
  ·exact N x H
theorem aaj:∀l:List (List Sm),nw l->∀c∈l,SS c
 |[],_,c,V=>by simp at V
 |b::r,h,c,V=>by
  simp only[nw]at h;have A2:=GD b h.1.2;have N:=aaj r h.2;rcases aan.1 V with e|V
  ·rw[e];exact aft h.1.1 (λx H=>(A2 x H).1) (λx H=>(A2 x H).2)
  ·exact N c V
end
theorem afu{l:List Sm}(A0:l.length<100000000)(h:ke l):SS l:=
 aft A0 (λx H=>(GD l h x H).1) (λx H=>(GD l h x H).2)
theorem afv{p:Pg}(Y:p.body.length<100000000)(U:ke p.body)(most:Int):∃n d:Int,ah ctx 34 [.d (.agg [.str p.name,.list (p.vars.map bn),.list (p.body.map cw)]),.d (.int .i64 most)] []=some (.ret (.bM [.d (.int .i64 n),.d (.int .i64 d)]),[]):=by
 obtain⟨n,d,h⟩:=afu Y U most;rw[ajb (by simp)];simp[f34,h]
theorem aba{p:Pg}(Y:p.body.length<100000000)(U:ke p.body):∃B:Bool,ah ctx 13 [.d (.agg [.str p.name,.list (p.vars.map bn),.list (p.body.map cw)])] []=some (.ret (.d (.bool B)),[]):=by
 obtain⟨n,d,h⟩:=afv Y U 2000;rw[ai5 (by simp)];simp[f13,h]
end Go.Am
end
section
namespace Go.Am
open Go Go.ChangeShapes Go.WideShapes Go.RowKit
def Az(P:Program)(ok:TypeId->Bool):List Field->Nat->Nat->Bool
 |[],o,M=>o == M
 |f::r,o,M=>f.offset == o&&ok f.type&&Az P ok r (o+P.cellsOf f.type) M
def typed(P:Program):Nat->TypeId->D->Prop
 |0,_,_=>False
 |n+1,t,d=>match P.underlying t with
  |some .bool=>∃b,d=.bool b
  |some (.int k)=>∃z,d=.int k z/\(Lit.int k z).wf=true
  |some .string=>∃s,d=.str s/\s.length<=maxLen
  |some (.slice e)=>∃xs,d=.list xs/\xs.length<=maxLen/\∀x∈xs,typed P n e x
  |some (.struct T)=>∃N:List D,d=.agg (N.flatMap D.cells)/\N.length=T.size/\∀(i:Nat)(f:Field)(y:D),T[i]?=some f->N[i]?=some y->typed P n f.type y
  |_=>False
def Reads(w:World)(F:Nat->Prop)(d:D)(cs:List Value):Prop:=
 d.cells.length=cs.length/\(∀u∈cs,cd u=true)/\∀(i:Nat) c u,d.cells[i]?=some c->cs[i]?=some u->aJ w F c u/\c.flat=true
theorem Reads.one{w F d v}(h:aJ w F d v)(O:d.flat=true)(E:d.cells=[d]):Reads w F d [v]:=by
 refine⟨by rw[E];rfl,λu hu=>?_,λi c u A I=>?_⟩
 ·simp at hu;subst hu;exact h.one O
 ·rw[E]at A;cases i with
  |zero=>simp at A I;subst A;subst I;exact⟨h,O⟩
  |succ i=>simp at A
def shaped(d:D)(cs:List Value):Value:=
 match d with
 | .agg _=>.agg cs.toArray
 |_=>cs.headD undef
theorem Reads.rel{w F d cs}(h:Reads w F d cs):aJ w F d (shaped d cs):=by
 obtain⟨A,I,J⟩:=h;have key:d.flat=true->d.cells=[d]->aJ w F d (cs.headD undef):=by
  intro O E;rw[E]at A J;match cs,A with
  |[u],_=>exact (J 0 d u rfl rfl).1
 cases d with
 |agg U=>exact aJ.nz A I (λi c v E V=>(J i c v E V).1)
 |_=>exact key rfl rfl
theorem Reads.IT{w F d cs}(h:Reads w F d cs):(shaped d cs).cells.toList=cs:=by
 obtain⟨A,I,J⟩:=h;have key:d.cells=[d]->(cs.headD undef).cells.toList=cs:=by
  intro E;rw[E]at A;match cs,A,I with
  |[u],_,I=>simp only[List.headD];rw[dC (I u (by simp))]
 cases d with
 |agg U=>simp[shaped,Value.cells]
 |_=>exact key rfl
theorem Dw{w:World}{base:Nat}{a:Addr}{n:Nat}{cs:List Value}(h:w.cells? base a n=some cs):cs.length=n/\∀j,j<n->w.cell? (a.add j)=cs[j]?:=by
 unfold World.cells? at h;split at h
 ·exact⟨by simpa using mapM_some_length h,λj Y=>mapM_some_get h j j (by simp[Y])⟩
 ·cases h
theorem add_add{b off n j:Nat}:(Addr.add (Addr.add ⟨b,off,none⟩ n) j)=⟨b,off+n+j,none⟩:=by
 unfold Addr.add;split<;>split<;>simp_all
theorem BZ{w:World}{a:Addr}{c:Value}(h:w.cell? a=some c):a.block<w.heap.size/\a.spot=none:=by
 unfold World.cell? at h;split at h
 ·rename_i hh;refine⟨(acw.1 hh).1,?_⟩;split at h
  ·cases h
  ·rename_i Z;simpa using Z
 ·cases h
section
variable {H:Type} {enc:TypeId×Value->H} {P:Program} {w:World} {base:Nat} {sp:Nat->Bool} {held:Bool}
end
section
variable {H:Type} {enc:TypeId×Value->H} {P:Program} {w:World} {base:Nat} {sp:Nat->Bool} {held:Bool}
theorem xS(T:laidOutB P=true){W V:World}(A:Below W.heap.size W V):∀{A3:List TypeId}{vs:List Value}{E:List (DataW H)}{ps:List MemPlace},DataW.TrodAll enc P W 0 (λ_=>true) true A3 vs E ps->
 (∀t∈A3,P.readableRec t=true/\t<P.types.size)->(∀x∈ps,x.block<W.heap.size)->DataW.TrodAll enc P V 0 (λb=>decide (b<W.heap.size)) true A3 vs E ps
 |[],[],[],_,h,_,_=>h
 |t::A3,v::vs,d::E,ps,h,A4,A8=>by
  obtain⟨p,q,J,Y,rfl⟩:=h;exact⟨p,q,Below.trod T (A4 t (by simp)).1 (A4 t (by simp)).2 J A (λx M=>A8 x (by simp[M])),xS T A Y (λt I=>A4 t (by simp[I])) (λx M=>A8 x (by simp[M])),rfl⟩
 |[],_::_,_,_,h,_,_=>by cases h
 |[],[],_::_,_,h,_,_=>by cases h
 |_::_,[],_,_,h,_,_=>by cases h
 |_::_,_::_,[],_,h,_,_=>by cases h
end
section
variable {P:Program} {n:Nat} {t:TypeId} {d:D}
def AA(P:Program)(n:Nat):List Field->List D->Prop
 |[],E=>E=[]
 |f::r,E=>∃y A9,typed P n f.type y/\AA P n r A9/\E=y.cells++A9
theorem Dx:∀{O:List Field}{U:List D},U.length=O.length->(∀(i:Nat)(f:Field)(y:D),O[i]?=some f->U[i]?=some y->typed P n f.type y)->AA P n O (U.flatMap D.cells)
 |[],[],_,_=>rfl
 |f::O,y::U,h,AB=>⟨y,U.flatMap D.cells,AB 0 f y rfl rfl,Dx (by simpa using h) (λi f y J Y=>AB (i+1) f y (by simpa using J) (by simpa using Y)),by simp⟩
theorem Uq{k:IntKind}(I:P.underlying t=some (.int k))(h:typed P (n+1) t d):∃z,d=.int k z/\(Lit.int k z).wf=true:=by simpa only[typed,I]using h
theorem QW(I:P.underlying t=some .bool)(h:typed P (n+1) t d):∃b,d=.bool b:=by simpa only[typed,I]using h
theorem IU(I:P.underlying t=some .string)(h:typed P (n+1) t d):∃s,d=.str s/\s.length<=maxLen:=by simpa only[typed,I]using h
theorem Kn{e:TypeId}(I:P.underlying t=some (.slice e))(h:typed P (n+1) t d):∃xs,d=.list xs/\xs.length<=maxLen/\∀x∈xs,typed P n e x:=by simpa only[typed,I]using h
theorem IV{O:Array Field}(I:P.underlying t=some (.struct O))(h:typed P (n+1) t d):∃E,d=.agg E/\AA P n O.toList E:=by
 simp only[typed,I]at h;obtain⟨U,rfl,J,Y⟩:=h;exact⟨_,rfl,Dx (by simpa using J) (λi f y AD AE=>Y i f y (by simpa using AD) AE)⟩
end
def afx(X:Ctx):Bool:=
 (List.range X.P.funcs.size).all (λg=>match X.P.funcs[g]? with|some fn=>fn.name != "runtime.NumGoroutine" &&(match fn.body with|some c=>dU X g fn.ntmps c|none=>true)|none=>true)&&X.P.follows .mixedOrders&&X.ov.isNone
def pV(X:Ctx)(g:FuncId)(h:List AV->Option AV):Prop:=ga X.P g=true/\∀(Z:List AV)(a:AV),h Z=some a->∀(φ:bG)(F:Nat->Prop)(w:World)(vs:Array Value),eh w F X.gl->(∀b,F b->b<w.heap.size)->Z.length=vs.size->
 (∀(i:Nat) x v,Z[i]?=some x->vs[i]?=some v->az φ w F x v)->Calls X.P g vs w λe w'=>∃v,e=.returned v/\Below w.heap.size w w'/\az φ w' F a v
theorem pV.lift{X:Ctx}{g:FuncId}{h:List D->Option D}(hh:ga X.P g=true/\∀(E:List D) (d:D),h E=some d->∀(F:Nat->Prop) (w:World) (vs:Array Value),eh w F X.gl->(∀b,F b->b<w.heap.size)->E.length=vs.size->
 (∀(i:Nat) x v,E[i]?=some x->vs[i]?=some v->aJ w F x v)->Calls X.P g vs w λe w'=>∃v,e=.returned v/\Below w.heap.size w w'/\aJ w' F d v):pV X g (ng h):=by
 refine⟨hh.1,λZ a A' φ F w vs AF AG T A5=>?_⟩;unfold ng at A';cases A6:toDs Z with
 |none=>rw[A6]at A';cases A'
 |some E=>
  rw[A6]at A';obtain⟨d,A7,rfl⟩:=aak.1 A';have he:=toDs_eq A6;subst he;refine (hh.2 E d A7 F w vs AF AG (by simpa using T) (λi x v M A0=>?_)).mono ?_
  ·have:=A5 i (.d x) v (by simp[M]) A0;cases this with|d _ _ h=>exact h
  ·rintro e w' ⟨v,rfl,A,A0⟩;exact⟨v,rfl,A,.d _ _ A0⟩
theorem jo.of{X:Ctx}(h:afx X=true)(A1:∀g h,X.vj g=some h->pV X g h):jo X:=by
 simp only[afx,Ds,aaH,ab2]at h;have key:∀(g:FuncId)(fn:Func),X.P.funcs[g]?=some fn->fn.name≠ "runtime.NumGoroutine" /\(match fn.body with|some c=>dU X g fn.ntmps c|none=>true)=true:=by
  intro g fn N;have J:=h.1.1 g (acw.1 N).1;rw[N]at J;simpa using J
 refine⟨by simpa using h.2,λg fn N=>(key g fn N).1,λg fn c N A=>?_,h.1.2,A1⟩;have:=(key g fn N).2;rw[A]at this;exact this
theorem uS{α:Type}{f:α->D}:∀{xs:List D},(∀x∈xs,∃r,x=f r)->∃rs:List α,xs=rs.map f
 |[],_=>⟨[],rfl⟩
 |x::xs,h=>by
  obtain⟨r,rfl⟩:=h x (by simp);obtain⟨rs,rfl⟩:=uS (xs:=xs) (λy AH=>h y (by simp[AH]));exact⟨r::rs,rfl⟩
def fr0:Fr:=⟨λ_=>False,[]⟩
theorem Ur{X:Ctx}(AI:jo X){f:FuncId}{b:Bool}{xs:List D}(AJ:ah X f (xs.map .d) []=some (.ret (.d (.bool b)),[])){W:World}{args:Array Value}(T:xs.length=args.size)
 (A5:∀(i:Nat) x v,xs[i]?=some x->args[i]?=some v->aJ W (λ_=>False) x v) (N:eh W (λ_=>False) X.gl):
 Calls X.P f args W λe V=>e=.returned (.bool b)/\Below W.heap.size W V:=by
 have h:=(V0 AI f _ _ _ _ AJ).2;have AC:∀b,Fo fr0 (λ_=>none) (dr 0 []) b->False:=by
  intro b A;rcases A with A|⟨e,he,_⟩
  ·exact A
  ·simp[dr]at he
 refine (h (λ_=>none) fr0 W args ⟨by simp[dr],λk L AK=>by simp at AK,λe he=>by simp[dr]at he,λe he=>by simp[dr]at he,λb ⟨e,he,_⟩=>by simp[dr]at he,λb A=>A.elim⟩
  (N.mono (λ_ _ _=>rfl) (aai _) (λb _ A=>AC b A)) (by simpa using T) (λi x v M A0=>?_)).mono ?_
 ·simp only[acj,aak]at M;obtain⟨d,A7,rfl⟩:=M;exact .d d v ((A5 i d v A7 A0).mono (λ_ _ _=>rfl) (aai _) (λb _ A=>AC b A))
 ·rintro e V ⟨φ',m',out,⟨rfl,rfl⟩,hm,A2,A1⟩;refine⟨?_,A2.os,A2.tape,A2.output,A2.size,λk AL=>A2.x8 k AL (λ⟨e,he,_⟩=>by simp[dr]at he)⟩;cases e with
  |returned v=>
   simp only[mP]at A1;cases A1 with
   |d x v h=>cases h;rfl
  |_=>exact A1.elim
section
variable {H:Type} {enc:TypeId×Value->H}
end
def zK(P:Program)(L:List TypeId):Bool:=L.all λt=>match P.underlying t with
 |some .bool|some (.int _)|some .string=>P.cellsOf t == 1
 |some (.slice e)=>P.cellsOf t == 1&&L.contains e&&decide (1<=P.cellsOf e)
 |some (.struct A)=>Az P (λt=>L.contains t) A.toList 0 (P.cellsOf t)
 |_=>false
theorem FW{P:Program}{L:List TypeId}{t:TypeId}(h:zK P L=true)(D:L.contains t=true):(match P.underlying t with
 |some .bool|some (.int _)|some .string=>P.cellsOf t == 1
 |some (.slice e)=>P.cellsOf t == 1&&L.contains e&&decide (1<=P.cellsOf e)
 |some (.struct A)=>Az P (λt=>L.contains t) A.toList 0 (P.cellsOf t)
 |_=>false)=true:=aaH.1 h t (by simpa using D)
section
variable {H:Type} {enc:TypeId×Value->H} {P:Program} {w:World} {base:Nat} {sp:Nat->Bool} {held:Bool}
end
section
variable {H:Type} {enc:TypeId×Value->H}
end
mutual
def hZ:D->Nat
 | .str s=>s.length+1
 | .list xs=>dP xs+1
 | .agg cs=>dP cs+1
 |_=>1
def dP:List D->Nat
 |[]=>0
 |x::r=>hZ x+dP r
end
mutual
def gJ{H:Type}:DataW H->Nat
 | .lit (.string bytes)=>bytes.length+1
 | .slice elems _=>fK elems+1
 | .agg parts=>fK parts+1
 |_=>1
def fK{H:Type}:List (DataW H)->Nat
 |[]=>0
 |d::r=>gJ d+fK r
end
theorem xl:∀l r:List D,dP (l++r)=dP l+dP r
 |[],r=>by simp[dP]
 |x::l,r=>by simp[dP,xl l r,aci]
theorem QX(x:D):dP x.cells<=hZ x:=by
 cases x<;>simp[D.cells,dP,hZ]
theorem afy(x:D):1<=hZ x:=by cases x<;>simp[hZ]
theorem nx:∀l:List D,l.length<=dP l
 |[]=>by simp
 |x::r=>by have:=nx r;have:=afy x;simp only[dP,ab1];omega
theorem IW:∀{l:List D}{x:D},x∈l->hZ x<=dP l
 |y::r,x,h=>by
  rcases aan.1 h with rfl|h
  ·simp only[dP];omega
  ·have:=IW h;simp only[dP];omega
theorem Nw{H:Type}:∀(l:List D)(M:List (DataW H)),l.length=M.length->(∀(i:Nat) x d,l[i]?=some x->M[i]?=some d->hZ x<=gJ d)->dP l<=fK M
 |[],[],_,_=>aai _
 |x::l,d::M,h,hi=>by
  have N:=hi 0 x d rfl rfl;have A0:=Nw l M (by simpa using h) (λi y e T he=>hi (i+1) y e (by simpa using T) (by simpa using he));simp only[dP,fK];omega
 |[],_::_,h,_=>by simp at h
 |_::_,[],h,_=>by simp at h
theorem xT{H:Type}{P:Program}{w:World}{F:Nat->Prop}{n:Nat}{cs:List Value}{ok:TypeId->Bool}:∀(A1:List Field)(ws:List (DataW H))(o:Nat),Az P ok A1 o cs.length=true->ws.length=A1.length->
 (∀(i:Nat) f e,A1[i]?=some f->ws[i]?=some e->ok f.type=true->∃d,typed P n f.type d/\Reads w F d ((cs.drop f.offset).take (P.cellsOf f.type))/\d.cells.length=P.cellsOf f.type/\hZ d<=gJ e)->
 ∃V:List D,V.length=A1.length/\(∀(i:Nat)(f:Field)(y:D),A1[i]?=some f->V[i]?=some y->typed P n f.type y)/\o<=cs.length/\Reads w F (.agg (V.flatMap D.cells)) (cs.drop o)/\dP (V.flatMap D.cells)<=fK ws
 |[],[],o,A,_,_=>by
  simp only[Az,beq_iff_eq]at A;subst A;exact⟨[],rfl,λi f y Z=>by simp at Z,aai _,⟨by simp[D.cells],by simp,λi c u N=>by simp[D.cells]at N⟩,by simp[dP,fK]⟩
 |f::r,e::ws,o,A,hw,Z=>by
  simp only[Az,Ds,beq_iff_eq]at A;obtain⟨⟨rfl,AF⟩,AG⟩:=A;obtain⟨V,N,A0,O,J,A2⟩:=xT r ws _ AG (by simpa using hw) (λi AH e' hi he=>Z (i+1) AH e' (by simpa using hi) (by simpa using he));obtain⟨d,Y,A5,A3,A8⟩:=Z 0 f e rfl rfl AF;refine⟨d::V,by simp[N],λi AH y hi T=>?_,by omega,?_,?_⟩
  ·cases i with
   |zero=>simp at hi T;subst hi;subst T;exact Y
   |succ i=>simp at hi T;exact A0 i AH y hi T
  ·have Ac:cs.drop f.offset=(cs.drop f.offset).take (P.cellsOf f.type)++cs.drop (f.offset+P.cellsOf f.type):=by
    rw[<-akG,akA]
   obtain⟨AT,a2,a3⟩:=A5;obtain⟨Ad,Ae,Af⟩:=J;have Ag:(D.agg ((d::V).flatMap D.cells)).cells=d.cells++(D.agg (V.flatMap D.cells)).cells:=by simp[D.cells]
   rw[Ac];unfold Reads;rw[Ag];refine⟨by simp only[ab0,AT,Ad],λu hu=>?_,λi c u A4 hu=>?_⟩
   ·rcases abT.1 hu with hu|hu
    ·exact a2 u hu
    ·exact Ae u hu
   ·by_cases hi:i<d.cells.length
    ·rw[aaq hi]at A4;rw[aaq (by omega)]at hu;exact a3 i c u A4 hu
    ·rw[aaF (by omega)]at A4;rw[aaF (by omega)]at hu;rw[<-AT]at hu;exact Af _ c u A4 hu
  ·have A4:=QX d;simp only[List.flatMap_cons,xl,fK];omega
 |[],_::_,_,_,h,_=>by simp at h
 |_::_,[],_,_,h,_=>by simp at h
section
variable {H:Type} {enc:TypeId×Value->H} {P:Program} {w:World} {base:Nat} {sp:Nat->Bool} {held:Bool}
theorem xn{L:List TypeId}(A':zK P L=true):∀(m:Nat)(t:TypeId)(cs:List Value)(x:DataW H×List MemPlace),L.contains t=true->DataW.trod enc P w base sp held m t cs=some x->
 ∃d,typed P (m+1) t d/\Reads w (λ_=>False) d cs/\d.cells.length=P.cellsOf t/\hZ d<=gJ x.1
 |m,t,cs,x,E,I=>by
  have E:=FW A' E;simp only[typed];cases A:P.underlying t with
  |none=>rw[A]at E;cases E
  |some u=>
   rw[A]at E;cases u with
   |bool=>
    obtain⟨b,rfl,rfl⟩:=DataW.trod_bool A I;exact⟨.bool b,⟨b,rfl⟩,Reads.one (.bool b) rfl rfl,by simp at E;simp[D.cells,E],by simp[hZ,gJ]⟩
   |int k=>
    obtain⟨z,rfl,rfl,hw⟩:=DataW.trod_int A I;exact⟨.int k z,⟨z,rfl,hw⟩,Reads.one (.int k z) rfl rfl,by simp at E;simp[D.cells,E],by simp[hZ,gJ]⟩
   |string=>
    obtain⟨s,rfl,rfl,hw⟩:=DataW.trod_string A I;exact⟨.str s.data.toList,⟨_,rfl,by simpa using hw⟩,Reads.one (.str s _ rfl) rfl rfl,by simp at E;simp[D.cells,E],by simp[hZ,gJ]⟩
   |slice e=>
    simp only[Ds,beq_iff_eq,aam]at E;obtain⟨⟨N,A0⟩,O⟩:=E;rcases DataW.trod_slice A I with ⟨rfl,rfl⟩|⟨a,len,cap,elems,rest,m',rfl,rfl,rfl,AI,Ah,B3,B4,AB,_⟩
    ·exact⟨.list [],⟨[],rfl,by simp,by simp⟩,Reads.one (.nil none 0 (λ_=>rfl)) rfl rfl,by simp[D.cells,N],by simp[hZ,dP,gJ]⟩
    ·have A6:∀i,∃p:D×Value,i<len->typed P (m'+1) e p.1/\aJ w (λ_=>False) p.1 p.2/\p.1.size=P.cellsOf e/\a.block<w.heap.size/\a.spot=none/\
      (∀j c,p.2.cells[j]?=some c->w.cell? ⟨a.block,a.off+i*P.cellsOf e+j,none⟩=some c)/\∀q,elems[i]?=some q->hZ p.1<=gJ q.1:=by
      intro i;by_cases hi:i<len
      ·have J:=AB i hi;have A2:∃y,elems[i]?=some y:=⟨elems[i]'(by omega),by simp[show i<elems.length by omega]⟩
       obtain⟨y,T⟩:=A2;rw[T]at J;simp only[aku]at J;obtain⟨AJ,Ai,Aj⟩:=J;obtain⟨d,Y,A5,A3,A8⟩:=xn A' m' e AJ y A0 Aj;obtain⟨g1,g2⟩:=Dw Ai;have g3:a.block<w.heap.size/\a.spot=none:=by
        have AK:∃i0,i0<len/\i0=0:=⟨0,by omega,rfl⟩;have AL:=AB 0 (by omega);have Ak:∃y,elems[0]?=some y:=⟨elems[0]'(by omega),by simp[show 0<elems.length by omega]⟩
        obtain⟨B5,Al⟩:=Ak;rw[Al]at AL;simp only[aku]at AL;obtain⟨AM,An,_⟩:=AL;obtain⟨B6,Ao⟩:=Dw An;have AC:=Ao 0 (by omega);have AD:∃c,AM[0]?=some c:=⟨AM[0]'(by omega),by simp[show 0<AM.length by omega]⟩
        obtain⟨c,A4⟩:=AD;rw[A4]at AC;have AE:=BZ AC;simpa [Addr.add]using AE
       refine⟨⟨d,shaped d AJ⟩,λ_=>⟨Y,A5.rel,by rw[<-D.fj];exact A3,g3.1,g3.2,λj c A9=>?_,λq A6=>by rw[T]at A6;cases A6;exact A8⟩⟩;have AC:=A5.IT;have AD:AJ[j]?=some c:=by rw[<-AC];simpa using A9
       have Ap:j<P.cellsOf e:=by
        have:=(aaf.1 AD).1;omega
       have AE:=g2 j Ap;obtain⟨AU,ao,AN⟩:=a;obtain rfl:AN=none:=g3.2;rw[add_add]at AE;rw[AE];exact AD
      ·exact⟨⟨.bool false,undef⟩,λh=>absurd h hi⟩
     obtain⟨f,Z⟩:=Classical.axiomOfChoice A6;refine⟨.list ((List.range len).map λi=>(f i).1),⟨_,rfl,by simp;omega,λx I=>?_⟩,Reads.one ?_ rfl rfl,by simp[D.cells,N],?_⟩
     ·simp only[acb,ab2]at I;obtain⟨i,hi,rfl⟩:=I;exact (Z i hi).1
     ·by_cases A3:len=0
      ·subst A3;exact .nil (some a) cap (λh=>by cases h)
      ·have AK:=Z 0 (by omega);obtain⟨AU,ao,AN⟩:=a;obtain rfl:AN=none:=AK.2.2.2.2.1;have AA:((List.range len).map λi=>(f i).1).length=len:=by simp
       have:=aJ.list (w:=w) (F:=λ_=>False) ((List.range len).map λi=>(f i).1) AU ao cap (P.cellsOf e) (λi=>(f i).2) (by rw[AA];exact Ah) AK.2.2.2.1 (λh=>h)
        (λd Y=>by
         simp only[acb,ab2]at Y;obtain⟨i,hi,rfl⟩:=Y;exact (Z i hi).2.2.1)
        (λi d Y=>by
         simp only[acj,aak]at Y;obtain⟨B7,Aq,rfl⟩:=Y;have:=aaf.1 Aq;obtain⟨AV,AW⟩:=this;simp at AV AW;subst AW;exact (Z _ AV).2.1)
        (λi j c hi A9=>by
         rw[AA]at hi;exact (Z i hi).2.2.2.2.2.1 j c A9)
       rw[AA]at this;exact this
     ·simp only[hZ,gJ];refine Nat.succ_le_succ (Nw _ _ (by simp;omega) λi x d I Y=>?_);simp only[acj,aak]at I Y;obtain⟨j,A9,rfl⟩:=I;obtain⟨q,A6,rfl⟩:=Y;obtain⟨AX,AY⟩:=aaf.1 A9;simp at AX AY;subst AY;exact (Z i AX).2.2.2.2.2.2 q A6
   |struct A1=>
    obtain⟨xs,m',rfl,rfl,A3,Ar,AB⟩:=DataW.trod_struct A I;simp only at E;rw[<-A3]at E;obtain⟨V,N,A0,_,J,A2⟩:=xT (n:=m'+1) (w:=w) (F:=λ_=>False) A1.toList (xs.map (·.1)) 0 E (by simpa using Ar) (λi f e hi he AF=>by
     simp only[acj,aak]at he;obtain⟨y,T,rfl⟩:=he;have A2:=AB i f (by simpa using hi);rw[T]at A2;exact xn A' m' f.type _ y AF A2)
    refine⟨.agg (V.flatMap D.cells),⟨V,rfl,by simpa using N,λi f y hi T=>A0 i f y (by simpa using hi) T⟩,by simpa using J,?_,?_⟩
    ·have:=J.1;rw[this];simpa using A3
    ·simp only[hZ,gJ];omega
   |_=>cases E
theorem WT{L:List TypeId}(A':zK P L=true){t:TypeId}{v:Value}{d:DataW H}{ps:List MemPlace}{b0:Nat}(E:L.contains t=true)(U:Value.okWide P w .any b0 t v)(h:DataW.Trod enc P w base sp held t v d ps):
 ∃n x,typed P n t x/\aJ w (λ_=>False) x v/\hZ x<=gJ d:=by
 obtain⟨m,hm⟩:=h;obtain⟨x,I,A5,_,A8⟩:=xn A' m t _ _ E hm;refine⟨m+1,x,I,?_,A8⟩;have N:=A5.rel
 ·have E:=FW A' E;simp only[typed]at I;cases A:P.underlying t with
  |none=>rw[A]at E;cases E
  |some u=>
   rw[A]at E I;cases u with
   |bool=>obtain⟨b,rfl⟩:=okWide_bool A U;obtain⟨y,rfl⟩:=I;exact N
   |int k=>obtain⟨b,rfl⟩:=okWide_int A U;obtain⟨y,rfl,_⟩:=I;exact N
   |string=>obtain⟨b,rfl⟩:=okWide_string A U;obtain⟨y,rfl,_⟩:=I;exact N
   |slice e=>obtain⟨a,len,cap,rfl⟩:=okWide_slice A U;obtain⟨y,rfl,_⟩:=I;exact N
   |struct A1=>
    simp only[Value.okWide,A]at U;obtain⟨cs,rfl,_⟩:=U;obtain⟨V,rfl,_⟩:=I;simpa [shaped,Value.cells]using N
   |_=>cases E
theorem FX{L:List TypeId}(A':zK P L=true){b0:Nat}:∀{A7:List TypeId}{vs:List Value}{M:List (DataW H)}{ps:List MemPlace},DataW.TrodAll enc P w base sp held A7 vs M ps->(∀t∈A7,L.contains t=true)->
 (∀(j:Nat) t v,A7[j]?=some t->vs[j]?=some v->Value.okWide P w .any b0 t v)->
 ∃xs:List D,xs.length=vs.length/\xs.length=A7.length/\(∀(i:Nat) t x,A7[i]?=some t->xs[i]?=some x->∃n,typed P n t x)/\(∀(i:Nat) x v,xs[i]?=some x->vs[i]?=some v->aJ w (λ_=>False) x v)/\dP xs<=fK M
 |[],[],[],_,_,_,_=>⟨[],rfl,rfl,λi t x h=>by simp at h,λi x v h=>by simp at h,by simp[dP,fK]⟩
 |t::A7,v::vs,d::M,ps,h,E,U=>by
  obtain⟨p,q,N,A0,_⟩:=h;obtain⟨n,x,I,AG,A8⟩:=WT A' (E t (by simp)) (U 0 t v rfl rfl) N;obtain⟨xs,g1,g2,g3,g4,g5⟩:=FX A' A0 (λt A=>E t (by simp[A])) (λj t v O J=>U (j+1) t v (by simpa using O) (by simpa using J));refine⟨x::xs,by simp[g1],by simp[g2],λi As AO O J=>?_,λi AO At O J=>?_,by simp only[dP,fK];omega⟩
  ·cases i with
   |zero=>simp at O J;subst O;subst J;exact⟨n,I⟩
   |succ i=>simp at O J;exact g3 i As AO O J
  ·cases i with
   |zero=>simp at O J;subst O;subst J;exact AG
   |succ i=>simp at O J;exact g4 i AO At O J
 |[],_::_,_,_,h,_,_=>by cases h
 |[],[],_::_,_,h,_,_=>by cases h
 |_::_,[],_,_,h,_,_=>by cases h
 |_::_,_::_,[],_,h,_,_=>by cases h
end
section
variable {H:Type} {enc:TypeId×Value->H}
theorem Gn{X:Ctx}(Au:jo X){f:FuncId}{fn:Func}{s:ChangeSpec}{apart fresh handsOn:Bool}{L:List TypeId}{tb:TypeId}(A':zK X.P L=true)
 (Av:laidOutB X.P=true) (AP:(fn.params.toList.all λt=>X.P.readableRec t&&decide (t<X.P.types.size)&&L.contains t)=true)
 (Aw:fn.resultTypes=#[tb]) (Ax:X.P.underlying tb=some .bool) (AZ:s.vars=[])
 (Ay:∀M:List (DataW H),M.length=fn.params.size->s.fn H M={results:=[.lit (.bool true)],args:=M})
 {W:World} {base:Nat} {args:Array Value} {M gs:List (DataW H)} {before:List MemPlace}
 (B':∀(j:Nat) t v,fn.params[j]?=some t->args[j]?=some v->Value.okWide X.P W .any base t v)
 (A_:DataW.Whole enc X.P fn.params.toList s.vars apart W args.toList M gs before) (B0:eh W (λ_=>False) X.gl)
 (B1:∀xs:List D,xs.length=fn.params.size->(∀(i:Nat) t x,fn.params[i]?=some t->xs[i]?=some x->∃n,typed X.P n t x)->dP xs<=fK M->ah X f (xs.map .d) []=some (.ret (.d (.bool true)),[])):
 Calls X.P f args W λe Aa=>∃v,e=.returned v/\s.post enc X.P fn apart fresh handsOn false W args v Aa:=by
 have Ab:=A_;obtain⟨p,q,AQ,AR,rfl,B8,B9⟩:=A_;rw[AZ]at AR;obtain⟨rfl,rfl⟩:gs=[]/\q=[]:=by
  cases gs with
  |nil=>exact⟨rfl,AR⟩
  |cons g r=>exact absurd AR (by intro h;cases h)
 simp only[aaH,Ds,aam]at AP;obtain⟨xs,N,A0,O,J,A2⟩:=FX A' (b0:=base) AQ (λt A=>(AP t A).2) (λj t v A U=>B' j t v (by simpa using A) (by simpa using U));have AA:=trodAll_length AQ;refine (Ur Au (B1 xs (by simpa using A0) (λi t x A I=>O i t x (by simpa using A) I) A2) (by simpa using N) (λi x v I U=>J i x v I (by simpa using U)) B0).mono ?_;rintro e Aa ⟨rfl,AI⟩;have B2:∀x∈p,x.block<W.heap.size:=λx I=>by simpa using Ab.lt x (by simpa using I)
 have AS:s.fn H (M++[])={results:=[.lit (.bool true)],args:=M}:=by
  rw[afl];exact Ay M (by simpa using AA.2)
 refine⟨_,rfl,M,[],p++[],[],p,[],Ab,?_,?_,?_,AI.frame _,λh=>by cases h⟩
 ·rw[AS,Aw];exact trodAll_mk1 (shut_bool Ax true)
 ·rw[AS];exact xS Av AI AQ (λt A=>(AP t A).1) B2
 ·rw[AS,AZ];rfl
end
end Go.Am
end
section
namespace Go.Am
open Go
theorem IY(l:List Ex):(sW l).length=l.length:=by rw[rX];simp
theorem Us(x:Ex):hZ (du x)=dP (Ix x)+1:=by rw[GB];rfl
mutual
theorem IZ:∀x:Ex,hZ (du x)<100000000->vG x
 | .mk op n name field sub line,h=>by
  simp only[du,hZ,dP]at h;have A:=nx (sW sub);rw[IY]at A;simp only[vG];exact⟨⟨by omega,by omega,by omega⟩,EG sub (by omega)⟩
theorem EG:∀l:List Ex,dP (sW l)<100000000->oz l
 |[],_=>by simp only[oz]
 |x::r,h=>by
  simp only[sW,dP]at h;simp only[oz];exact⟨IZ x (by omega),EG r (by omega)⟩
end
theorem B0{α:Type}(f:α->D)(l:List α):l.length<=dP (l.map f):=by
 have:=nx (l.map f);simpa using this
theorem ajJ(l:List Int):l.length<=hZ (hM l):=by
 have:=B0 (λn=>D.int .i64 n) l;simp only[hM,hZ];omega
theorem WU(l:List (List Sm)):(wZ l).length=l.length:=by rw[At];simp
theorem I0(l:List Sm):(uP l).length=l.length:=by rw[As];simp
mutual
theorem afB:∀x:Sm,hZ (cw x)<100000000->Bb x/\Ns x<=hZ (cw x)
 | .mk op name to val I M fields J line,h=>by
  simp only[cw,hZ,dP,xl]at h⊢;have U:=Us to;have V:=Us val;have A:=nx (sW I);rw[IY]at A;have Y:=B0 hM M;have Z:=B0 D.str fields;have N:=nx (wZ J);rw[WU]at N;have O:=Nx J (by omega);simp only[Bb,Ns];refine⟨⟨⟨IZ to (by omega),IZ val (by omega),⟨by omega,EG I (by omega)⟩,⟨by omega,λl T=>?_⟩,by omega,by omega⟩,O.1⟩,by omega⟩;have q:=IW (abY (f:=hM) T);have y:=ajJ l;omega
theorem EH:∀l:List Sm,dP (uP l)<100000000->ke l/\qQ l<=dP (uP l)
 |[],_=>by simp only[ke,qQ];exact⟨trivial,alp _⟩
 |x::r,h=>by
  simp only[uP,dP]at h⊢;have E:=afB x (by omega);have A:=EH r (by omega);simp only[ke,qQ];exact⟨⟨E.1,A.1⟩,by omega⟩
theorem Nx:∀l:List (List Sm),dP (wZ l)<100000000->nw l/\uR l<=dP (wZ l)
 |[],_=>by simp only[nw,uR];exact⟨trivial,alp _⟩
 |b::r,h=>by
  simp only[wZ,dP,hZ]at h⊢;have H:=nx (uP b);rw[I0]at H;have E:=EH b (by omega);have A:=Nx r (by omega);simp only[nw,uR];exact⟨⟨⟨by omega,E.1⟩,A.1⟩,by omega⟩
end
theorem xo{p:Pg}(h:hZ (.agg [.str p.name,.list (p.vars.map bn),.list (p.body.map cw)])<50000000):p.body.length<100000000/\ke p.body/\qQ p.body<50000000:=by
 simp only[hZ,dP]at h;rw[<-As]at h;have H:=nx (uP p.body);rw[I0]at H;have E:=EH p.body (by omega);exact⟨by omega,E.1,by omega⟩
mutual
def mH:Ex->Bool
 | .mk _ n _ _ sub _=>decide (-9223372036854775808<=n/\n<=9223372036854775807)&&mh sub
def mh:List Ex->Bool
 |[]=>true
 |x::r=>mH x&&mh r
end
def xp(n:Int):Bool:=decide (-9223372036854775808<=n/\n<=9223372036854775807)
mutual
def mI:Sm->Bool
 | .mk _ _ to val A D _ E _=>mH to&&(mH val&&(mh A&&(D.all (λl=>l.all xp)&&uc E)))
def iT:List Sm->Bool
 |[]=>true
 |x::r=>mI x&&iT r
def uc:List (List Sm)->Bool
 |[]=>true
 |b::r=>iT b&&uc r
end
end Go.Am
end
section
namespace Go.Am
open Go Go.Proofs
variable [Inhabited bA]
set_option maxRecDepth 20000
theorem qF{P:Program}{n:Nat}{t:TypeId}{d:D}(h:typed P n t d):∃m,n=m+1:=by
 cases n with
 |zero=>exact h.elim
 |succ m=>exact⟨m,rfl⟩
theorem ju{P:Program}{n:Nat}{t:TypeId}{d:D}(I:P.underlying t=some (.int .i64))(h:typed P n t d):∃z,d=.int .i64 z/\xp z=true:=by
 obtain⟨m,rfl⟩:=qF h;obtain⟨z,rfl,hw⟩:=Uq I h;refine⟨z,rfl,?_⟩;have H:aG z:=by
  simp[Lit.wf]at hw;unfold aG;have A8:IntKind.i64.min= -9223372036854775808:=by decide
  have A9:IntKind.i64.max=9223372036854775807:=by decide
  simp only[A8,A9]at hw;omega
 unfold aG at H;unfold xp;simp only[aam];exact H
theorem abb{P:Program}{n:Nat}{t:TypeId}{d:D}(I:P.underlying t=some .bool)(h:typed P n t d):∃b,d=.bool b:=by
 obtain⟨m,rfl⟩:=qF h;exact QW I h
theorem nM{P:Program}{n:Nat}{t:TypeId}{d:D}(I:P.underlying t=some .string)(h:typed P n t d):∃s,d=.str s:=by
 obtain⟨m,rfl⟩:=qF h;obtain⟨s,rfl,_⟩:=IU I h;exact⟨s,rfl⟩
theorem kJ{P:Program}{n:Nat}{t e:TypeId}{d:D}(I:P.underlying t=some (.slice e))(h:typed P n t d):∃xs m,m<n/\d=.list xs/\∀x∈xs,typed P m e x:=by
 obtain⟨m,rfl⟩:=qF h;obtain⟨xs,rfl,_,A⟩:=Kn I h;exact⟨xs,m,by omega,rfl,A⟩
theorem ud{P:Program}{n:Nat}{t:TypeId}{d:D}{A3:Array Field}(I:P.underlying t=some (.struct A3))(h:typed P n t d):∃J m,m<n/\d=.agg J/\AA P m A3.toList J:=by
 obtain⟨m,rfl⟩:=qF h;obtain⟨J,rfl,AB⟩:=IV I h;exact⟨J,m,by omega,rfl,AB⟩
theorem gP{α:Type}{f:α->D}{Q:α->Prop}:∀{xs:List D},(∀x∈xs,∃r,x=f r/\Q r)->∃rs:List α,xs=rs.map f/\∀r∈rs,Q r
 |[],_=>⟨[],rfl,λr h=>by cases h⟩
 |x::xs,h=>by
  obtain⟨r,rfl,AC⟩:=h x (by simp);obtain⟨rs,rfl,AD⟩:=gP (xs:=xs) (λy E=>h y (by simp[E]));exact⟨r::rs,rfl,λy E=>by
   rcases aan.1 E with rfl|E
   ·exact AC
   ·exact AD y E⟩
theorem B1:∀{l:List Ex},(∀x∈l,mH x=true)->mh l=true
 |[],_=>by simp[mh]
 |x::r,h=>by simp only[mh,Ds];exact⟨h x (by simp),B1 λy E=>h y (by simp[E])⟩
theorem B2:∀{l:List Sm},(∀x∈l,mI x=true)->iT l=true
 |[],_=>by simp[iT]
 |x::r,h=>by simp only[iT,Ds];exact⟨h x (by simp),B2 λy E=>h y (by simp[E])⟩
theorem I1:∀{l:List (List Sm)},(∀x∈l,iT x=true)->uc l=true
 |[],_=>by simp[uc]
 |x::r,h=>by simp only[uc,Ds];exact⟨h x (by simp),I1 λy E=>h y (by simp[E])⟩
theorem B3:∀(n:Nat)(x:D),typed Tryz.prog n 114 x->∃e:Ex,x=du e/\mH e=true:=by
 intro n;induction n using Nat.strongRecOn with
 |ind n ih=>
 intro x h;obtain⟨J,m,hm,rfl,Z,d0,M,⟨A',d1,N,⟨A0,d2,H,⟨A4,d3,O,⟨A5,d4,T,⟨A6,d5,U,rfl,rfl⟩,rfl⟩,rfl⟩,rfl⟩,rfl⟩,rfl⟩:=ud Tryz.underlying114 h;obtain⟨op,rfl,_⟩:=ju Tryz.underlying3 M;obtain⟨k,rfl,AE⟩:=ju Tryz.underlying2 N;obtain⟨name,rfl⟩:=nM Tryz.underlying9 H;obtain⟨field,rfl⟩:=nM Tryz.underlying9 O;obtain⟨xs,q,A7,rfl,V⟩:=kJ Tryz.underlying112 T;obtain⟨line,rfl,_⟩:=ju Tryz.underlying3 U;obtain⟨l,rfl,Y⟩:=gP (f:=du) (Q:=λe=>mH e=true) (λx A=>ih q (by omega) x (V x A));exact⟨.mk op k name field l line,by rw[GB];simp[Ix,rX,D.cells],by
  simp only[mH,Ds];exact⟨AE,B1 Y⟩⟩
theorem Dy{n:Nat}{x:D}(h:typed Tryz.prog n 26 x):∃l:List Int,x=hM l/\l.all xp=true:=by
 obtain⟨xs,q,A7,rfl,V⟩:=kJ Tryz.underlying26 h;obtain⟨l,rfl,Y⟩:=gP (f:=λn=>D.int .i64 n) (Q:=λe=>xp e=true) (λx A=>ju Tryz.underlying2 (V x A));exact⟨l,rfl,aaH.2 Y⟩
theorem WV:∀(n:Nat)(x:D),typed Tryz.prog n 119 x->∃e:Sm,x=cw e/\mI e=true:=by
 intro n;induction n using Nat.strongRecOn with
 |ind n ih=>
 intro x h;obtain⟨J,m,hm,rfl,Z,d0,M,⟨A',d1,N,⟨A0,d2,H,⟨A4,d3,O,⟨A5,d4,T,⟨A6,d5,U,⟨AF,d6,A1,⟨AG,d7,A2,⟨AX,d8,AH,rfl,rfl⟩,rfl⟩,rfl⟩,rfl⟩,rfl⟩,rfl⟩,rfl⟩,rfl⟩,rfl⟩:=ud Tryz.underlying119 h;obtain⟨op,rfl,_⟩:=ju Tryz.underlying3 M;obtain⟨name,rfl⟩:=nM Tryz.underlying9 N;obtain⟨to,rfl,AI⟩:=B3 _ _ H;obtain⟨val,rfl,AJ⟩:=B3 _ _ O;obtain⟨AY,AZ,A_,rfl,AK⟩:=kJ Tryz.underlying112 T;obtain⟨Aa,Ab,Ac,rfl,AL⟩:=kJ Tryz.underlying115 U;obtain⟨Ad,Ae,Af,rfl,AM⟩:=kJ Tryz.underlying116 A1;obtain⟨Ag,Ah,Ai,rfl,AN⟩:=kJ Tryz.underlying117 A2;obtain⟨line,rfl,_⟩:=ju Tryz.underlying3 AH;obtain⟨AO,rfl,AP⟩:=gP (f:=du) (Q:=λe=>mH e=true) (λx A=>B3 _ _ (AK x A));obtain⟨AQ,rfl,AR⟩:=gP (f:=hM) (Q:=λl=>l.all xp=true) (λx A=>Dy (AL x A));obtain⟨fields,rfl⟩:=uS (f:=D.str) (λx A=>nM Tryz.underlying9 (AM x A));obtain⟨AS,rfl,AT⟩:=gP (f:=λb:List Sm=>D.list (b.map cw)) (Q:=λb=>iT b=true) (λx A=>by
  obtain⟨xs,q,A7,rfl,V⟩:=kJ Tryz.underlying23 (AN x A);obtain⟨l,rfl,Y⟩:=gP (f:=cw) (Q:=λe=>mI e=true) (λx A=>ih q (by omega) x (V x A));exact⟨l,rfl,B2 Y⟩)
 refine⟨.mk op name to val AO AQ fields AS line,?_,?_⟩
 ·simp[cw,rX,At,D.cells,GB]
 ·simp only[mI,Ds];exact⟨AI,AJ,B1 AP,aaH.2 AR,I1 AT⟩
theorem WW{n:Nat}{x:D}(h:typed Tryz.prog n 64 x):∃v:Vr,x=bn v:=by
 obtain⟨J,m,hm,rfl,Z,d0,M,⟨A',d1,N,⟨A0,d2,H,⟨A4,d3,O,⟨A5,d4,T,⟨A6,d5,U,⟨AF,d6,A1,⟨AG,d7,A2,rfl,rfl⟩,rfl⟩,rfl⟩,rfl⟩,rfl⟩,rfl⟩,rfl⟩,rfl⟩:=ud Tryz.underlying64 h;obtain⟨name,rfl⟩:=nM Tryz.underlying9 M;obtain⟨ty,rfl,_⟩:=ju Tryz.underlying3 N;obtain⟨sec,rfl,_⟩:=ju Tryz.underlying3 H;obtain⟨arr,rfl⟩:=abb Tryz.underlying4 O;obtain⟨lo,rfl,_⟩:=ju Tryz.underlying2 T;obtain⟨hi,rfl,_⟩:=ju Tryz.underlying2 U;obtain⟨init,rfl,_⟩:=ju Tryz.underlying2 A1;obtain⟨line,rfl,_⟩:=ju Tryz.underlying3 A2;exact⟨⟨name,ty,sec,arr,lo,hi,init,line⟩,rfl⟩
theorem WX{n:Nat}{x:D}(h:typed Tryz.prog n 25 x):∃p:Pg,x=.agg [.str p.name,.list (p.vars.map bn),.list (p.body.map cw)]/\iT p.body=true:=by
 obtain⟨J,m,hm,rfl,Z,d0,M,⟨A',d1,N,⟨A0,d2,H,rfl,rfl⟩,rfl⟩,rfl⟩:=ud Tryz.underlying25 h;obtain⟨name,rfl⟩:=nM Tryz.underlying9 M;obtain⟨Aj,q1,Ak,rfl,AU⟩:=kJ Tryz.underlying22 N;obtain⟨Al,q2,An,rfl,AV⟩:=kJ Tryz.underlying23 H;obtain⟨vars,rfl⟩:=uS (f:=bn) (λx A=>WW (AU x A));obtain⟨body,rfl,AW⟩:=gP (f:=cw) (Q:=λe=>mI e=true) (λx A=>WV _ _ (AV x A));exact⟨⟨name,vars,body⟩,rfl,B2 AW⟩
end Go.Am
end
section
namespace Go.Am
open Go
def vr0:Vr:=⟨[],0,0,false,0,0,0,0⟩
def Dz:List Vr->Tx->Int->Int×Vr
 |[],_,_=>(0,vr0)
 |v::r,s,n=>if v.name=s then (n,v)else Dz r s (n+b5 v)
def dw(vs:List Vr)(s:Tx):Int×Vr:=Dz vs s 0
def dX:List Vr->Int
 |[]=>0
 |v::r=>b5 v+dX r
def B4:List Pn->Tx->Nat->Option (Nat×Pn)
 |[],_,_=>none
 |p::r,s,i=>if p.name=s then some (i,p)else B4 r s (i+1)
def afD:Pn:=⟨[],0,false⟩
def kK(vs:List Vr)(s f:Tx):Int×Pn:=
 if (bu vs s).isSome=true/\2<(dw vs s).2.ty/\f≠[]then
  (match B4 (br (dw vs s).2.ty) f 0 with
   |some (i,p)=>((dw vs s).1+i,p)
   |none=>(0,afD))
 else (0,afD)
def oB(k:Nat)(x:aU):aU:=if (x.op=9\/x.op=10)/\0<=x.a then {x with a:=x.a+k} else x
def oW(k:Nat)(l:List aU):List aU:=l.map (oB k)
def jn(a b:List aU):List aU:=a++oW a.length b
def Ny(to:Int)(x:aU):aU:=if x.op=9/\x.a= -1 then {x with a:=to} else x
def rtI(to:Int)(x:aU):aU:=if x.op=9/\x.a= -2 then {x with a:=to} else x
def ins(op a b n m:Int):aU:=⟨op,a,b,n,m⟩
def lB:List (List aU)->List (List aU)->List aU
 |_,[]=>[]
 |[],b::r=>if r=[]then b else jn (b++[ins 9 (b.length+1+(lB [] r).length) 0 0 0]) (lB [] r)
 |t::A,b::r=>
  let out:=lB A r
  let part:=if r=[]then b else b++[ins 9 (b.length+1+out.length) 0 0 0]
  jn (t++[ins 10 (t.length+1+part.length) 0 0 0]++oW (t.length+1) part) out
def EI(l:List aU):List aU:=l.map (Ny l.length)
@[simp] theorem asI(k:Nat)(l:List aU):(oW k l).length=l.length:=by simp[oW]
@[simp] theorem aqB(l:List aU):(EI l).length=l.length:=by simp[EI]
theorem Ut(a b:List aU):(jn a b).length=a.length+b.length:=by simp[jn]
theorem I2(k:Nat)(x:aU):(oB k x).op=x.op:=by unfold oB;split<;>rfl
def afE(op:Int):Prop:=op=6\/(8<=op/\op<=12)\/(15<=op/\op<=18)
instance (op:Int):Decidable (afE op):=inferInstanceAs (Decidable (_\/_))
theorem Nz{op n:Int}{name field:Tx}{sub:List Ex}{line:Int}(h:dJ (.mk op n name field sub line)=true):sub.length=gI op/\cS sub=true:=by
 simp only[dJ,Ds,aam]at h;exact⟨h.2.1,h.2.2.2.2⟩
theorem abc{vs:List Vr}{op n:Int}{name field:Tx}{sub:List Ex}{line:Int}(M:dJ (.mk op n name field sub line)=true)(he:(aR vs (.mk op n name field sub line)).e=0):∀y∈sub,(aR vs y).e=0:=by
 obtain⟨D,_⟩:=Nz M;intro y A;unfold aR at he;by_cases I:op=1\/op=2
 ·have E:sub=[]:=acp (by rw[D];unfold gI;rcases I with h|h<;>subst h<;>decide);subst E;simp at A
 ·rw[aah I]at he;by_cases J:op=3\/op=4\/op=5
  ·rw[aap J]at he;by_cases N:op=4
   ·subst N;obtain⟨z,rfl⟩:∃z,sub=[z]:=by
     match sub,D with
     |[z],_=>exact⟨z,rfl⟩
     |[],h=>simp[gI]at h
     |_::_::_,h=>simp[gI]at h
    simp at A;subst A;split at he
    ·simp[cF]at he
    ·rw[aah (by decide)]at he;split at he
     ·simp[cF]at he
     ·rw[aap rfl]at he;simp only[K7]at he;by_cases H:(aR vs y).e=0
      ·exact H
      ·rw[aap H]at he;exact absurd he H
   ·have E:sub=[]:=acp (by rw[D];unfold gI;rw[aah (by omega),aah (by omega)]);subst E;simp at A
  ·rw[aah J]at he;match sub,A,he,D with
   |[a],A,he,_=>
    simp at A;subst A;exact (rY he).1
   |[a,b],A,he,_=>
    simp at A;rcases A with rfl|rfl
    ·exact (rY he).1
    ·exact (rY he).2.1
   |a::b::c::d,A,he,D=>
    exfalso;simp only[gI]at D;split at D
    ·simp at D
    ·split at D<;>simp at D
theorem abd{op n:Int}{name field:Tx}{sub:List Ex}{line:Int}(h:mH (.mk op n name field sub line)=true):(-9223372036854775808<=n/\n<=9223372036854775807)/\mh sub=true:=by
 simp only[mH,Ds,aam]at h;exact h
section
variable {vs:List Vr}
end
theorem ee{a b:EL}:(eS a b).1=0↔a.1=0/\b.1=0:=by
 unfold eS;by_cases h:a.1=0
 ·rw[aah (λA=>A h)];simp[h]
 ·rw[aap h];simp[h]
section
variable {vs:List Vr}
end
inductive MC(vs:List Vr)(lp:Bool):Sm->Prop
 |asg {to val:Ex} {line:Int} {v:Vr} (A:cB to=3\/cB to=4) (N:bu vs (ec to)=some v) (V:¬v.sec=1) (ft:dJ to=true) (AF:(aR vs to).e=0) (A2:dJ val=true) (AG:(aR vs val).e=0) (h:(aR vs val).t=(aR vs to).t):MC vs lp (.mk 1 [] to val [] [] [] [] line)
 |cnd {to val:Ex} {O:List Ex} {T:List (List Sm)} {line:Int} (A:fw to=true) (D:fw val=true) (A5:cS O=true) (M:1<=O.length) (H:O.length<=T.length) (E:T.length<=O.length+1) (A0:dL T=true) (h:(fJ vs lp O T).1=0):MC vs lp (.mk 2 [] to val O [] [] T line)
 |cas {to val:Ex} {A':List (List Int)} {T:List (List Sm)} {line:Int} (A:fw to=true) (A2:dJ val=true) (A4:(dy vs val 1).1=0) (H:A'.length<=T.length) (E:T.length<=A'.length+1) (AH:A'.all zG=true) (A0:dL T=true) (h:(fJ vs lp [] T).1=0):MC vs lp (.mk 3 [] to val [] A' [] T line)
 |cnt {name:Tx} {to val x y z:Ex} {b:List Sm} {line:Int} {v:Vr} (A6:cL name=true) (A:fw to=true) (D:fw val=true) (N:bu vs name=some v) (V:¬v.sec=1) (Z:v.arr=false) (A1:v.ty=1) (AI:dJ x=true) (AJ:(dy vs x 1).1=0) (AK:dJ y=true) (AL:(dy vs y 1).1=0) (AM:dJ z=true) (AN:(dy vs z 1).1=0) (A0:ej b=true) (h:(dW vs true b).1=0):MC vs lp (.mk 4 name to val [x,y,z] [] [] [b] line)
 |whl {to val:Ex} {b:List Sm} {line:Int} (A:fw to=true) (A2:dJ val=true) (A4:(dy vs val 2).1=0) (A0:ej b=true) (h:(dW vs true b).1=0):MC vs lp (.mk 5 [] to val [] [] [] [b] line)
 |rep {to val:Ex} {b:List Sm} {line:Int} (A:fw to=true) (A2:dJ val=true) (A4:(dy vs val 2).1=0) (A0:ej b=true) (h:(dW vs true b).1=0):MC vs lp (.mk 6 [] to val [] [] [] [b] line)
 |ext {to val:Ex} {line:Int} (A:fw to=true) (D:fw val=true) (h:lp=true):MC vs lp (.mk 7 [] to val [] [] [] [] line)
 |ret {to val:Ex} {line:Int} (A:fw to=true) (D:fw val=true):MC vs lp (.mk 8 [] to val [] [] [] [] line)
 |cal {name:Tx} {to val:Ex} {O:List Ex} {fields:List Tx} {line:Int} {v:Vr} (A6:cL name=true) (A:fw to=true) (D:fw val=true) (N:bu vs name=some v) (A1:2<v.ty) (A5:cS O=true) (AO:O.length=fields.length) (A3:fields.all cL=true) (h:(jt vs v.ty line fields O []).1=0):MC vs lp (.mk 9 name to val O [] fields [] line)
theorem WY{α:Type}{l:List α}(h:l.length=0):l=[]:=acp h
theorem I3{α:Type}{l:List α}(h:l.length=1):∃a,l=[a]:=by
 match l,h with
 |[a],_=>exact⟨a,rfl⟩
theorem aqC{α:Type}{l:List α}(h:l.length=3):∃a b c,l=[a,b,c]:=by
 match l,h with
 |[a,b,c],_=>exact⟨a,b,c,rfl⟩
theorem QZ{vs:List Vr}{b:List Sm}(h:(s8 vs [b]).1=0):(dW vs true b).1=0:=by simpa [s8]using h
theorem NA{vs:List Vr}{lp:Bool}{x:Sm}(A3:nu x=true)(h:(zH vs lp x).1=0):MC vs lp x:=by
 obtain⟨op,name,to,val,O,A',fields,T,line⟩:=x;simp only[nu,Ds]at A3;obtain⟨A7,I,A,D,q,J,A8,A9,Y⟩:=A3;simp only[aam]at A7;unfold zH at h;have AA:op=1\/op=2\/op=3\/op=4\/op=5\/op=6\/op=7\/op=8\/op=9:=by omega
 rcases AA with rfl|rfl|rfl|rfl|rfl|rfl|rfl|rfl|rfl
 ·simp[gO]at I A D J h;obtain⟨rfl,rfl,rfl,rfl⟩:=J;subst I;unfold asE at h;cases N:bu vs (ec to)with
  |none=>rw[N]at h;simp at h
  |some v=>
   rw[N]at h;simp only at h;by_cases V:v.sec=1
   ·simp[V]at h
   ·rw[aah V]at h;obtain⟨M,H⟩:=ee.1 h;obtain⟨H,E⟩:=ee.1 H;refine .asg A.1 N V A.2 M D.2 H ?_;apply Classical.byContradiction;intro hh;rw[aap hh]at E;simp at E
 ·simp[gO]at I A D J h;obtain⟨M,H,E,U,AB⟩:=J;subst I H E;exact .cnd A D q (by omega) (by omega) (by omega) Y h
 ·simp[gO]at I A D J h;obtain⟨M,E,U,AB⟩:=J;subst I M E;obtain⟨g1,g2⟩:=ee.1 h;exact .cas A D.2 g1 (by omega) (by omega) A9 Y g2
 ·simp[gO]at I A D J h;obtain⟨M,H,E,U⟩:=J;obtain⟨x,y,z,rfl⟩:=aqC M;obtain⟨b,rfl⟩:=I3 U;subst H E;cases N:bu vs name with
  |none=>rw[N]at h;simp at h
  |some v=>
   rw[N]at h;simp only at h;by_cases V:v.sec=1
   ·simp[V]at h
   ·rw[aah V]at h;by_cases Z:v.arr=true\/¬v.ty=1
    ·rw[aap Z]at h;simp at h
    ·rw[aah Z]at h;simp only[akD,Bool.not_eq_true,Classical.not_not]at Z;obtain⟨g1,g2⟩:=ee.1 h;simp only[lX]at g1;obtain⟨AC,g1⟩:=ee.1 g1;obtain⟨AD,g1⟩:=ee.1 g1;obtain⟨AE,g1⟩:=ee.1 g1;simp only[cS,Ds]at q;simp only[dL,Ds]at Y;exact .cnt I A D N V Z.1 Z.2 q.1 AC q.2.1 AD q.2.2.1 AE Y.1 (QZ g2)
 ·simp[gO]at I A D J h;obtain⟨M,H,E,U⟩:=J;obtain⟨b,rfl⟩:=I3 U;subst I M H E;obtain⟨g1,g2⟩:=ee.1 h;simp only[dL,Ds]at Y;exact .whl A D.2 g1 Y.1 (QZ g2)
 ·simp[gO]at I A D J h;obtain⟨M,H,E,U⟩:=J;obtain⟨b,rfl⟩:=I3 U;subst I M H E;obtain⟨g1,g2⟩:=ee.1 h;simp only[dL,Ds]at Y;exact .rep A D.2 g2 Y.1 (QZ g1)
 ·simp[gO]at I A D J h;obtain⟨M,H,E,U⟩:=J;subst I M H E U;refine .ext A D ?_;cases lp with
  |true=>rfl
  |false=>simp at h
 ·simp[gO]at I A D J h;obtain⟨M,H,E,U⟩:=J;subst I M H E U;exact .ret A D
 ·simp[gO]at I A D J h;obtain⟨M,H,E⟩:=J;subst H E;cases N:bu vs name with
  |none=>rw[N]at h;simp at h
  |some v=>
   rw[N]at h;simp only at h;by_cases A1:v.ty<=2
   ·rw[aap A1]at h;simp at h
   ·rw[aah A1]at h;exact .cal I A D N (by omega) q M (aaH.2 (by simpa using A8)) h
end Go.Am
end
section
namespace Go.Am
def Bd(succ:Nat->List Nat):Nat->Nat->Prop
 |0,i=>succ i=[]
 |h+1,i=>∀j∈succ i,Bd succ h j
theorem Bd.succ{succ:Nat->List Nat}:∀{h i:Nat},Bd succ h i->Bd succ (h+1) i
 |0,i,A=>λj D=>by rw[show succ i=[]from A]at D;simp at D
 |h+1,i,A=>λj D=>(A j D).succ
theorem Bd.le{succ:Nat->List Nat}{h E i:Nat}(A:Bd succ h i)(H:h<=E):Bd succ E i:=by
 induction H with
 |refl=>exact A
 |step _ ih=>exact ih.succ
def vH(x:aU):Prop:=x.op=9\/x.op=10
instance (x:aU):Decidable (vH x):=inferInstanceAs (Decidable (_\/_))
structure Good(I:Int->Nat)(cells:Int)(l:List aU)(r:Nat->Nat)(st:Nat->List Bool):Prop where
 len:1<=l.length/\l.length<=4096
 last:∀x,l[l.length-1]?=some x->x.op=15
 form:∀(i:Nat) x,l[i]?=some x->Ym I cells ((l.length:Int)-1) i x=true
 st0:st 0=[]
 mv:∀(i:Nat) x,l[i]?=some x->qA x (st i)=some (st (i+1))
 led:∀(i:Nat) x,l[i]?=some x->vH x->st x.a.toNat=[]
 azC:∀(i:Nat) x,l[i]?=some x->x.op≠11->∀j∈ahH l i,r j<r i
end Go.Am
end
section
namespace Go.Am
open Go
theorem I4{s:Tx}{v:Vr}:∀{l:List Vr}{n:Int},bu l s=some v->(Dz l s n).2=v
 |x::r,n,h=>by
  unfold bu at h;unfold Dz;split at h
  ·rename_i e;cases h;rw[aap e]
  ·rename_i e;rw[aah e];exact I4 h
theorem ny{vs:List Vr}{s:Tx}{v:Vr}(h:bu vs s=some v):(dw vs s).2=v:=I4 h
theorem FY{s:Tx}{v:Vr}:∀{l:List Vr}{n:Int},(∀v∈l,0<=b5 v)->bu l s=some v->n<=(Dz l s n).1/\(Dz l s n).1+b5 v<=n+dX l
 |x::r,n,H,h=>by
  have U:=H x (by simp);have V:0<=dX r:=by
   have:∀l:List Vr,(∀v∈l,0<=b5 v)->0<=dX l:=by
    intro l;induction l with
    |nil=>intro _;simp[dX]
    |cons y l ih=>intro h;have:=ih (λv D=>h v (by simp[D]));have:=h y (by simp);simp only[dX];omega
   exact this r (λv D=>H v (by simp[D]))
  unfold bu at h;unfold Dz;simp only[dX];split at h
  ·rename_i e;cases h;rw[aap e];simp only;omega
  ·rename_i e;rw[aah e];have:=FY (n:=n+b5 x) (λv D=>H v (by simp[D])) h;omega
theorem ue{vs:List Vr}{s:Tx}{v:Vr}(H:∀v∈vs,0<=b5 v)(h:bu vs s=some v):0<=(dw vs s).1/\(dw vs s).1+b5 v<=dX vs:=by
 have:=FY (n:=0) H h;simp only[Int.zero_add]at this;exact this
theorem I5{f:Tx}{p:Pn}:∀{l:List Pn}{i:Nat},xg l f=some p->f≠[]/\p∈l/\∃j,B4 l f i=some (j,p)/\i<=j/\j<i+l.length
 |q::r,i,h=>by
  unfold xg at h;unfold B4;split at h
  ·rename_i e;cases h;exact⟨e.2,by simp,i,by rw[aap e.1],by omega,by simp⟩
  ·rename_i e;obtain⟨E,A,j,I,Y,M⟩:=I5 (i:=i+1) h;exact⟨E,by simp[A],j,by rw[aah (λe'=>e ⟨e',E⟩)];exact I,by omega,by simp;omega⟩
theorem ND{vs:List Vr}{s f:Tx}{v:Vr}{p:Pn}(D:bu vs s=some v)(N:2<v.ty)(O:lW v.ty f=some p):
 (kK vs s f).2=p/\p∈br v.ty/\∃j:Nat,(kK vs s f).1=(dw vs s).1+j/\j<(br v.ty).length:=by
 obtain⟨E,A,j,I,_,M⟩:=I5 (i:=0) O;have T:=ny D;unfold kK;rw[D,T,aap ⟨rfl,N,E⟩,I];exact⟨rfl,A,j,rfl,by omega⟩
def lh:List aU->List Bool->Option (List Bool)
 |[],S=>some S
 |x::r,S=>(qA x S).bind (lh r)
theorem xq:∀(a b:List aU)(S:List Bool),lh (a++b) S=(lh a S).bind (lh b)
 |[],b,S=>rfl
 |x::a,b,S=>by
  simp only[afK,lh];cases qA x S with
  |none=>rfl
  |some J=>exact xq a b J
theorem Uu{f:aU->aU}(h:∀x,f x=x\/((x.op=9\/x.op=10)/\(f x).op=x.op))(x:aU)(S:List Bool):qA (f x) S=qA x S:=by
 rcases h x with e|⟨E,A⟩
 ·rw[e]
 ·rcases E with e|e
  ·have A:(f x).op=9:=by rw[A,e]
   simp[qA,A,e]
  ·have A:(f x).op=10:=by rw[A,e]
   simp[qA,A,e]
theorem I6{f:aU->aU}(h:∀x,f x=x\/((x.op=9\/x.op=10)/\(f x).op=x.op)):∀(l:List aU)(S:List Bool),lh (l.map f) S=lh l S
 |[],S=>rfl
 |x::r,S=>by
  simp only[acZ,lh,Uu h];cases qA x S with
  |none=>rfl
  |some J=>exact I6 h r J
theorem Uv(k:Nat)(x:aU):oB k x=x\/((x.op=9\/x.op=10)/\(oB k x).op=x.op):=by
 unfold oB;split
 ·rename_i h;exact .inr ⟨h.1,rfl⟩
 ·exact .inl rfl
theorem NF(k:Nat)(l:List aU)(S:List Bool):lh (oW k l) S=lh l S:=I6 (Uv k) l S
inductive XC(vs:List Vr):Ex->Prop
 |num {n:Int} {line:Int} (h:0<=n):XC vs (.mk 1 n [] [] [] line)
 |ri {n:Int} {line:Int} (h:n=0\/n=1):XC vs (.mk 2 n [] [] [] line)
 |var {name:Tx} {line:Int} {v:Vr} (D:bu vs name=some v) (A4:v.arr=false) (J:v.ty<=2):XC vs (.mk 3 0 name [] [] line)
 |idx {name:Tx} {line:Int} {v:Vr} {y:Ex} (D:bu vs name=some v) (A4:v.arr=true) (J:v.ty<=2) (Z:dJ y=true) (A':(aR vs y).e=0) (ty:(aR vs y).t=1):XC vs (.mk 4 0 name [] [y] line)
 |fld {name field:Tx} {line:Int} {v:Vr} {q:Pn} (D:bu vs name=some v) (J:2<v.ty) (T:lW v.ty field=some q) (U:cL field=true):XC vs (.mk 5 0 name field [] line)
 |one {op line:Int} {y:Ex} (A5:op=6\/op=7) (Z:dJ y=true) (A':(aR vs y).e=0) (ty:(aR vs y).t=ic op (aR vs y).t):XC vs (.mk op 0 [] [] [y] line)
 |two {op line:Int} {y z:Ex} (A5:8<=op/\op<=21) (Z:dJ y=true) (A':(aR vs y).e=0) (AD:dJ z=true) (AE:(aR vs z).e=0) (ty:(aR vs y).t=ic op (aR vs y).t) (AF:(aR vs z).t=ic op (aR vs y).t):XC vs (.mk op 0 [] [] [y,z] line)
theorem EJ{vs:List Vr}{x:Ex}(U:dJ x=true)(he:(aR vs x).e=0):XC vs x:=by
 obtain⟨op,n,name,field,sub,line⟩:=x;simp only[dJ,Ds,aam,akq,ac7]at U;obtain⟨A0,I,E,A,H⟩:=U;simp only[akD,not_and]at A0;obtain⟨A6,A7,A8,AG,AH⟩:=A0;unfold aR at he;by_cases V:op=1\/op=2
 ·rw[aah (by omega)]at E A;simp only[aam]at E A;subst E A;have M:sub=[]:=WY (by rw[I];unfold gI;rcases V with h|h<;>subst h<;>decide);subst M;rcases V with h|h
  ·subst h;exact .num (by have:=A6 rfl;omega)
  ·subst h;have:=A7 rfl;exact .ri (by omega)
 ·rw[aah V]at he;have A9:n=0:=by
   have:=A8 (by omega);simpa using this
  subst A9;by_cases Y:op=3\/op=4\/op=5
  ·rw[aap Y]at he;rw[aap Y]at E;cases D:bu vs name with
   |none=>rw[D]at he;simp[cF]at he
   |some v=>
    rw[D]at he;simp only at he;by_cases A1:op=5
    ·subst A1;rw[aap rfl]at he A;by_cases J:v.ty<=2
     ·rw[aap J]at he;simp[cF]at he
     ·rw[aah J]at he;have M:sub=[]:=WY (by rw[I];decide);subst M;cases T:lW v.ty field with
      |none=>rw[T]at he;simp[cF]at he
      |some q=>exact .fld D (by omega) T A
    ·rw[aah A1]at he A;simp only[aam]at A;subst A;by_cases N:v.arr≠decide (op=4)\/2<v.ty
     ·rw[aap N]at he;simp[cF]at he
     ·rw[aah N]at he;simp only[akD,ne_eq,Classical.not_not]at N;by_cases AA:op=4
      ·subst AA;rw[aap rfl]at he;obtain⟨y,rfl⟩:=I3 (l:=sub) (by rw[I];decide);simp only[cS,Ds]at H;simp only[K7]at he;by_cases O:(aR vs y).e=0
       ·rw[aah (by simpa using O)]at he;by_cases A2:(aR vs y).t=1
        ·exact .idx D (by simpa using N.1) (by omega) H.1 O A2
        ·rw[aap A2]at he;simp[cF]at he
       ·rw[aap O]at he;exact absurd he O
      ·have AB:op=3:=by omega
       subst AB;have M:sub=[]:=WY (by rw[I];decide);subst M;exact .var D (by simpa using N.1) (by omega)
  ·rw[aah Y]at he E;rw[aah (by omega)]at A;simp only[aam]at E A;subst E A;by_cases A3:op=6\/op=7
   ·obtain⟨y,rfl⟩:=I3 (l:=sub) (by rw[I];unfold gI;rcases A3 with h|h<;>subst h<;>decide);simp only[cS,Ds]at H;simp only[tyO]at he;obtain⟨g1,g2,g3,g4,g5⟩:=rY he;exact .one A3 H.1 g1 g3
   ·have AC:sub.length=2:=by rw[I];unfold gI;rw[aah (by omega),aap (by omega)]
    match sub,AC with
    |[y,z],_=>
     simp only[cS,Ds]at H;simp only[tyO]at he;obtain⟨g1,g2,g3,g4,g5⟩:=rY he;exact .two (by omega) H.1 g1 H.2.1 g2 g3 g4
def laI(n:Nat)(x:aU):aU:=if x.op=9\/x.op=10 then {x with a:=if 0<=x.a then x.a+n else 0} else x
def Be(n:Nat)(l:List aU):List aU:=l.map (laI n)
@[simp] theorem asJ(n:Nat)(l:List aU):(Be n l).length=l.length:=by simp[Be]
@[simp] theorem asK(n:Nat):Be n []=[]:=rfl
def Flat(l:List aU):Prop:=∀x∈l,x.op≠9/\x.op≠10
theorem Flat.Be{l:List aU}(h:Flat l)(n:Nat):Am.Be n l=l:=by
 unfold Am.Be;conv=>rhs;rw[<-List.map_id l]
 refine List.map_congr_left λx D=>?_;have:=h x D;simp[laI,this.1,this.2]
theorem Flat.app{a b:List aU}(H:Flat a)(I:Flat b):Flat (a++b):=λx D=>(abT.1 D).elim (H x) (I x)
theorem Flat.nil:Flat []:=λ_ h=>by simp at h
theorem Flat.one{x:aU}(h:x.op≠9/\x.op≠10):Flat [x]:=λy A=>by simp at A;subst A;exact h
theorem Flat.cons{x:aU}{l:List aU}(h:x.op≠9/\x.op≠10)(J:Flat l):Flat (x::l):=λy A=>by
 rcases aan.1 A with rfl|A
 ·exact h
 ·exact J y A
def psL(k:Int):Nat->List aU->List Int
 |_,[]=>[]
 |n,x::r=>if x.op=9/\x.a=k then (n:Int)::psL k (n+1) r else psL k (n+1) r
def setAt(l:List aU)(i:Int)(v:Int):List aU:=l.modify i.toNat λx=>{x with a:=v}
def Uw(l:List aU)(ps:List Int)(v:Int):List aU:=ps.foldl (λl i=>setAt l i v) l
@[simp] theorem alA(l:List aU)(i v:Int):(setAt l i v).length=l.length:=by simp[setAt]
@[simp] theorem Q0:∀(ps:List Int)(l:List aU)(v:Int),(Uw l ps v).length=l.length
 |[],l,v=>rfl
 |i::r,l,v=>by
  show (Uw (setAt l i v) r v).length=_;rw[Q0 r];simp
def chA(E:Int):Nat->List (List aU)->List (List aU)->List aU
 |_,_,[]=>[]
 |n,[],b::r=>if r=[]then Be n b else Be n b++ins 9 E 0 0 0::chA E (n+b.length+1) [] r
 |n,t::M,b::r=>
  if r=[]then t++ins 10 (n+t.length+1+b.length) 0 0 0::Be (n+t.length+1) b
  else t++ins 10 (n+t.length+2+b.length) 0 0 0::(Be (n+t.length+1) b++ins 9 E 0 0 0::chA E (n+t.length+2+b.length) M r)
def chP(k:Int):Nat->List (List aU)->List (List aU)->List Int
 |_,_,[]=>[]
 |n,[],b::r=>psL k n b++(if r=[]then []else chP k (n+b.length+1) [] r)
 |n,t::A,b::r=>psL k (n+t.length+1) b++(if r=[]then []else chP k (n+t.length+2+b.length) A r)
def Rm(u:Bool)(a A:EL):Prop:=a.1=0->A.1=if u=true then 9 else 0
theorem Rm.or{I T:Bool}{a A b U:EL}(D:Rm I a A)(J:Rm T b U):Rm (I||T) (eS a b) (eS A U):=by
 intro h;unfold eS at h⊢;by_cases H:a.1=0
 ·rw[aah (λh=>h H)]at h;have D:=D H;have J:=J h;cases I with
  |true=>simp at D;rw[aap (by rw[D];decide),D];simp
  |false=>simp at D;rw[aah (λh=>h D)];simpa using J
 ·rw[aap H]at h;exact absurd h H
theorem Rm.zero:Rm false (0,0) (0,0):=λ_=>rfl
theorem Rm.same{u:Bool}{a A:EL}(hu:u=false)(h:A=a):Rm u a A:=by
 subst hu h;intro h;simpa using h
section
variable {vs M:List Vr} {E:Tx} (N:E≠[]) (O:∀s,bu M s=if s=E then none else bu vs s)
include N O
end
section
variable {vs M:List Vr} {E:Tx} (N:E≠[]) (O:∀s,bu M s=if s=E then none else bu vs s)
include N O
end
theorem uf{v:Vr}(h:dB v=true):0<=b5 v:=by
 simp only[dB,Ds]at h;obtain⟨_,_,h,_⟩:=h;unfold b5;split
 ·rename_i A;rw[aap A]at h;have:=acE h;omega
 ·split<;>omega
def pnN(k:Int):Nat:=(br k).length
theorem I7{cells a n:Int}(E:0<=a)(H:0<=n)(I:a+n<=cells):ni cells a n=true:=by
 unfold ni;simp only[Ds,aam];omega
section
variable {vs:List Vr} {cells:Int} (A:∀v∈vs,dB v=true) (D:dX vs<=cells)
include A D
end
def NG(cells:Int)(x:aU):Prop:=vH x\/(Ym pnN cells 0 0 x=true/\x.op≠15)
structure qG(cells:Int)(ex:Bool)(e:Nat)(l:List aU):Prop where
 le:l.length<=e
 run:lh l []=some []
 ok:∀x∈l,NG cells x
 jmp:∀(i:Nat) x,l[i]?=some x->vH x->0<=x.a->x.a.toNat=e\/(x.a.toNat<=l.length/\lh (l.take x.a.toNat) []=some []/\(i<x.a.toNat\/∃y,l[x.a.toNat]?=some y/\y.op=11))
 out:∀x∈l,vH x->x.a<0->x.op=9/\(x.a= -2\/(ex=true/\x.a= -1))
def Fg(cells:Int)(ex:Bool)(l:List aU):Prop:=qG cells ex l.length l
section
variable {cells:Int} {ex:Bool}
theorem I8{k:Nat}{x:aU}:vH (oB k x)↔vH x:=by unfold vH;rw[I2]
theorem afO{k:Nat}{x:aU}(h:NG cells x):NG cells (oB k x):=by
 rcases Uv k x with e|⟨e,_⟩
 ·rw[e];exact h
 ·exact .inl (I8.2 e)
theorem Ux{k:Nat}{x:aU}(E:vH x)(h:0<=x.a):(oB k x).a=x.a+k:=by
 unfold oB;rw[aap ⟨E,h⟩]
theorem Uy{k:Nat}{x:aU}(h:x.a<0):(oB k x).a=x.a:=by
 unfold oB;rw[aah (by rintro ⟨_,A3⟩;omega)]
theorem W0(k j:Nat)(l:List aU):(oW k l).take j=oW k (l.take j):=by simp[oW]
theorem NH(k i:Nat)(l:List aU):(oW k l)[i]?=(l[i]?).map (oB k):=by simp[oW]
theorem qG.wk{e e':Nat}{l:List aU}(h:qG cells ex e l)(he:e=l.length)(A3:l.length<=e'):qG cells ex e' l:=by
 subst he;refine⟨A3,h.run,h.ok,λi x D E H=>?_,h.out⟩;rcases h.jmp i x D E H with M|M
 ·right;have hi:=(aaf.1 D).1;exact⟨by omega,by rw[M,List.take_length];exact h.run,.inl (by omega)⟩
 ·exact .inr M
theorem qG.plain{l:List aU}(O:lh l []=some [])(T:∀x∈l,NG cells x)(E:∀x∈l,¬vH x){e:Nat}(he:l.length<=e):qG cells ex e l:=
 ⟨he,O,T,λ_ x D A0=>absurd A0 (E x (aao D)),λx D A0=>absurd A0 (E x D)⟩
theorem qG.app{e e':Nat}{A B:List aU}(U:qG cells ex e' B)(he:e=A.length+e')(O:lh A []=some [])(T:∀x∈A,NG cells x)
 (E:∀(i:Nat) x,A[i]?=some x->vH x->0<=x.a->x.a.toNat=e\/(x.a.toNat<=A.length+B.length/\lh ((A++oW A.length B).take x.a.toNat) []=some []/\(i<x.a.toNat\/∃y,(A++oW A.length B)[x.a.toNat]?=some y/\y.op=11)))
 (A6:∀x∈A,vH x->x.a<0->x.op=9/\(x.a= -2\/(ex=true/\x.a= -1))):qG cells ex e (A++oW A.length B):=by
 have hle:=U.le;refine⟨by simp;omega,?_,?_,?_,?_⟩
 ·rw[xq,O];show lh (oW _ B) []=_;rw[NF];exact U.run
 ·intro x D;rcases abT.1 D with D|D
  ·exact T x D
  ·obtain⟨y,I,rfl⟩:=acb.1 D;exact afO (U.ok y I)
 ·intro i x D V H;by_cases hi:i<A.length
  ·rw[aaq hi]at D;rcases E i x D V H with h|h
   ·exact .inl h
   ·refine .inr ⟨by simp;omega,h.2⟩
  ·rw[aaF (by omega),NH]at D;obtain⟨y,I,rfl⟩:=aak.1 D;have Y:=I8.1 V;have Z:0<=y.a:=by
    by_cases h:0<=y.a
    ·exact h
    ·rw[Uy (by omega)]at H;exact H
   rw[Ux Y Z];have A7:(y.a+(A.length:Int)).toNat=A.length+y.a.toNat:=by omega
   rw[A7];rcases U.jmp _ y I Y Z with h|⟨M,A',J⟩
   ·exact .inl (by omega)
   ·refine .inr ⟨by simp;omega,?_,?_⟩
    ·rw[List.take_append,acI (by omega),xq,O];show lh ((oW _ B).take _) []=_;rw[W0,NF,Nat.add_sub_cancel_left];exact A'
    ·rcases J with J|⟨z,A8,A9⟩
     ·exact .inl (by omega)
     ·refine .inr ⟨oB A.length z,?_,by rw[I2];exact A9⟩;rw[aaF (by omega),NH,Nat.add_sub_cancel_left,A8];rfl
 ·intro x D V H;rcases abT.1 D with D|D
  ·exact A6 x D V H
  ·obtain⟨y,I,rfl⟩:=acb.1 D;have Y:=I8.1 V;have Z:y.a<0:=by
    by_cases h:0<=y.a
    ·rw[Ux Y h]at H;omega
    ·omega
   rw[Uy Z,I2];exact U.out y I Y Z
theorem qG.jn{e e':Nat}{a b:List aU}(H:qG cells ex e a)(A1:qG cells ex e' b)(he:e=a.length+e'):qG cells ex e (jn a b):=by
 refine A1.app he H.run H.ok ?_ H.out;intro i x D E N;rcases H.jmp i x D E N with h|⟨M,A',J⟩
 ·exact .inl h
 ·refine .inr ⟨by omega,?_,?_⟩
  ·rw[alq M];exact A'
  ·rcases J with J|⟨y,I,A2⟩
   ·exact .inl J
   ·exact .inr ⟨y,by rw[aaq (aaf.1 I).1];exact I,A2⟩
theorem Fg.jn{a b:List aU}(H:Fg cells ex a)(A1:Fg cells ex b):Fg cells ex (jn a b):=by
 unfold Fg;rw[Ut];exact qG.jn (H.wk rfl (by omega)) A1 rfl
theorem qG.tail{e A4:Nat}{l q:List aU}(h:qG cells ex A4 l)(N:A4=e)(O:lh q []=some [])(T:∀x∈q,NG cells x)(A5:∀x∈q,vH x->x.a=0)
 (AA:∃y,(l++q)[0]?=some y/\y.op=11) (AB:(l++q).length<=e):qG cells ex e (l++q):=by
 subst N;refine⟨AB,?_,?_,?_,?_⟩
 ·rw[xq,h.run];exact O
 ·intro x D;rcases abT.1 D with D|D
  ·exact h.ok x D
  ·exact T x D
 ·intro i x D E N;by_cases hi:i<l.length
  ·rw[aaq hi]at D;rcases h.jmp i x D E N with h|⟨M,A',J⟩
   ·exact .inl h
   ·refine .inr ⟨by simp;omega,by rw[alq M];exact A',?_⟩;rcases J with J|⟨y,I,A2⟩
    ·exact .inl J
    ·exact .inr ⟨y,by rw[aaq (aaf.1 I).1];exact I,A2⟩
  ·rw[aaF (by omega)]at D;have:=A5 x (aao D) E;rw[this];exact .inr ⟨by simp,rfl,.inr AA⟩
 ·intro x D E N;rcases abT.1 D with D|D
  ·exact h.out x D E N
  ·have:=A5 x D E;omega
end
section
variable {cells:Int} {ex:Bool}
theorem abe(b:List aU)(r:List (List aU)):lB [] (b::r)=if r=[]then b else jn (b++[ins 9 ((b.length:Int)+1+(lB [] r).length) 0 0 0]) (lB [] r):=by rw[lB]
end
section
variable {vs:List Vr}
end
section
variable {vs:List Vr} {cells:Int} (D:∀v∈vs,dB v=true) (U:dX vs<=cells)
include D U
theorem W1{s:Tx}{v:Vr}(h:bu vs s=some v)(E:¬v.arr=true)(M:v.ty<=2):ni cells (dw vs s).1 1=true:=by
 have I:∀v∈vs,0<=b5 v:=λv J=>uf (D v J);have N:=ue I h;have O:b5 v=1:=by unfold b5;rw[aah E,aah (by omega)]
 exact I7 (by omega) (by omega) (by omega)
theorem abf{s:Tx}{v:Vr}(h:bu vs s=some v)(E:v.arr=true):Pz cells (ins 7 (dw vs s).1 0 v.lo v.hi)=true:=by
 have I:∀v∈vs,0<=b5 v:=λv J=>uf (D v J);have N:=ue I h;have H:=D v (qD h).1;simp only[dB,Ds]at H;have A:=H.2.2.1;rw[aap E]at A;have A:=acE A;have O:b5 v=v.hi-v.lo+1:=by unfold b5;rw[aap E]
 have V:ni cells (dw vs s).1 (v.hi-v.lo+1)=true:=I7 (by omega) (by omega) (by omega);unfold Pz;simp only[Ds];exact⟨⟨⟨akt (show (0:Int)<=v.lo by omega),akt (show v.lo<=v.hi by omega)⟩,akt (show v.hi<=255 by omega)⟩,V⟩
theorem ug{s:Tx}{v:Vr}(h:bu vs s=some v)(M:2<v.ty):0<=(dw vs s).1/\(dw vs s).1+(br v.ty).length<=cells/\0<(br v.ty).length:=by
 have I:∀v∈vs,0<=b5 v:=λv J=>uf (D v J);have N:=ue I h;have H:=D v (qD h).1;have T:pU v.ty=true:=by
  rcases aa8 H with h|h
  ·omega
  ·exact h.2.2
 simp only[dB,Ds]at H;have Y:¬v.arr=true:=by
  intro E;have A:=H.2.2.1;rw[aap E]at A;have A:=acE A;omega
 have O:b5 v=(br v.ty).length:=by unfold b5;rw[aah Y,aap M]
 refine⟨by omega,by omega,?_⟩;unfold pU at T;have:=acE T;omega
end
theorem FZ{vs:List Vr}{E:Bool}:∀{cs:List Ex}{l:List (List Sm)},cs.length<=l.length->(fJ vs E cs l).1=0->∀x∈cs,(dy vs x 2).1=0
 |c::cs,b::r,A,h,x,D=>by
  obtain⟨H,I⟩:=ee.1 h;obtain⟨_,J⟩:=ee.1 I;rcases aan.1 D with rfl|D
  ·exact H
  ·exact FZ (by simpa using A) J x D
 |_::_,[],A,_,_,_=>by simp at A
section
variable {vs:List Vr} {cells:Int} (M:∀v∈vs,dB v=true) (N:dX vs<=cells)
include M N
end
section
variable {vs:List Vr}
theorem ta{x:Ex}{t:Int}(h:(dy vs x t).1=0):(aR vs x).e=0/\(aR vs x).t=t:=by
 unfold dy at h;split at h
 ·rename_i he;exact absurd h he
 ·rename_i he;split at h
  ·simp at h
  ·rename_i M;exact⟨by simpa using he,by simpa using M⟩
end
def jf(ex:Bool)(x:aU):Prop:=(x.op=10->0<=x.a)/\(x.op=9->0<=x.a\/x.a= -2\/(ex=true/\x.a= -1))
def Jf(ex:Bool)(l:List aU):Prop:=∀x∈l,jf ex x
section
variable {ex:Bool}
theorem Flat.jf{l:List aU}(h:Flat l):Jf ex l:=λx A=>⟨λD=>absurd D (h x A).2,λD=>absurd D (h x A).1⟩
theorem Jf.app{a b:List aU}(H:Jf ex a)(I:Jf ex b):Jf ex (a++b):=λx A=>(abT.1 A).elim (H x) (I x)
theorem Jf.nil:Jf ex []:=λ_ h=>by simp at h
theorem Jf.one{x:aU}(h:Am.jf ex x):Jf ex [x]:=λy E=>by simp at E;subst E;exact h
theorem Jf.mv{l:List aU}(h:Jf ex l)(k:Nat):Jf ex (oW k l):=by
 intro x A;obtain⟨y,E,rfl⟩:=acb.1 A;have:=h y E;unfold Am.jf oB at*;split
 ·rename_i J;exact⟨λ_=>by simp only;omega,λ_=>.inl (by simp only;omega)⟩
 ·exact this
theorem Jf.jn{a b:List aU}(H:Jf ex a)(I:Jf ex b):Jf ex (jn a b):=H.app (I.mv _)
theorem Jf.out{l:List aU}(h:Jf true l):Jf ex (EI l):=by
 intro x A;obtain⟨y,E,rfl⟩:=acb.1 A;have:=h y E;unfold Am.jf Ny at*;split
 ·exact⟨λ_=>by simp only;omega,λ_=>.inl (by simp only;omega)⟩
 ·rename_i J;refine⟨this.1,λD=>?_⟩;rcases this.2 D with h|h|h
  ·exact .inl h
  ·exact .inr (.inl h)
  ·exact absurd ⟨D,h.2⟩ J
end
end Go.Am
end
section
namespace Go.Am
open Go Go.Proofs
variable [Inhabited bA]
set_option maxRecDepth 20000
@[simp] def qR(x:aU):D:=.agg [.int .i64 x.op,.int .i64 x.a,.int .i64 x.b,.int .i64 x.n,.int .i64 x.m]
@[simp] def azD(ins:List aU)(vars cells:Int)(x y:AV):ay:=.box [.d (.list (ins.map qR)),.d (.int .i64 vars),.d (.int .i64 cells),x,y]
@[simp] def bD(l:List Bool):List D:=l.map .bool
section
variable (ins:List aU) (vars cells:Int) (s1 A E s2 H I:Nat) (S T:List D)
end
structure Mk where
 out:List aU
 cells:Int
 most:Int
 ex:List (List Int)
 lv:List Int
@[simp] def ko(n:Int):D:=.int .i64 n
@[simp] def F0(l:List Int):List D:=l.map ko
@[simp] def mkB(p:Pg)(m:Mk)(h:Int):ay:=.box [.d (.str p.name),.d (.list (p.vars.map bn)),.d (.list (p.body.map cw)),.vec 1 0 0 m.out.length,.d (.int .i64 m.cells),.d (.int .i64 h),.d (.int .i64 m.most),.vec 2 0 0 m.ex.length,.vec 3 0 0 m.lv.length]
@[simp] def mkC(p:Pg)(m:Mk)(h:Int):List ay:=[mkB p m h,.vec 5 (m.out.map qR),.vv (m.ex.map F0) none,.vec 1 (m.lv.map ko)]
@[simp] def mkR(p:Pg)(m:Mk)(h:Int)(v1 v2 v3:Nat):List (Nat×ay):=[(0,.box [.d (.str p.name),.d (.list (p.vars.map bn)),.d (.list (p.body.map cw)),.vec 1 v1 0 m.out.length,.d (.int .i64 m.cells),.d (.int .i64 h),.d (.int .i64 m.most),.vec 2 v2 0 m.ex.length,.vec 3 v3 0 m.lv.length]),(v1,.vec 5 (m.out.map qR)),(v2,.vv (m.ex.map F0) none),(v3,.vec 1 (m.lv.map ko))]
@[simp] def mkX(p:Pg)(m:Mk)(h:Int)(a b c A E H:Nat):ay:=.box [.d (.str p.name),.d (.list (p.vars.map bn)),.d (.list (p.body.map cw)),.vec a A 0 m.out.length,.d (.int .i64 m.cells),.d (.int .i64 h),.d (.int .i64 m.most),.vec b E 0 m.ex.length,.vec c H 0 m.lv.length]
def Mk.put(m:Mk)(x:aU)(t:Int):Mk:={m with out:=m.out++[x],most:=max m.most t}
def Mk.lead(m:Mk)(at_:Int):Mk:={m with out:=setAt m.out at_ m.out.length}
@[simp] theorem aqD(m:Mk)(i:Int):(m.lead i).out.length=m.out.length:=by simp[Mk.lead]
abbrev oC(p:Pg):D:=.agg [.str p.name,.list (p.vars.map bn),.list (p.body.map cw)]
theorem I9(s:Tx):∀(l:List Pn)(n:Nat),(match B4 l s n with
 |some (i,q)=>iO (λq:Pn=>decide (q.name=s)) l n=i/\n<=i/\l[i-n]?=some q
 |none=>iO (λq:Pn=>decide (q.name=s)) l n= -1)
 |[],n=>rfl
 |q::l,n=>by
  have ih:=I9 s l (n+1);simp only[B4,iO];by_cases h:q.name=s
  ·rw[aap h];simp[h]
  ·rw[aah h];simp only[h,decide_false,aky,acF];cases A:B4 l s (n+1)with
   |none=>rw[A]at ih;exact ih
   |some x=>
    obtain⟨i,w⟩:=x;rw[A]at ih;obtain⟨D,H,E⟩:=ih;refine⟨D,by omega,?_⟩;rw[show i-n=(i-(n+1))+1 by omega];simpa using E
end Go.Am
end
section
namespace Go.Am
open Go
def DA(ex:List (List Int))(a:List Int):List (List Int):=
 match ex.getLast? with
 |some r=>ex.dropLast++[r++a]
 |none=>[]
theorem UC(ex:List (List Int))(r a:List Int):DA (ex++[r]) a=ex++[r++a]:=by simp[DA]
@[simp] theorem alB(ex:List (List Int))(a:List Int):(DA ex a).length=ex.length:=by
 rcases List.eq_nil_or_concat ex with h|⟨l,r,h⟩
 ·subst h;rfl
 ·rw[h,List.concat_eq_append,UC];simp
def DB(m:Mk):Prop:=m.lv.length<=m.out.length/\∀r∈m.ex,r.length<=m.out.length
theorem DB.put{m:Mk}(h:DB m)(x:aU)(t:Int):DB (m.put x t):=
 ⟨by have:=h.1;simp[Mk.put];omega,λr A=>by have:=h.2 r A;simp[Mk.put];omega⟩
theorem DB.lead{m:Mk}(h:DB m)(i:Int):DB (m.lead i):=by
 have e:(m.lead i).out.length=m.out.length:=by simp[Mk.lead]
 exact⟨by rw[e];exact h.1,λr A=>by rw[e];exact h.2 r A⟩
end Go.Am
end
section
namespace Go.Am
open Go Go.Proofs
variable [Inhabited bA]
set_option maxRecDepth 20000
@[simp] def mqM(p:Pg)(m:Mk)(h:Int)(v1 v2 v3:Nat):List cg:=[⟨0,0,.box [.d (.str p.name),.d (.list (p.vars.map bn)),.d (.list (p.body.map cw)),.vec 1 v1 0 m.out.length,.d (.int .i64 m.cells),.d (.int .i64 h),.d (.int .i64 m.most),.vec 2 v2 0 m.ex.length,.vec 3 v3 0 m.lv.length]⟩,⟨1,v1,.vec 5 (m.out.map qR)⟩,⟨2,v2,.vv (m.ex.map F0) none⟩,⟨3,v3,.vec 1 (m.lv.map ko)⟩]
section
variable {p:Pg} (A:p.vars.length<=1000) (D:∀v∈p.vars,dB v=true)
include A D
end
end Go.Am
end
section
namespace Go.Am
open Go
def cds(A:List (List aU×Int)):List (List aU):=A.map (·.1)
def Mk.sG(m:Mk)(A:List (List aU×Int))(D:List (List aU))(c t:Int):Mk:=
 ⟨m.out++chA 0 m.out.length (cds A) D,c,max m.most t,DA m.ex (chP (-1) m.out.length (cds A) D),m.lv++chP (-2) m.out.length (cds A) D⟩
end Go.Am
end
section
namespace Go.Am
open Go Go.Proofs
variable [Inhabited bA]
set_option maxRecDepth 20000
section
variable {p:Pg} (A:p.vars.length<=1000) (D:∀v∈p.vars,dB v=true)
include A D
end
@[simp] def mqI(p:Pg)(m:Mk)(s:Sm)(E:List Int)(v1 v2 v3 H:Nat):List cg:=[⟨0,0,mkX p m 0 3 4 5 v1 v2 v3⟩,⟨1,0,.box [.ptr 0 0 0]⟩,⟨2,0,bg s⟩,⟨3,v1,.vec 5 (m.out.map qR)⟩,⟨4,v2,.vv (m.ex.map F0) none⟩,⟨5,v3,.vec 1 (m.lv.map ko)⟩,⟨500,H,.vec 1 (E.map ko)⟩]
@[simp] def mqC(p:Pg)(m:Mk)(s:Sm)(q:Int)(E:List Int)(v1 v2 v3 A:Nat):List cg:=[⟨0,0,mkX p m 0 4 5 6 v1 v2 v3⟩,⟨1,0,.box [.ptr 0 0 0]⟩,⟨2,0,bg s⟩,⟨3,0,.box [.d (.int .i64 q)]⟩,⟨4,v1,.vec 5 (m.out.map qR)⟩,⟨5,v2,.vv (m.ex.map F0) none⟩,⟨6,v3,.vec 1 (m.lv.map ko)⟩,⟨500,A,.vec 1 (E.map ko)⟩]
@[simp] theorem asL:List.range 7=[0,1,2,3,4,5,6]:=rfl
@[simp] theorem asM:List.range 8=[0,1,2,3,4,5,6,7]:=rfl
@[simp] def mqL(p:Pg)(m:Mk)(h:Int)(s:Sm)(q:Int)(v1 v2 v3:Nat):List cg:=[⟨0,0,.box [.ptr 3 0 0]⟩,⟨1,0,bg s⟩,⟨2,0,.box [.d (.int .i64 q)]⟩,⟨3,0,mkX p m h 4 5 6 v1 v2 v3⟩,⟨4,v1,.vec 5 (m.out.map qR)⟩,⟨5,v2,.vv (m.ex.map F0) none⟩,⟨6,v3,.vec 1 (m.lv.map ko)⟩]
def Mk.sB(m:Mk):Mk:={m with ex:=m.ex++[[]]}
theorem DB.sB{m:Mk}(h:DB m):DB m.sB:=
 ⟨h.1,λr A=>by
  rcases abT.1 A with A|A
  ·exact h.2 r A
  ·simp at A;subst A;simp⟩
section
variable {p:Pg} {x:Sm} {m M:Mk} (A:m.out.length<99999990)
include A
end
@[simp] def mkO(p:Pg)(m:Mk)(h:Int)(pre:List (List Int))(row:List Int):List ay:=[.box [.d (.str p.name),.d (.list (p.vars.map bn)),.d (.list (p.body.map cw)),.vec 1 0 0 m.out.length,.d (.int .i64 m.cells),.d (.int .i64 h),.d (.int .i64 m.most),.vec 2 0 0 (pre.length+1),.vec 3 0 0 m.lv.length],.vec 5 (m.out.map qR),.vv (pre.map F0) (some (.vec 4 0 0 row.length)),.vec 1 (m.lv.map ko),.vec 1 (row.map ko)]
@[simp] def mkP(p:Pg)(m:Mk)(h:Int)(pre:List (List Int))(row:List Int):List (Nat×ay):=[(0,.box [.d (.str p.name),.d (.list (p.vars.map bn)),.d (.list (p.body.map cw)),.vec 1 1 0 m.out.length,.d (.int .i64 m.cells),.d (.int .i64 h),.d (.int .i64 m.most),.vec 2 0 0 (pre.length+1),.vec 3 0 0 m.lv.length]),(1,.vec 5 (m.out.map qR)),(0,.vv (pre.map F0) (some (.vec 4 0 0 row.length))),(0,.vec 1 (m.lv.map ko)),(0,.vec 1 (row.map ko))]
def Mk.ext(m:Mk):Mk:={m with out:=m.out++[ins 9 0 0 0 0],most:=max m.most 0,ex:=DA m.ex [(m.out.length:Int)]}
def Mk.ret(m:Mk):Mk:={m with out:=m.out++[ins 9 0 0 0 0],most:=max m.most 0,lv:=m.lv++[(m.out.length:Int)]}
end Go.Am
end
section
namespace Go.Am
open Go
inductive Vl where
 |v (n:Int) (t:Bool)
 |f (e:Int)
 deriving DecidableEq
structure Mc where
 cells:List Int
 fuel:Nat
inductive Hw where
 |on
 |lv
 |rt
 |ft (e:Int)
 deriving DecidableEq
abbrev Rr:=Hw×Mc
def bR(q:Rr)(f:Mc->Rr):Rr:=
 match q with
 |(.on,s)=>f s
 |q=>q
def vR(q:Vl)(s:Mc)(f:Int->Rr):Rr:=
 match q with
 | .f e=>(.ft e,s)
 | .v n _=>f n
def vV(q:Vl)(f:Int->Vl):Vl:=
 match q with
 | .f e=>.f e
 | .v n _=>f n
def fL(F:Mc->Rr)(s:Mc):Rr:=if s.fuel=0 then (.ft 4,s)else F ⟨s.cells,s.fuel-1⟩
def jw(C:List Int)(k:Int):Int:=C[k.toNat]?.getD 0
def DC(C:List Int)(at_ t:Int):Int:=if t=2 then dG (decide (jw C at_≠0))else jw C at_
def ek(C:List Int)(k n:Int):List Int:=C.set k.toNat n
def UD(op:Int)(l:List Int)(t:Bool):Int×Bool×Int:=
 match l with
 |[a]=>oo op a t
 |[a,b]=>kl op a b t
 |_=>j9
def rl(op:Int)(l:List Int)(t:Bool):Vl:=if (UD op l t).2.2=0 then .v (UD op l t).1 (UD op l t).2.1 else .f (UD op l t).2.2
def EK(C:List Int)(at_:Int)(v:Vr)(n:Int):Vl:=if n<v.lo\/v.hi<n then .f 3 else .v (DC C (at_+(n-v.lo)) v.ty) (decide (v.ty=2))
mutual
def cf(vs:List Vr)(C:List Int):Ex->Vl
 | .mk op n name field sub _=>
  if op=1 then .v n false
  else if op=2 then .v n true
  else if op=3 then .v (DC C (dw vs name).1 (dw vs name).2.ty) (decide ((dw vs name).2.ty=2))
  else if op=4 then vV (DD vs C sub) λk=>EK C (dw vs name).1 (dw vs name).2 k
  else if op=5 then .v (DC C (kK vs name field).1 (kK vs name field).2.ty) (decide ((kK vs name field).2.ty=2))
  else
   (match (pD vs C sub false).2 with
    | .v _ t=>rl op (pD vs C sub false).1 t
    | .f e=>.f e)
def DD(vs:List Vr)(C:List Int):List Ex->Vl
 |[]=>.f (-2)
 |x::_=>cf vs C x
def pD(vs:List Vr)(C:List Int):List Ex->Bool->List Int×Vl
 |[],t=>([],.v 0 t)
 |x::r,_=>
  (match cf vs C x with
   | .f e=>([],.f e)
   | .v n t=>(n::(pD vs C r t).1,(pD vs C r t).2))
end
def EM(C:List Int)(fuel:Nat)(at_:Int)(v:Vr)(n x:Int):Rr:=if n<v.lo\/v.hi<n then (.ft 3,⟨C,fuel⟩)else (.on,⟨ek C (at_+(n-v.lo)) x,fuel⟩)
def tc(vs:List Vr)(to val:Ex)(s:Mc):Rr:=
 if cB to=3 then vR (cf vs s.cells val) s λn=>(.on,⟨ek s.cells (dw vs (ec to)).1 n,s.fuel⟩)
 else vR (DD vs s.cells (cR to)) s λk=>vR (cf vs s.cells val) s λn=>EM s.cells s.fuel (dw vs (ec to)).1 (dw vs (ec to)).2 k n
def kf(vs:List Vr)(name:Tx):List Tx->List Ex->Mc->Rr
 |f::I,x::xs,s=>vR (cf vs s.cells x) s λn=>kf vs name I xs ⟨ek s.cells (kK vs name f).1 n,s.fuel⟩
 |_,_,s=>(.on,s)
def uT(C:List Int)(at_ k:Int):List Int:=C.take at_.toNat++gg k ((C.drop at_.toNat).take (br k).length)++C.drop (at_.toNat+(br k).length)
def oD(vs:List Vr)(name:Tx)(I:List Tx)(xs:List Ex)(s:Mc):Rr:=bR (kf vs name I xs s) λD=>(.on,⟨uT D.cells (dw vs name).1 (dw vs name).2.ty,D.fuel⟩)
def ia(q:Rr):Rr:=if q.1=.lv then (.on,q.2)else q
def iU(n:Int):List Int->Bool
 |a::b::r=>decide (a<=n/\n<=b)||iU n r
 |_=>false
def vI(c:List Int->Vl)(b:Mc->Rr):Nat->Mc->Rr
 |0,s=>(.ft 4,s)
 |m+1,s=>fL (λs=>vR (c s.cells) s λk=>if k=0 then (.on,s)else bR (b s) λD=>vI c b m D) s
def vJ(c:List Int->Vl)(b:Mc->Rr):Nat->Mc->Rr
 |0,s=>(.ft 4,s)
 |m+1,s=>bR (b s) λs=>fL (λs=>vR (c s.cells) s λk=>if k=0 then vJ c b m s else (.on,s)) s
def UE(n to A:Int):Bool:=decide (0<=A/\to<n)||decide (A<0/\n<to)
def xU(at_ to A:Int)(b:Mc->Rr):Nat->Mc->Rr
 |0,s=>(.ft 4,s)
 |m+1,s=>fL (λs=>if UE (jw s.cells at_) to A=true then (.on,s)else bR (b s) λs=>vR (rl 8 [jw s.cells at_,A] false) s λn=>xU at_ to A b m ⟨ek s.cells at_ n,s.fuel⟩) s
def zL(vs:List Vr)(name:Tx)(E:List Ex)(b:Mc->Rr)(s:Mc):Rr:=
 match E with
 |[x,y,z]=>vR (cf vs s.cells x) s λfrom_=>vR (cf vs s.cells y) s λM=>vR (cf vs s.cells z) s λA=>xU (dw vs name).1 M A b (s.fuel+1) ⟨ek s.cells (dw vs name).1 from_,s.fuel⟩
 |_=>(.on,s)
mutual
def iW(vs:List Vr):Sm->Mc->Rr
 | .mk op name to val E N fields H _,s=>fL (λs=>
  if op=1 then tc vs to val s
  else if op=2 then gQ vs H E s
  else if op=3 then vR (cf vs s.cells val) s λn=>gR vs H n N s
  else if op=4 then ia (zL vs name E (λq=>kS vs H q) s)
  else if op=5 then ia (vI (λC=>cf vs C val) (λq=>kS vs H q) (s.fuel+1) s)
  else if op=6 then ia (vJ (λC=>cf vs C val) (λq=>kS vs H q) (s.fuel+1) s)
  else if op=7 then (.lv,s)
  else if op=8 then (.rt,s)
  else oD vs name fields E s) s
def b8(vs:List Vr):List Sm->Mc->Rr
 |[],s=>(.on,s)
 |x::r,s=>bR (iW vs x s) λD=>b8 vs r D
def gQ(vs:List Vr):List (List Sm)->List Ex->Mc->Rr
 |[],_,s=>(.on,s)
 |b::_,[],s=>b8 vs b s
 |b::J,c::cs,s=>vR (cf vs s.cells c) s λn=>if n=0 then gQ vs J cs s else b8 vs b s
def gR(vs:List Vr):List (List Sm)->Int->List (List Int)->Mc->Rr
 |[],_,_,s=>(.on,s)
 |b::_,_,[],s=>b8 vs b s
 |b::J,n,l::ls,s=>if iU n l=true then b8 vs b s else gR vs J n ls s
def kS(vs:List Vr):List (List Sm)->Mc->Rr
 |[],s=>(.on,s)
 |b::_,s=>b8 vs b s
end
def gi(p:Pg)(C:List Int)(fuel:Nat):List Int×Int×Nat:=
 match b8 p.vars p.body ⟨C,fuel⟩with
 |(.ft e,s)=>(s.cells,e,s.fuel)
 |(_,s)=>(s.cells,0,s.fuel)
section
variable {vs:List Vr} {C:List Int}
theorem UF(x:Ex)(r:List Ex)(t0:Bool):pD vs C (x::r) t0=(match cf vs C x with
 | .f e=>([],.f e)
 | .v n t=>(n::(pD vs C r t).1,(pD vs C r t).2)):=by rw[pD]<;>cases cf vs C x<;>rfl
end
section
variable {vs:List Vr}
theorem abg{x:Ex}{t:Int}(h:(dy vs x t).1=0):(aR vs x).e=0/\(aR vs x).t=t:=by
 unfold dy at h;split at h
 ·exact absurd h (by assumption)
 ·rename_i I;split at h
  ·simp at h
  ·rename_i D;exact⟨by simpa using I,by simpa using D⟩
theorem NI{k line:Int}:∀(A:List Tx)(xs:List Ex)(p:List Tx),xs.length=A.length->(jt vs k line A xs p).1=0->∀x∈xs,(aR vs x).e=0
 |[],[],_,_,_,x,J=>by simp at J
 |f::A,x::xs,p,M,h,y,E=>by
  simp only[jt]at h;cases H:lW k f with
  |none=>rw[H]at h;simp at h
  |some q=>
   rw[H]at h;simp only at h;split at h
   ·simp at h
   ·split at h
    ·simp at h
    ·obtain⟨D,N⟩:=ee.1 h;rcases aan.1 E with rfl|E
     ·exact (abg D).1
     ·exact NI A xs _ (by simpa using M) N y E
 |[],_::_,_,h,_,_,_=>by simp at h
 |_::_,[],_,h,_,_,_=>by simp at h
end
end Go.Am
end
section
namespace Go.Am
open Go Go.Proofs Go.Proofs.Tryz
variable [Inhabited bA]
set_option maxRecDepth 20000
def mJ:List Vr->Int->List Int
 |[],_=>[]
 |v::r,n=>n::mJ r (n+b5 v)
def B5:List Vr->List Int
 |[]=>[]
 |v::r=>(if v.arr=false/\v.ty<=2 then [v.init]else List.replicate (b5 v).toNat 0)++B5 r
@[simp] def afS(v1 v2 v3:Nat)(A:ay)(S:List Int)(n:Int)(F:List Int):List cg:=[⟨250,1,.box [.vec 251 v1 0 S.length,.d (.int .i64 n),.vec 252 v2 0 F.length]⟩,⟨251,v1,.vec 1 (S.map ko)⟩,⟨252,v2,.vec 1 (F.map ko)⟩,⟨350,v3,A⟩]
theorem Ja(l:List Vr)(T:l.length<=1000)(H:∀v∈l,dB v=true)(B C:cg)(I:B.key=150)(J:C.key=200)(k:Kt)(Q:List Int->Int->List Int->bW->Prop)
 (O:∀(Y:Env) S n F v1 v2 v3 A,Q S n F (k (.exit 0) ⟨51,aA,(2,true,.ptr 200 1 0)::(3,true,.ptr 250 1 0)::Y,B::C::afS v1 v2 v3 A S n F⟩)):∀(rest pre:List Vr)(S:List Int)(n:Int)(F:List Int)(v1 v2 v3:Nat)(A:ay),l=pre++rest->0<=n->n<=1000*pre.length->S.length=pre.length->(F.length:Int)=n->
 Q (S++mJ rest n) (n+dX rest) (F++B5 rest) (aI ctx 41 (.loop (Code.at (bm f41) [1,1,0,1,0,0])) ⟨51,aA,[(2,true,.ptr 200 1 0),(3,true,.ptr 250 1 0),(8,true,.d (.list (l.map bn))),(9,true,.d (.int .i64 l.length)),(10,true,.d (.int .i64 pre.length))],B::C::afS v1 v2 v3 A S n F⟩ k)
 |[],pre,S,n,F,v1,v2,v3,A,E,A7,A8,A',A0=>by
  have A9:pre.length=l.length:=by rw[E];simp
  have:=O [(8,true,.d (.list (l.map bn))),(9,true,.d (.int .i64 l.length)),(10,true,.d (.int .i64 l.length)),(11,true,.d (.bool false))] S n F v1 v2 v3 A;simp[mJ,dX,B5]at this⊢;rw[A9,ai];simp[f41,this]
 |w::rest,pre,S,n,F,v1,v2,v3,A,E,A7,A8,A',A0=>by
  have A1:pre.length<l.length:=by rw[E];simp
  have A2:l[pre.length]=w:=by simp[E]
  have M:=WQ (H w (by rw[E];simp));have AA:=Ba (H w (by rw[E];simp));have ih:=λF' h v1 v2 v3 A=>Ja l T H B C I J k Q O rest (pre++[w]) (S++[n]) (n+b5 w) F' v1 v2 v3 A (by simp[E]) (by omega) (by simp;omega) (by simp[A']) h;have A3:IntKind.i64.wrap ((pre.length:Int)+1)=(pre.length:Int)+1:=aE (by unfold aG;omega);have U:IntKind.i64.wrap (n+b5 w)=n+b5 w:=aE (by unfold aG;omega);have A4:S.length<=4611686018427387903:=by omega
  have A5:(S.length+1)*8<=140737488355328:=by omega
  rw[ai];simp only[mJ,dX,B5];rw[<-Int.add_assoc];by_cases N:w.arr=false/\w.ty<=2
  ·have V:b5 w=1:=by unfold b5;rw[aah (by simp[N.1]),aah (by omega)]
   rw[V]at M ih U AA⊢;have ih:=ih (F++[w.init]) (by simp;omega);have Z:F.length<=4611686018427387903:=by omega
   have q:(F.length+1)*8<=140737488355328:=by omega
   have y:IntKind.i64.wrap n=F.length:=by rw[<-A0];exact aE (by unfold aG;omega)
   have AB:(F.map ko++[D.int .i64 0]).set F.length (D.int .i64 w.init)=F.map ko++[D.int .i64 w.init]:=by
    rw[List.set_append_right _ _ (by simp)];simp
   simp[f41,bn,dk,N,ko]at ih M⊢;simp[A1,A2,I,J,bn,dk,N,M,A3,U,A4,A5,Z,q,y,AB,ih,ko]
  ·have ih:=ih (F++List.replicate (b5 w).toNat 0) (by simp;omega);have y:0<=b5 w/\b5 w<=4611686018427387904:=by omega
   have Z:F.length+(b5 w).toNat<=4611686018427387904:=by omega
   have q:(F.length+(b5 w).toNat)*8<=140737488355328:=by omega
   simp[f41,bn,dk,N,ko]at ih M⊢;simp[A1,A2,I,J,bn,dk,N,M,A3,U,A4,A5,Z,q,y,ih,ko]
theorem NJ(p:Pg)(T:p.vars.length<=1000)(H:∀v∈p.vars,dB v=true):ah ctx 41 [.d (oC p)] []=some (.ret (.d (.agg [.list ((mJ p.vars 0).map ko),.int .i64 (dX p.vars),.list ((B5 p.vars).map ko)])),[]):=by
 have A6:=λB C I J k Q O v1 v2 v3 A=>Ja p.vars T H B C I J k Q O p.vars [] [] 0 [] v1 v2 v3 A rfl (by omega) (by simp) rfl rfl;rw[aji (by simp)];simp[f41]at A6⊢;refine A6 _ _ ?_ ?_ _ (λS n F r=>S=mJ p.vars 0->n=dX p.vars->F=B5 p.vars->r=some (.ret (.d (.agg [.list ((mJ p.vars 0).map ko),.int .i64 (dX p.vars),.list ((B5 p.vars).map ko)])),[])) (λY S n F v1 v2 v3 A V AC AD=>?_) _ _ _ _ rfl rfl rfl
 ·rfl
 ·rfl
 ·subst V AC AD;simp
theorem abh(s:Tx)(v:Vr):ah ctx 281 [.d (bn v),.ptr 0 0 0] [.box [.d (.str s)]]=some (.ret (.d (.bool (decide (v.name=s)))),[(0,.box [.d (.str s)])]):=by
 rw[aeT (by simp)];simp[f281,bn,dk]
theorem abi(s:Tx)(p:Pn):ah ctx 252 [.d (cE p),.ptr 0 0 0] [.box [.d (.str s)]]=some (.ret (.d (.bool (decide (p.name=s)))),[(0,.box [.d (.str s)])]):=by
 rw[aeM (by simp)];simp[f252,cE]
theorem F2(s:Tx):∀(rest pre:List Vr),(pre++rest).length<1000000->∀k:Kt,
 aI ctx 233 (.loop (Code.at (bm f233) [1,0,1,0,0])) ⟨19,aA,[(0,true,.d (.list ((pre++rest).map bn))),(1,true,.fn 281 [.ptr 0 0 0]),(7,true,.d (.int .i64 (pre++rest).length)),(8,true,.d (.int .i64 pre.length))],[⟨0,0,.box [.d (.str s)]⟩]⟩ k=
  if iO (λv:Vr=>decide (v.name=s)) rest pre.length<0 then k (.exit 0) ⟨19,aA,[(0,true,.d (.list ((pre++rest).map bn))),(1,true,.fn 281 [.ptr 0 0 0]),(7,true,.d (.int .i64 (pre++rest).length)),(8,true,.d (.int .i64 (pre++rest).length)),(9,true,.d (.bool false))],[⟨0,0,.box [.d (.str s)]⟩]⟩
  else k .ret ⟨19,aA,[(4,true,.d (.int .i64 (iO (λv:Vr=>decide (v.name=s)) rest pre.length)))],[⟨0,0,.box [.d (.str s)]⟩]⟩
 |[],pre,A,k=>by
  rw[ai];simp[f233,iO]
 |x::rest,pre,A,k=>by
  obtain⟨b,E⟩:∃b,b=(λv:Vr=>decide (v.name=s)) x:=⟨_,rfl⟩;have H:ah ctx 281 [.d (bn x),.ptr 0 0 0] [.box [.d (.str s)]]=some (.ret (.d (.bool b)),[(0,.box [.d (.str s)])]):=by rw[E];exact abh s x
  have key:iO (λv:Vr=>decide (v.name=s)) (x::rest) pre.length=if b=true then (pre.length:Int)else iO (λv:Vr=>decide (v.name=s)) rest (pre.length+1):=by rw[E];rfl
  have ih:=F2 s rest (pre++[x]) (by simpa using A) k;have D:(pre.length:Int)<pre.length+(rest.length+1):=by omega
  have I:IntKind.i64.wrap ((pre.length:Int)+1)=pre.length+1:=aE (by unfold aG;simp at A;omega);have J:¬((pre.length:Int)<0):=by omega
  try simp[bn,dk]at H
  rw[ai,key];clear E key;cases b with
  |true=>simp[f233,D,I,J,H,bn,dk]
  |false=>
   simp[f233,bn,dk]at ih⊢;simp[D,I,H,ih,bn,dk]
theorem abj(s:Tx)(l:List Vr)(A:l.length<1000000):ah ctx 233 [.d (.list (l.map bn)),.fn 281 [.ptr 0 0 0]] [.box [.d (.str s)]]=some (.ret (.d (.int .i64 (iO (λv:Vr=>decide (v.name=s)) l 0))),[(0,.box [.d (.str s)])]):=by
 have h:=λk=>F2 s l [] (by simpa using A) k;rw[aeE (by simp)];simp[f233]at h⊢;simp[h];intro h;rcases xk (λv:Vr=>decide (v.name=s)) l 0 with D|D
 ·exact D.symm
 ·omega
theorem F3(s:Tx):∀(rest pre:List Pn),(pre++rest).length<1000000->∀k:Kt,
 aI ctx 241 (.loop (Code.at (bm f241) [1,0,1,0,0])) ⟨19,aA,[(0,true,.d (.list ((pre++rest).map cE))),(1,true,.fn 252 [.ptr 0 0 0]),(7,true,.d (.int .i64 (pre++rest).length)),(8,true,.d (.int .i64 pre.length))],[⟨0,0,.box [.d (.str s)]⟩]⟩ k=
  if iO (λq:Pn=>decide (q.name=s)) rest pre.length<0 then k (.exit 0) ⟨19,aA,[(0,true,.d (.list ((pre++rest).map cE))),(1,true,.fn 252 [.ptr 0 0 0]),(7,true,.d (.int .i64 (pre++rest).length)),(8,true,.d (.int .i64 (pre++rest).length)),(9,true,.d (.bool false))],[⟨0,0,.box [.d (.str s)]⟩]⟩
  else k .ret ⟨19,aA,[(4,true,.d (.int .i64 (iO (λq:Pn=>decide (q.name=s)) rest pre.length)))],[⟨0,0,.box [.d (.str s)]⟩]⟩
 |[],pre,A,k=>by
  rw[ai];simp[f241,iO]
 |x::rest,pre,A,k=>by
  obtain⟨b,E⟩:∃b,b=(λq:Pn=>decide (q.name=s)) x:=⟨_,rfl⟩;have H:ah ctx 252 [.d (cE x),.ptr 0 0 0] [.box [.d (.str s)]]=some (.ret (.d (.bool b)),[(0,.box [.d (.str s)])]):=by rw[E];exact abi s x
  have key:iO (λq:Pn=>decide (q.name=s)) (x::rest) pre.length=if b=true then (pre.length:Int)else iO (λq:Pn=>decide (q.name=s)) rest (pre.length+1):=by rw[E];rfl
  have ih:=F3 s rest (pre++[x]) (by simpa using A) k;have D:(pre.length:Int)<pre.length+(rest.length+1):=by omega
  have I:IntKind.i64.wrap ((pre.length:Int)+1)=pre.length+1:=aE (by unfold aG;simp at A;omega);have J:¬((pre.length:Int)<0):=by omega
  try simp[cE]at H
  rw[ai,key];clear E key;cases b with
  |true=>simp[f241,D,I,J,H,cE]
  |false=>
   simp[f241,cE]at ih⊢;simp[D,I,H,ih,cE]
theorem abk(s:Tx)(l:List Pn)(A:l.length<1000000):ah ctx 241 [.d (.list (l.map cE)),.fn 252 [.ptr 0 0 0]] [.box [.d (.str s)]]=some (.ret (.d (.int .i64 (iO (λq:Pn=>decide (q.name=s)) l 0))),[(0,.box [.d (.str s)])]):=by
 have h:=λk=>F3 s l [] (by simpa using A) k;rw[aeF (by simp)];simp[f241]at h⊢;simp[h];intro h;rcases xk (λq:Pn=>decide (q.name=s)) l 0 with D|D
 ·exact D.symm
 ·omega
end Go.Am
end
section
namespace Go.Am
open Go
section
variable {vs:List Vr}
theorem DE{q:Rr}(f:Mc->Rr)(h:q.1=.on):bR q f=f q.2:=by
 obtain⟨w,s⟩:=q;simp only at h;subst h;rfl
theorem AB{q:Rr}(f:Mc->Rr)(h:q.1≠.on):bR q f=q:=by
 obtain⟨w,s⟩:=q;cases w with
 |on=>exact absurd rfl h
 |_=>rfl
def Jb(m:Nat)(s:Mc):Mc:=⟨s.cells,s.fuel+m⟩
structure Rl(m f:Nat)(q A:Rr):Prop where
 out:q.1=.ft 4->q.2.fuel=0
 more:q.1≠.ft 4->A=(q.1,Jb m q.2)
 le:q.2.fuel<=f
theorem Rl.bind{m f:Nat}{q A:Rr}(h:Rl m f q A){G H:Mc->Rr}(U:∀s,s.fuel<=f->Rl m s.fuel (G s) (H (Jb m s))):Rl m f (bR q G) (bR A H):=by
 by_cases D:q.1=.on
 ·have e:=h.more (by rw[D];simp);have g:=U q.2 h.le;rw[DE G D,e,DE H (by simpa using D)];exact⟨g.out,g.more,ag6 g.le h.le⟩
 ·rw[AB G D];refine⟨h.out,λJ=>?_,h.le⟩;rw[h.more J,AB H (by simpa using D)]
theorem Rl.ret{m:Nat}{s:Mc}{w:Hw}(h:w≠.ft 4):Rl m s.fuel (w,s) (w,Jb m s):=⟨λe=>absurd e h,λ_=>rfl,aai _⟩
theorem Rl.val{m:Nat}{s:Mc}{v:Vl}(V:∀e,v=.f e->e≠4){F F':Int->Rr}(M:∀n,Rl m s.fuel (F n) (F' n)):Rl m s.fuel (vR v s F) (vR v (Jb m s) F'):=by
 cases v with
 |f e=>exact .ret (by simpa using V e rfl)
 |v n t=>exact M n
theorem Rl.step{m:Nat}{s:Mc}{F F':Mc->Rr}(M:∀f,s.fuel=f+1->Rl m f (F ⟨s.cells,f⟩) (F' (Jb m ⟨s.cells,f⟩))):Rl m s.fuel (fL F s) (fL F' (Jb m s)):=by
 unfold fL Jb;by_cases N:s.fuel=0
 ·rw[aap N];exact⟨λ_=>N,λh=>absurd rfl h,aai _⟩
 ·have h:=M (s.fuel-1) (by omega);rw[aah N,aah (by simp only;omega)];simp only at h⊢;rw[show s.fuel+m-1=s.fuel-1+m by omega];exact⟨h.out,h.more,by have:=h.le;omega⟩
theorem Rl.left{m f:Nat}{q A:Rr}(h:Rl m f q A):Rl m f (ia q) (ia A):=by
 unfold ia;by_cases E:q.1=.lv
 ·have e:=h.more (by rw[E];simp);rw[aap E,e,aap (by simpa using E)];exact⟨λhh=>by simp at hh,λ_=>rfl,h.le⟩
 ·rw[aah E];refine⟨h.out,λJ=>?_,h.le⟩;rw[h.more J,aah (by simpa using E)]
theorem Rl.ite{m f:Nat}{c:Prop}[Decidable c]{a b O T:Rr}(Y:Rl m f a O)(Z:Rl m f b T):Rl m f (if c then a else b) (if c then O else T):=by
 by_cases I:c
 ·rw[aap I,aap I];exact Y
 ·rw[aah I,aah I];exact Z
end
mutual
def UG:Sm->Bool
 | .mk op _ _ _ _ _ _ A' _=>decide (op=8)||oE A'
def oF:List Sm->Bool
 |[]=>false
 |x::r=>UG x||oF r
def oE:List (List Sm)->Bool
 |[]=>false
 |b::r=>oF b||oE r
end
section
variable {vs:List Vr}
theorem Jc:∀(a b:List Sm)(s:Mc),b8 vs (a++b) s=bR (b8 vs a s) (λs=>b8 vs b s)
 |[],b,s=>rfl
 |x::a,b,s=>by
  simp only[afK,b8];by_cases h:(iW vs x s).1=.on
  ·rw[DE _ h,DE _ h,Jc a b]
  ·rw[AB _ h,AB _ h,AB _ h]
theorem aar{op:Int}{l:List Int}{t:Bool}{e:Int}(h:rl op l t=.f e):e≠0:=by
 unfold rl at h;split at h
 ·cases h
 ·rename_i AI;cases h;exact AI
theorem afT{C:List Int}{a:Int}{v:Vr}{n e:Int}(h:EK C a v n=.f e):e≠0:=by
 unfold EK at h;split at h
 ·cases h;decide
 ·cases h
mutual
theorem np(C:List Int):∀(x:Ex)(e:Int),cf vs C x=.f e->e≠0
 | .mk op n name field sub line,e,h=>by
  have AJ:=aas C sub;have AK:=UH C sub;rw[cf]at h;by_cases D:op=1
  ·rw[aap D]at h;cases h
  rw[aah D]at h;by_cases E:op=2
  ·rw[aap E]at h;cases h
  rw[aah E]at h;by_cases A0:op=3
  ·rw[aap A0]at h;cases h
  rw[aah A0]at h;by_cases A9:op=4
  ·rw[aap A9]at h;cases I:DD vs C sub with
   |f e'=>rw[I]at h;cases h;exact AJ _ I
   |v k t=>rw[I]at h;exact afT h
  rw[aah A9]at h;by_cases AA:op=5
  ·rw[aap AA]at h;cases h
  rw[aah AA]at h;cases I:(pD vs C sub false).2 with
  |f e'=>rw[I]at h;cases h;exact AK _ _ I
  |v k t=>rw[I]at h;exact aar h
theorem aas(C:List Int):∀(l:List Ex)(e:Int),DD vs C l=.f e->e≠0
 |[],e,h=>by simp only[DD]at h;cases h;decide
 |x::r,e,h=>by
  simp only[DD]at h;exact np C x e h
theorem UH(C:List Int):∀(l:List Ex)(t:Bool)(e:Int),(pD vs C l t).2=.f e->e≠0
 |[],t,e,h=>by simp[pD]at h
 |x::r,t,e,h=>by
  rw[UF]at h;cases I:cf vs C x with
  |f e'=>rw[I]at h;cases h;exact np C x _ I
  |v k AL=>rw[I]at h;exact UH C r AL e h
end
def Qh(lp:Bool)(q:Rr):Prop:=q.1≠.rt/\(lp=false->q.1≠.lv)/\q.1≠.ft 0
theorem Qh.on{lp:Bool}{s:Mc}:Qh lp (.on,s):=⟨by simp,λ_=>by simp,by simp⟩
theorem Qh.ft{lp:Bool}{e:Int}{s:Mc}(h:e≠0):Qh lp (.ft e,s):=⟨by simp,λ_=>by simp,by simpa using h⟩
theorem Qh.bind{lp:Bool}{q:Rr}(h:Qh lp q){G:Mc->Rr}(AM:∀s,Qh lp (G s)):Qh lp (bR q G):=by
 by_cases AC:q.1=.on
 ·rw[DE G AC];exact AM _
 ·rw[AB G AC];exact h
theorem Qh.val{lp:Bool}{v:Vl}{s:Mc}{F:Int->Rr}(A1:∀e,v=.f e->e≠0)(A3:∀n,Qh lp (F n)):Qh lp (vR v s F):=by
 cases v with
 |f e=>exact .ft (A1 e rfl)
 |v n t=>exact A3 n
theorem Qh.step{lp:Bool}{s:Mc}{F:Mc->Rr}(A3:∀s,Qh lp (F s)):Qh lp (fL F s):=by
 unfold fL;split
 ·exact .ft (by decide)
 ·exact A3 _
theorem Qh.ite{lp:Bool}{c:Prop}[Decidable c]{a b:Rr}(D:Qh lp a)(E:Qh lp b):Qh lp (if c then a else b):=by
 split
 ·exact D
 ·exact E
theorem Qh.left{lp AN:Bool}{q:Rr}(h:Qh lp q):Qh AN (ia q):=by
 unfold ia;by_cases A4:q.1=.lv
 ·rw[aap A4];exact .on
 ·rw[aah A4];exact⟨h.1,λ_=>A4,h.2.2⟩
theorem aat{lp:Bool}{c:List Int->Vl}{b:Mc->Rr}(V:∀C e,c C=.f e->e≠0)(J:∀s,Qh lp (b s)):∀(n:Nat)(s:Mc),Qh lp (vI c b n s)
 |0,s=>.ft (by decide)
 |n+1,s=>by unfold vI;exact .step λs=>.val (V _) λk=>.ite .on ((J s).bind λU=>aat V J n U)
theorem aau{lp:Bool}{c:List Int->Vl}{b:Mc->Rr}(V:∀C e,c C=.f e->e≠0)(J:∀s,Qh lp (b s)):∀(n:Nat)(s:Mc),Qh lp (vJ c b n s)
 |0,s=>.ft (by decide)
 |n+1,s=>by unfold vJ;exact (J s).bind λU=>.step λs=>.val (V _) λk=>.ite (aau V J n s) .on
theorem aav{lp:Bool}{at_ to AO:Int}{b:Mc->Rr}(J:∀s,Qh lp (b s)):∀(n:Nat)(s:Mc),Qh lp (xU at_ to AO b n s)
 |0,s=>.ft (by decide)
 |n+1,s=>by unfold xU;exact .step λs=>.ite .on ((J s).bind λU=>.val (λe he=>aar he) λk=>aav J n _)
theorem ajL{lp:Bool}{to val:Ex}{s:Mc}:Qh lp (tc vs to val s):=by
 unfold tc EM;exact .ite (.val (np _ _) λn=>.on) (.val (aas _ _) λk=>.val (np _ _) λn=>.ite (.ft (by decide)) .on)
theorem aaw{lp:Bool}(name:Tx):∀(A2:List Tx)(xs:List Ex)(s:Mc),Qh lp (kf vs name A2 xs s)
 |[],xs,s=>by cases xs<;>exact .on
 |f::A2,[],s=>.on
 |f::A2,x::xs,s=>by unfold kf;exact .val (np _ _) λn=>aaw name A2 xs _
theorem afU{lp:Bool}{name:Tx}{Y:List Ex}{b:Mc->Rr}(J:∀s,Qh lp (b s))(s:Mc):Qh lp (zL vs name Y b s):=by
 unfold zL;split
 ·exact .val (np _ _) λ_=>.val (np _ _) λ_=>.val (np _ _) λ_=>aav J _ _
 ·exact .on
mutual
theorem ajM(lp:Bool):∀x:Sm,nu x=true->(zH vs lp x).1=0->UG x=false->∀s,Qh lp (iW vs x s)
 | .mk op name to val Y AP fields A' line,A,h,H,s=>by
  have O:=NA A h;have AD:=UI A';have A5:=ajN A';simp only[UG,akp,ac7]at H;obtain⟨AQ,Z⟩:=H;rw[iW];refine .step λs=>?_;cases O with
  |asg T A1 AR ft AW A6 AX h=>exact ajL
  |cnd T A7 AS D E A0 M O=>exact AD.1 lp Y M O Z s
  |cas T A6 AE E A0 AY M O=>exact .val (v:=cf vs s.cells val) (np _ _) λn=>AD.2 lp n AP M O Z s
  |cnt AT T A7 A1 AR AZ AU A_ Aa Ab Ac Ad Ae M y=>exact (afU (A5 (by simp[dL,M]) (by simpa [s8]using y) Z) s).left
  |whl T A6 AE M y=>exact (aat (λC=>np C val) (A5 (by simp[dL,M]) (by simpa [s8]using y) Z) _ s).left
  |rep T A6 AE M y=>exact (aau (λC=>np C val) (A5 (by simp[dL,M]) (by simpa [s8]using y) Z) _ s).left
  |ext T A7 AV=>exact (show Qh lp (Hw.lv,s)from ⟨by simp,λ(hh:lp=false)=>(by rw[AV]at hh;cases hh),by simp⟩)
  |ret=>exact absurd rfl AQ
  |cal AT T A7 A1 AU AS Af Ag h=>
   show Qh lp (oD vs name fields Y s);unfold oD;exact (aaw name fields Y s).bind λU=>.on
theorem DG(lp:Bool):∀l:List Sm,ej l=true->(dW vs lp l).1=0->oF l=false->∀s,Qh lp (b8 vs l s)
 |[],_,_,_,s=>.on
 |x::r,A,h,H,s=>by
  simp only[ej,Ds]at A;simp only[oF,akp]at H;obtain⟨D,E⟩:=ee.1 h;rw[b8];exact (ajM lp x A.1 D H.1 s).bind λU=>DG lp r A.2 E H.2 U
theorem UI:∀l:List (List Sm),(∀(lp:Bool)(cs:List Ex),dL l=true->(fJ vs lp cs l).1=0->oE l=false->∀s,Qh lp (gQ vs l cs s))/\
 (∀(lp:Bool)(n:Int)(ls:List (List Int)),dL l=true->(fJ vs lp [] l).1=0->oE l=false->∀s,Qh lp (gR vs l n ls s))
 |[]=>⟨λlp cs _ _ _ s=>by unfold gQ;exact .on,λlp n ls _ _ _ s=>by unfold gR;exact .on⟩
 |b::r=>by
  have H:=UI r;have hm:=λlp=>DG lp b;refine⟨λlp cs A h N s=>?_,λlp n ls A h N s=>?_⟩
  ·simp only[dL,Ds]at A;simp only[oE,akp]at N;cases cs with
   |nil=>
    simp only[fJ]at h;obtain⟨D,E⟩:=ee.1 h;unfold gQ;exact hm lp A.1 D N.1 s
   |cons c cs=>
    simp only[fJ]at h;obtain⟨_,h⟩:=ee.1 h;obtain⟨D,E⟩:=ee.1 h;unfold gQ;exact .val (np _ _) λn=>.ite (H.1 lp cs A.2 E N.2 s) (hm lp A.1 D N.1 s)
  ·simp only[dL,Ds]at A;simp only[oE,akp]at N;simp only[fJ]at h;obtain⟨D,E⟩:=ee.1 h;cases ls with
   |nil=>unfold gR;exact hm lp A.1 D N.1 s
   |cons l ls=>unfold gR;exact .ite (hm lp A.1 D N.1 s) (H.2 lp n ls A.2 E N.2 s)
theorem ajN:∀l:List (List Sm),dL l=true->(s8 vs l).1=0->oE l=false->∀s,Qh true (kS vs l s)
 |[],_,_,_,s=>.on
 |b::r,A,h,H,s=>by
  simp only[dL,Ds]at A;simp only[oE,akp]at H;exact DG true b A.1 h H.1 s
end
end
theorem zM:∀a b:List Sm,ej (a++b)=true->ej a=true
 |[],b,_=>rfl
 |x::a,b,h=>by
  simp only[afK,ej,Ds]at h⊢;exact⟨h.1,zM a b h.2⟩
theorem B6{vs:List Vr}{lp:Bool}:∀a b:List Sm,(dW vs lp (a++b)).1=0->(dW vs lp a).1=0
 |[],b,_=>rfl
 |x::a,b,h=>by
  simp only[afK,dW]at h⊢;obtain⟨D,E⟩:=ee.1 h;exact ee.2 ⟨D,B6 a b E⟩
theorem Q1{p:Pg}(A:mG p=true)(O:(lY p).1=0){a b:List Sm}(AF:p.body=a++b)(H:oF a=false)(C:List Int)(fuel:Nat):
 if (gi ⟨p.name,p.vars,a⟩ C fuel).2.1≠0 then gi p C fuel=gi ⟨p.name,p.vars,a⟩ C fuel
 else gi p C fuel=gi ⟨p.name,p.vars,b⟩ (gi ⟨p.name,p.vars,a⟩ C fuel).1 (gi ⟨p.name,p.vars,a⟩ C fuel).2.2:=by
 simp only[mG,Ds]at A;unfold lY at O;have AG:=A.2.2.2;have AH:=(ee.1 O).2;rw[AF]at AG AH;have A8:=DG false a (zM a b AG) (B6 a b AH) H ⟨C,fuel⟩;unfold gi;rw[AF,Jc];simp only
 generalize b8 p.vars a ⟨C,fuel⟩=q at*;obtain⟨w,s⟩:=q;cases w with
 |on=>simp[bR]
 |lv=>exact absurd rfl (A8.2.1 rfl)
 |rt=>exact absurd rfl A8.1
 |ft e=>
  by_cases he:e=0
  ·subst he;exact absurd rfl A8.2.2
  ·simp[bR,he]
theorem ajO(b:Int):pnN b=nk b:=by
 unfold pnN;by_cases H:b∈ka
 ·simp only[ka,aan,acX,akI]at H;rcases H with rfl|rfl|rfl|rfl|rfl|rfl|rfl|rfl|rfl|rfl|rfl|rfl|rfl|rfl|rfl|rfl|rfl|rfl|rfl|rfl|rfl<;>decide
 ·rw[xh H];simp[ka]at H;unfold nk;simp[H]
inductive te(L:List aU):Ms->Ms->Prop
 |refl (s:Ms):te L s s
 |step (s:Ms) (x:aU) (t:Ms) (M:s.fault=0) (A:L[s.at_.toNat]?=some x) (h:x.op≠15) (A2:te L (PH x s) t):te L s t
section
variable {L:List aU}
theorem te.trans{a b c:Ms}(N:te L a b)(E:te L b c):te L a c:=by
 induction N with
 |refl=>exact E
 |step s x t M A h _ ih=>exact .step _ _ _ M A h (ih E)
end
def mS(K S:List Int)(p f:Nat):Ms:=⟨K,S,p,f,0⟩
theorem te.one{L:List aU}{K S:List Int}{p f:Nat}{x:aU}{t:Ms}(A:L[p]?=some x)(h:x.op≠15)(A0:PH x (mS K S p f)=t):te L (mS K S p f) t:=
 .step _ x _ rfl (by simpa [mS]using A) h (A0▸.refl _)
section
variable {K S:List Int} {p f:Nat}
end
def uh(n X R:Nat)(x:aU):aU:=if x.op=9\/x.op=10 then {x with a:=if 0<=x.a then x.a+n else if x.op=9/\x.a= -1 then X else R} else x
def gj(L:List aU)(n X R:Nat)(l:List aU):Prop:=∀(i:Nat)(x:aU),l[i]?=some x->L[n+i]?=some (uh n X R x)
theorem DH{n X R:Nat}{x:aU}(h:x.op≠9/\x.op≠10):uh n X R x=x:=by unfold uh;rw[aah (by omega)]
theorem afV(n X R k:Nat)(x:aU):uh n X R (oB k x)=uh (n+k) X R x:=by
 obtain⟨op,a,b,c,d⟩:=x;unfold uh oB;by_cases h:op=9\/op=10
 ·by_cases M:0<=a
  ·simp only[h,M,and_self,adI,aU.mk.injEq,true_and,and_true];rw[aap (by omega)];omega
  ·simp only[h,M,and_false,acF,adI]
 ·simp only[h,false_and,acF]
theorem abl(n X R k:Nat)(x:aU):uh n X R (Ny k x)=uh n (n+k) R x:=by
 obtain⟨op,a,b,c,d⟩:=x;unfold uh Ny;by_cases h:op=9/\a= -1
 ·obtain⟨rfl,rfl⟩:=h;simp;omega
 ·rw[aah h];by_cases E:op=9\/op=10
  ·simp only[E,adI,h,acF]
  ·simp only[E,acF]
section
variable {L:List aU} {n X R:Nat}
theorem gj.left{a b:List aU}(h:gj L n X R (a++b)):gj L n X R a:=λi x A=>h i x (by
 rw[aaq (aaf.1 A).1];exact A)
theorem gj.right{a b:List aU}(h:gj L n X R (a++b))(i:Nat)(x:aU)(A:b[i]?=some x):L[n+a.length+i]?=some (uh n X R x):=by
 have:=h (a.length+i) x (by rw[aaF (by omega)];rw[show a.length+i-a.length=i by omega];exact A);rw[show n+a.length+i=n+(a.length+i) by omega];exact this
theorem gj.flat{a b:List aU}(h:gj L n X R (a++b))(H:Flat b):gj L (n+a.length) X R b:=λi x A=>by
 have hm:=H x (aao A);rw[h.right i x A,DH hm,DH hm]
theorem gj.jn1{a b:List aU}(h:gj L n X R (jn a b)):gj L n X R a:=gj.left h
theorem gj.jn2{a b:List aU}(h:gj L n X R (jn a b)):gj L (n+a.length) X R b:=λi x A=>by
 have:=gj.right h i (oB a.length x) (by unfold oW;rw[acj,A];rfl);rw[this,afV]
theorem gj.out{l:List aU}(h:gj L n X R (EI l)):gj L n (n+l.length) R l:=λi x A=>by
 have:=h i (Ny l.length x) (by unfold EI;rw[acj,A];rfl);rw[this,abl]
theorem gj.tail{x:aU}{l:List aU}(h:gj L n X R (x::l))(A1:Flat l):gj L (n+1) X R l:=λi y U=>by
 have hm:=A1 y (aao U);have:=h (i+1) y (by simpa using U);rw[DH hm]at this⊢;rw[show n+1+i=n+(i+1) by omega];exact this
theorem gj.last{a:List aU}{x:aU}(h:gj L n X R (a++[x]))(A:x.op≠9/\x.op≠10):L[n+a.length]?=some x:=by
 have:=h.right 0 x rfl;rw[DH A]at this;exact this
theorem ajP{a:Int}{k:Nat}(h:a=k):uh n X R (ins 9 a 0 0 0)=ins 9 ((n+k:Nat)) 0 0 0:=by
 subst h;simp[uh,ins];omega
theorem afW{a:Int}{k:Nat}(h:a=k):uh n X R (ins 10 a 0 0 0)=ins 10 ((n+k:Nat)) 0 0 0:=by
 subst h;simp[uh,ins];omega
theorem gj.ch{t b:List aU}{D r:List (List aU)}{pl:Nat}(T:pl=if r=[]then b.length else b.length+1)(h:gj L n X R (lB (t::D) (b::r))):
 gj L n X R t/\L[n+t.length]?=some (ins 10 ((n+(t.length+1+pl):Nat)) 0 0 0)/\gj L (n+(t.length+1)) X R b/\
 (r≠[]->L[n+(t.length+1+b.length)]?=some (ins 9 ((n+(t.length+1+pl+(lB D r).length):Nat)) 0 0 0))/\gj L (n+(t.length+1+pl)) X R (lB D r)/\
 (lB (t::D) (b::r)).length=t.length+1+pl+(lB D r).length:=by
 have e:lB (t::D) (b::r)=jn (jn (t++[ins 10 ((t.length:Int)+1+(if r=[]then b else b++[ins 9 ((b.length:Int)+1+(lB D r).length) 0 0 0]).length) 0 0 0]) (if r=[]then b else b++[ins 9 ((b.length:Int)+1+(lB D r).length) 0 0 0])) (lB D r):=by
  rw[lB];simp[jn]
 rw[e]at h⊢;have V:(if r=[]then b else b++[ins 9 ((b.length:Int)+1+(lB D r).length) 0 0 0]).length=pl:=by
  rw[T];split<;>simp
 generalize I:(if r=[]then b else b++[ins 9 ((b.length:Int)+1+(lB D r).length) 0 0 0])=q at h V⊢;have N:=h.jn1;have E:=h.jn2;have Y:=N.jn1;have J:=N.jn2;have Z:=Y.right 0 _ rfl;rw[afW (k:=t.length+1+pl) (by omega)]at Z;simp only[Ut,ab0,ab1,ae8,V]at E J⊢;refine⟨Y.left,Z,?_,λO=>?_,?_,?_⟩;rotate_right
 ·first|trivial|omega
 ·by_cases O:r=[]
  ·rw[aap O]at I;rw[I];exact J
  ·rw[aah O]at I;rw[<-I]at J;exact J.left
 ·rw[aah O]at I T;rw[<-I]at J;have A':=J.right 0 _ rfl;rw[ajP (k:=b.length+1+(lB D r).length) (by omega)]at A';rw[show n+(t.length+1+b.length)=n+(t.length+(0+1))+b.length+0 by omega,A',T];congr 3;omega
 ·rw[show n+(t.length+1+pl)=n+(t.length+(0+1)+pl) by omega];exact E
end
@[simp] theorem aqE{C:List Int}{k n:Int}:(ek C k n).length=C.length:=by simp[ek]
def Got(L:List aU)(K S:List Int)(p f:Nat)(q:Vl)(e:Nat):Prop:=
 match q with
 | .v k _=>te L (mS K S p f) (mS K (S++[k]) e f)
 | .f A=>∃t,te L (mS K S p f) t/\t.cells=K/\t.fuel=f/\t.fault=A
section
variable {vs:List Vr}
theorem NK(C:List Int)(k line:Int):cf vs C (.mk 1 k [] [] [] line)=.v k false:=by simp[cf]
theorem NL(C:List Int)(k line:Int):cf vs C (.mk 2 k [] [] [] line)=.v k true:=by simp[cf]
theorem NM(C:List Int)(name:Tx)(line:Int):cf vs C (.mk 3 0 name [] [] line)=.v (DC C (dw vs name).1 (dw vs name).2.ty) (decide ((dw vs name).2.ty=2)):=by simp[cf]
theorem NN(C:List Int)(name:Tx)(y:Ex)(line:Int):cf vs C (.mk 4 0 name [] [y] line)=vV (cf vs C y) λk=>EK C (dw vs name).1 (dw vs name).2 k:=by simp[cf,DD]
theorem NO(C:List Int)(name field:Tx)(line:Int):cf vs C (.mk 5 0 name field [] line)=.v (DC C (kK vs name field).1 (kK vs name field).2.ty) (decide ((kK vs name field).2.ty=2)):=by simp[cf]
theorem NP(C:List Int)(op line:Int)(y:Ex)(E:6<=op):cf vs C (.mk op 0 [] [] [y] line)=(match cf vs C y with| .f e=>.f e| .v a t=>rl op [a] t):=by
 rw[cf];rw[aah (by omega),aah (by omega),aah (by omega),aah (by omega),aah (by omega)];cases h:cf vs C y<;>simp[pD,h]
theorem NQ(C:List Int)(op line:Int)(y z:Ex)(E:6<=op):cf vs C (.mk op 0 [] [] [y,z] line)=(match cf vs C y with| .f e=>.f e| .v a _=>(match cf vs C z with| .f e=>.f e| .v b t=>rl op [a,b] t)):=by
 rw[cf];rw[aah (by omega),aah (by omega),aah (by omega),aah (by omega),aah (by omega)];cases h:cf vs C y<;>cases H:cf vs C z<;>simp[pD,h,H]
end
theorem Got.fault{L:List aU}{K S:List Int}{p f:Nat}{A:Int}{e e':Nat}(h:Got L K S p f (.f A) e):Got L K S p f (.f A) e':=h
section
variable {vs:List Vr} {L:List aU} {v:Nat} (D:∀w∈vs,dB w=true) (I:(v:Int)=dX vs)
include D I
theorem W2{a:Int}(h:ni v a 1=true):a.toNat<v/\0<=a:=by
 unfold ni at h;simp only[Ds,aam]at h;omega
theorem UJ{name:Tx}{w:Vr}(hw:bu vs name=some w)(J:w.arr=true){k:Int}(M:¬(k<w.lo\/w.hi<k)):((dw vs name).1+(k-w.lo)).toNat<v/\0<=(dw vs name).1+(k-w.lo):=by
 have h:=abf (cells:=v) D (by omega) hw J;unfold Pz ni ins at h;simp only[Ds,aam]at h;omega
end
end Go.Am
end
section
namespace Go.Am
open Go Go.Proofs Go.Proofs.Tryz
variable [Inhabited bA]
set_option maxRecDepth 20000
@[simp] def okZ(p:Int×Bool):AV:=.bM [.d (.int .i64 p.1),.d (.bool p.2)]
@[simp] def afY(p:Int×Int):AV:=.bM [.d (.int .i64 p.1),.d (.int .i64 p.2)]
theorem W3(a b:Int)(E:aG a)(V:aG b):ah ctx 244 [.d (.int .i64 a),.d (.int .i64 b)] []=some (.ret (okZ (kG (a+b))),[]):=by
 have hw:IntKind.i64.wrap (a+b)=(a+b+9223372036854775808)%18446744073709551616-9223372036854775808:=IntKind.wrap_i64 _;unfold aG at E V;rw[aeH (by simp)];unfold kG;by_cases D:0<=a<;>by_cases A:0<=b<;>by_cases O:0<=IntKind.i64.wrap (a+b)<;>by_cases N:(-9223372036854775808<=a+b/\a+b<=9223372036854775807)<;>
  first
  |(exfalso;omega)
  |(simp[f244,D,A,O,N];try omega)
theorem Jg(a b:Int)(E:aG a)(V:aG b):ah ctx 243 [.d (.int .i64 a),.d (.int .i64 b)] []=some (.ret (okZ (kG (a-b))),[]):=by
 have hw:IntKind.i64.wrap (a-b)=(a-b+9223372036854775808)%18446744073709551616-9223372036854775808:=IntKind.wrap_i64 _;unfold aG at E V;rw[aeG (by simp)];unfold kG;by_cases D:0<=a<;>by_cases A:0<=b<;>by_cases O:0<=IntKind.i64.wrap (a-b)<;>by_cases N:(-9223372036854775808<=a-b/\a-b<=9223372036854775807)<;>
  first
  |(exfalso;omega)
  |(simp[f243,D,A,O,N];try omega)
theorem F4(a:Int)(E:aG a):ah ctx 277 [.d (.int .i64 a)] []=some (.ret (.d (.int .u64 (a.natAbs:Nat))),[]):=by
 unfold aG at E;rw[aeR (by simp)];have D:=IntKind.wrap_u64 a;by_cases h:a<0
 ·have A:IntKind.u64.wrap (-IntKind.u64.wrap a)=(a.natAbs:Nat):=by rw[D,IntKind.wrap_u64];omega
  simp[f277,h,A]
 ·have A:IntKind.u64.wrap a=(a.natAbs:Nat):=by rw[D];omega
  simp[f277,h,A]
theorem Ko(n:Nat)(Ao:n<18446744073709551616)(s:Bool):ah ctx 278 [.d (.int .u64 n),.d (.bool s)] []=some (.ret (okZ (kG (if s=true then-(n:Int)else n))),[]):=by
 rw[aeS (by simp)];have D:=IntKind.wrap_i64 (n:Int);unfold kG;cases s
 ·by_cases h:n<=9223372036854775807
  ·have A:(n:Int)<=9223372036854775807:=by omega
   have O:IntKind.i64.wrap (n:Int)=n:=by rw[D];omega
   have N: -9223372036854775808<=(n:Int):=by omega
   simp[f278,A,O,N]
  ·have A:¬(n:Int)<=9223372036854775807:=by omega
   simp[f278,A]
 ·by_cases h:n<=9223372036854775808
  ·have A:(n:Int)<=9223372036854775808:=by omega
   have O:IntKind.i64.wrap (-(IntKind.i64.wrap (n:Int)))= -(n:Int):=by rw[D,IntKind.wrap_i64];omega
   have N: -9223372036854775808<= -(n:Int):=by omega
   have AZ: -(n:Int)<=9223372036854775807:=by omega
   simp[f278,A,O,N,AZ]
  ·have A:¬(n:Int)<=9223372036854775808:=by omega
   have N:¬ -9223372036854775808<= -(n:Int):=by omega
   simp[f278,A,N]
def xr(k:IntKind)(a b:Int):Int:=k.wrap (BitVec.ofInt k.bits a &&& BitVec.ofInt k.bits b).toNat
def Jh(k:IntKind)(a b:Int):Int:=k.wrap (BitVec.ofInt k.bits a ||| BitVec.ofInt k.bits b).toNat
theorem DI(k:IntKind)(a b:Int):ew .and k a b=some (true,.int k (xr k a b)):=rfl
theorem UK(k:IntKind)(a b:Int):ew .or k a b=some (true,.int k (Jh k a b)):=rfl
theorem ajQ(a:Nat)(E:a<18446744073709551616):xr .u64 (a:Int) 4294967295=((a%4294967296:Nat):Int):=by
 show IntKind.u64.wrap (BitVec.ofInt 64 (a:Int) &&& BitVec.ofInt 64 4294967295).toNat=_;have e:(BitVec.ofInt 64 (a:Int) &&& BitVec.ofInt 64 4294967295).toNat=a%4294967296:=by
  rw[BitVec.toNat_and,BitVec.toNat_ofInt,BitVec.toNat_ofInt];have A_:((a:Int)%((2^64:Nat):Int)).toNat=a:=by omega
  have Aa:((4294967295:Int)%((2^64:Nat):Int)).toNat=4294967295:=by decide
  rw[A_,Aa];exact Nat.and_two_pow_sub_one_eq_mod a 32
 rw[e,IntKind.wrap_u64];omega
theorem UL(x y:Nat)(A4:x<18446744073709551616)(A5:y<18446744073709551616):
 ah ctx 276 [.d (.int .u64 x),.d (.int .u64 y)] []=some (.ret (.bM [.d (.int .u64 (x*y/18446744073709551616:Nat)),.d (.int .u64 (x*y%18446744073709551616:Nat))]),[]):=by
 have A6:∀a:Nat,a<18446744073709551616->xr .u64 (a:Int) 4294967295=((a%4294967296:Nat):Int):=λa E=>ajQ a E;have Z:∀a:Nat,(a:Int).fdiv 4294967296=((a/4294967296:Nat):Int):=λa=>by rw[Int.fdiv_eq_ediv_of_nonneg _ (by decide)];omega
 have mul':∀a b:Nat,(a:Int)*(b:Int)=((a*b:Nat):Int):=λa b=>(Int.natCast_mul a b).symm;have A1:∀a b:Nat,(a:Int)+(b:Int)=((a+b:Nat):Int):=λa b=>(Int.natCast_add a b).symm;have T:∀a:Nat,a<18446744073709551616->IntKind.u64.wrap (a:Int)=(a:Int):=λa h=>by rw[IntKind.wrap_u64];omega
 have AJ:∀a:Nat,IntKind.u64.wrap (a:Int)=((a%18446744073709551616:Nat):Int):=λa=>by rw[IntKind.wrap_u64];omega
 obtain⟨A2,A',A0,U⟩:=Lib.mul64_hi x y A4 A5;have A7:=Lib.half_mul_le (a:=x/4294967296) (b:=y/4294967296) (by omega) (by omega);have A8:=Lib.half_mul_le (a:=x/4294967296) (b:=y%4294967296) (by omega) (by omega);have A9:=Lib.half_mul_le (a:=x%4294967296) (b:=y/4294967296) (by omega) (by omega);have AK:=A6 x A4;have AL:=A6 y A5;have f1:=Z x;have f2:=Z y;have Ab:x%4294967296<4294967296:=by omega
 have Ac:x/4294967296<4294967296:=by omega
 have Ad:y%4294967296<4294967296:=by omega
 have Ae:y/4294967296<4294967296:=by omega
 have AM:IntKind.u64.wrap ((x:Int)*(y:Int))=((x*y%18446744073709551616:Nat):Int):=by rw[mul',AJ]
 have AN:x*y/18446744073709551616<18446744073709551616:=by
  have:x*y<18446744073709551616*18446744073709551616:=Nat.mul_lt_mul_of_lt_of_lt A4 A5;omega
 generalize x*y%18446744073709551616=lo at AM⊢;generalize x*y/18446744073709551616=hi at U AN⊢;generalize x%4294967296=H at A2 A' A0 U A7 A8 A9 AK Ab;generalize x/4294967296=I at A2 A' A0 U A7 A8 A9 f1 Ac;generalize y%4294967296=J at A2 A' A0 U A7 A8 A9 AL Ad;generalize y/4294967296=M at A2 A' A0 U A7 A8 A9 f2 Ae;generalize AO:I*J+H*J/4294967296=t at A' A0 U;generalize AP:t%4294967296+H*M=AA at A0 U;have AQ:IntKind.u64.wrap ((H:Int)*(J:Int))=((H*J:Nat):Int):=by rw[mul',T _ A2]
 have AR:IntKind.u64.wrap ((I:Int)*(J:Int))=((I*J:Nat):Int):=by rw[mul',T _ (by omega)]
 have AD:IntKind.u64.wrap (((I*J:Nat):Int)+((H*J/4294967296:Nat):Int))=(t:Int):=by rw[A1,AO,T _ A']
 have AS:IntKind.u64.wrap ((H:Int)*(M:Int))=((H*M:Nat):Int):=by rw[mul',T _ (by omega)]
 have AE:IntKind.u64.wrap (((t%4294967296:Nat):Int)+((H*M:Nat):Int))=(AA:Int):=by rw[A1,AP,T _ A0]
 have AT:IntKind.u64.wrap ((I:Int)*(M:Int))=((I*M:Nat):Int):=by rw[mul',T _ (by omega)]
 have AB:IntKind.u64.wrap (((I*M:Nat):Int)+((t/4294967296:Nat):Int))=((I*M+t/4294967296:Nat):Int):=by rw[A1,T _ (by omega)]
 have AC:IntKind.u64.wrap (((I*M+t/4294967296:Nat):Int)+((AA/4294967296:Nat):Int))=(hi:Int):=by rw[A1,U,T _ AN]
 have Af:=λa=>Z a;have mt:=A6 t A';rw[aeQ (by simp)];have f3:=Z t;have f4:=Z AA;have f5:=Z (H*J);clear Af A6 Z A1 T AJ AO AP U;generalize Ap:H*J/4294967296=Aq at AD f5;generalize Ar:H*J=As at AQ f5;generalize At:I*J=Au at AR AD;generalize Av:H*M=Aw at AS AE;generalize Ax:t/4294967296=Ag at AB AC f3;generalize Ay:t%4294967296=Az at AE mt;generalize B':AA/4294967296=wd at AC f4;generalize B0:I*M+Ag=B1 at AB AC;generalize B2:I*M=B3 at AT AB;simp[f276, -ew.eq_6,DI,Bq,IntKind.bits,AK,AL,f1,f2,f3,f4,f5,mt,AQ,AR,AD,AS,AE,AT,AB,AC,AM]
theorem W4(a b:Int)(E:aG a)(V:aG b):ah ctx 245 [.d (.int .i64 a),.d (.int .i64 b)] []=some (.ret (okZ (kG (a*b))),[]):=by
 have AU:=F4 a E;have AW:=F4 b V;unfold aG at E V;have Ah:a.natAbs<18446744073709551616:=by omega
 have Ai:b.natAbs<18446744073709551616:=by omega
 have hm:=UL _ _ Ah Ai;have AX:=aa6 a b;have AY:=λs=>Ko (a.natAbs*b.natAbs%18446744073709551616) (by omega) s;generalize A4:a.natAbs=x at*;generalize A5:b.natAbs=y at*;have mul':((x*y:Nat):Int)=(x:Int)*(y:Int):=Int.natCast_mul x y;generalize x*y=p at*;have A3:(a<0↔b<0)=(decide (a<0)=decide (b<0)):=by simp
 rw[aeI (by simp)];have AF:¬p/18446744073709551616=0->kG (a*b)=(0,false):=by
  intro h;unfold kG;rw[aah];rw[AX];split<;>omega
 by_cases AG:p/18446744073709551616=0
 ·have Aj:p%18446744073709551616=p:=by omega
  rw[Aj]at AY hm;rw[AG]at hm;have e:(if (decide (a<0) != decide (b<0))=true then-(p:Int)else (p:Int))=a*b:=by
   rw[AX];by_cases h:decide (a<0)=decide (b<0)<;>simp[h]
  have AH:=AY (decide (a<0) != decide (b<0));rw[e]at AH;try simp at hm
  try simp at AH
  simp[f245,AU,AW,hm,AH]
 ·have AF:=AF AG;have Ak:¬((p/18446744073709551616:Nat):Int)=0:=by omega
  generalize p/18446744073709551616=q at*;generalize p%18446744073709551616=r at*;try simp at hm
  simp[f245,AU,AW,hm,AF,AG,Ak]
theorem W5(a b:Int)(E:aG a)(V:aG b):ah ctx 246 [.d (.int .i64 a),.d (.int .i64 b)] []=some (.ret (afY (Es a b)),[]):=by
 rw[aeJ (by simp)];unfold Es;by_cases Y:b=0
 ·simp[f246,Y]
 ·by_cases D:a= -9223372036854775808
  ·by_cases A:b= -1
   ·simp[f246,Y,D,A]
   ·have w:IntKind.i64.wrap (a.tdiv b)=a.tdiv b:=aE (by
     have AI:=BT a b;unfold aG at*;have hle:a.natAbs/b.natAbs<=9223372036854775808:=by
      have:=Nat.div_le_self a.natAbs b.natAbs;omega
     have Al:decide (a<0)=decide (b<0)->a.natAbs/b.natAbs<=4611686018427387904:=by
      intro A3;rw[D]at A3;simp at A3;have An:2<=b.natAbs:=by omega
      have O:=Nat.div_le_div_left An (by decide) (a:=a.natAbs);have N:a.natAbs=9223372036854775808:=by omega
      rw[N]at O⊢;exact O
     generalize a.natAbs/b.natAbs=q at*;split at AI
     ·rename_i A3;have:=Al A3;omega
     ·omega)
    rw[D]at w;simp at w;simp[f246,Y,D,A,w]
  ·have w:IntKind.i64.wrap (a.tdiv b)=a.tdiv b:=aE (by
    have AI:=BT a b;unfold aG at*;have hle:a.natAbs/b.natAbs<=a.natAbs:=Nat.div_le_self _ _;generalize a.natAbs/b.natAbs=q at*;split at AI<;>omega)
   simp[f246,Y,D,w]
theorem W6(a b:Int)(E:aG a)(V:aG b):ah ctx 247 [.d (.int .i64 a),.d (.int .i64 b)] []=some (.ret (afY (Et a b)),[]):=by
 rw[aeK (by simp)];unfold Et;by_cases Y:b=0
 ·simp[f247,Y]
 ·by_cases A:b= -1
  ·simp[f247,Y,A]
  ·simp[f247,Y,A]
theorem DJ(b:Bool):ah ctx 167 [.d (.bool b)] []=some (.ret (.d (.int .i64 (dG b))),[]):=by
 rw[ael (by simp)];cases b<;>simp[f167,dG]
@[simp] theorem wr0:IntKind.i64.wrap 0=0:=rfl
@[simp] theorem wr1:IntKind.i64.wrap 1=1:=rfl
@[simp] theorem wr2:IntKind.i64.wrap 2=2:=rfl
@[simp] theorem wr3:IntKind.i64.wrap 3=3:=rfl
@[simp] theorem wr4:IntKind.i64.wrap 4=4:=rfl
@[simp] theorem azI:IntKind.i64.wrap (-1)= -1:=rfl
@[simp] theorem wu0:IntKind.u64.wrap 0=0:=rfl
@[simp] theorem wu1:IntKind.u64.wrap 1=1:=rfl
theorem UM(op a:Int)(t:Bool)(A:aG a)(V:t=true->a=0\/a=1):ah ctx 191 [.d (.int .i64 op),.d (.int .i64 a),.d (.bool t)] []=some (.ret (A6 (oo op a t)),[]):=by
 have T:=Jg 0 a (by unfold aG;omega) A;rw[aeo (by simp)];unfold oo;generalize kG (0-a)=p at*;cases t
 ·by_cases U:op=6
  ·simp at T;cases D:p.2<;>simp[f191,U,D,T,uN]
  ·simp[f191,U,j9]
 ·rcases V rfl with rfl|rfl<;>by_cases J:op=7
  ·simp[f191,J,dG,wr0,wr1]
  ·simp[f191,J,j9]
  ·simp[f191,J,dG,wr0,wr1]
  ·simp[f191,J,j9]
theorem Jj(op a b:Int)(A:a=0\/a=1)(E:b=0\/b=1):ah ctx 192 [.d (.int .i64 op),.d (.int .i64 a),.d (.int .i64 b)] []=some (.ret (A6 (Eu op a b)),[]):=by
 have Y:xr .i64 0 0=0:=by decide
 have Z:xr .i64 0 1=0:=by decide
 have q:xr .i64 1 0=0:=by decide
 have y:xr .i64 1 1=1:=by decide
 have A':Jh .i64 0 0=0:=by decide
 have A0:Jh .i64 0 1=1:=by decide
 have A1:Jh .i64 1 0=1:=by decide
 have A2:Jh .i64 1 1=1:=by decide
 rw[aep (by simp)];unfold Eu;have I:op=13\/op=14\/op=20\/op=19\/op=21\/(op≠13/\op≠14/\op≠20/\op≠19/\op≠21):=by omega
 rcases A with rfl|rfl<;>rcases E with rfl|rfl<;>rcases I with rfl|rfl|rfl|rfl|rfl|⟨A3,A4,H,A5,A8⟩<;>
  simp[f192,DJ, -ew.eq_6, -ew.eq_7,DI,UK,dG,j9, *]
theorem Jk(op a b:Int)(h:13<=op/\op<=18):ah ctx 194 [.d (.int .i64 op),.d (.int .i64 a),.d (.int .i64 b)] []=some (.ret (A6 (A7 op a b)),[]):=by
 rw[aer (by simp)];unfold A7;have I:op=13\/op=14\/op=15\/op=16\/op=17\/op=18:=by omega
 rcases I with rfl|rfl|rfl|rfl|rfl|rfl<;>simp[f194,DJ,bne]
theorem Jl(op a b:Int)(h:8<=op/\op<=12)(A:aG a)(E:aG b):ah ctx 193 [.d (.int .i64 op),.d (.int .i64 a),.d (.int .i64 b)] []=some (.ret (A6 (A7 op a b)),[]):=by
 have q1:=W3 a b A E;have q2:=Jg a b A E;have q3:=W4 a b A E;have M:=W5 a b A E;have N:=W6 a b A E;have I:op=8\/op=9\/op=10\/op=11\/op=12:=by omega
 rw[aeq (by simp)];unfold A7;generalize kG (a+b)=f1 at*;generalize kG (a-b)=f2 at*;generalize kG (a*b)=f3 at*;generalize Es a b=f4 at*;generalize Et a b=f5 at*;simp at q1 q2 q3 M N;rcases I with rfl|rfl|rfl|rfl|rfl
 ·cases D:f1.2<;>simp[f193,q1,D,uN]
 ·cases D:f2.2<;>simp[f193,q2,D,uN]
 ·cases D:f3.2<;>simp[f193,q3,D,uN]
 ·by_cases H:f4.2=3
  ·simp[f193,M,H,zv]
  ·by_cases O:f4.2=0<;>simp[f193,M,O,H,zv]
 ·by_cases H:f5.2=3
  ·simp[f193,N,H,zv]
  ·by_cases O:f5.2=0<;>simp[f193,N,O,H,zv]
@[simp] def jD(n:Int):D:=.int .i64 n
theorem rQ(b:Bool):ah ctx 128 [.d (.bool b)] []=some (.ret (.d (.int .i64 (dG b))),[]):=by
 rw[ad9 (by simp)];cases b<;>simp[f128,dG]
theorem abm(a b q e:Int)(he:aG e)(I:aG b):ah ctx 195 [.ptr 0 0 0] [.box [.vec 1 0 0 4],.vec 1 [.int .i64 a,.int .i64 b,.int .i64 q,.int .i64 e]]=
 some (.ret (.bM []),[(0,.box [.vec 1 0 0 4]),(0,.vec 1 [.int .i64 a,.int .i64 b,.int .i64 q,.int .i64 (xP e b)])]):=by
 rw[Uf (by simp)];unfold xP;by_cases h:e<b
 ·have w:IntKind.i64.wrap (e+1)=e+1:=aE (by unfold aG at*;omega);simp[f195,h,w,aj]
 ·simp[f195,h,aj]
theorem abn(a b q e p r:Int)(he:aG e)(I:aG b):ah ctx 195 [.ptr 0 0 0] [.box [.vec 1 0 0 6],.vec 1 [.int .i64 a,.int .i64 b,.int .i64 q,.int .i64 e,.int .i64 p,.int .i64 r]]=
 some (.ret (.bM []),[(0,.box [.vec 1 0 0 6]),(0,.vec 1 [.int .i64 a,.int .i64 b,.int .i64 q,.int .i64 (xP e b),.int .i64 p,.int .i64 r])]):=by
 rw[Uf (by simp)];unfold xP;by_cases h:e<b
 ·have w:IntKind.i64.wrap (e+1)=e+1:=aE (by unfold aG at*;omega);simp[f195,h,w,aj]
 ·simp[f195,h,aj]
theorem DK(k a b q e:Int)(N:k=10\/k=11)(he:aG e)(I:aG b):ah ctx 126 [.d (.int .i64 k),.vec 0 0 0 4] [.vec 1 [.int .i64 a,.int .i64 b,.int .i64 q,.int .i64 e]]=
 some (.ret (.bM []),[(0,.vec 1 ((rK k a b q e).map jD))]):=by
 have hu:=abm a b q e he I;have A:=rQ;unfold rK;generalize xP e b=u at*;rw[Ub (by simp)];rcases N with rfl|rfl
 ·by_cases h:a=0<;>simp[f126,h,hu,A,aj]
 ·by_cases h:a=0
  ·subst h;by_cases O:q=0<;>simp[f126,O,hu,A,aj]
  ·simp[f126,h,hu,A,aj]
set_option maxHeartbeats 4000000 in
theorem Q2(a b q e p r:Int)(he:aG e)(I:aG b):ah ctx 126 [.d (.int .i64 12),.vec 0 0 0 6] [.vec 1 [.int .i64 a,.int .i64 b,.int .i64 q,.int .i64 e,.int .i64 p,.int .i64 r]]=
 some (.ret (.bM []),[(0,.vec 1 ((nh 12 a b q e p r).map jD))]):=by
 have hu:=λa q e p r he=>abn a b q e p r he I;have A:=rQ;unfold nh Yj;rw[Ub (by simp)];have T:aG 0:=by unfold aG;omega
 by_cases E:a=0
 ·subst E;by_cases H:r=0
  ·simp[f126,H,A,aj,bne]
  ·by_cases J:e<b<;>simp[f126,H,A,hu,he,J,aj,bne]
 ·by_cases H:r=0
  ·subst H;by_cases M:p=0
   ·subst M;by_cases J:0<b<;>simp[f126,E,A,hu,T,J,aj,bne]
   ·simp[f126,E,M,A,aj,bne]
  ·by_cases M:p=0
   ·subst M;by_cases J:e<b<;>simp[f126,E,H,A,hu,he,J,aj,bne]
   ·by_cases J:e<b<;>simp[f126,E,H,M,A,hu,he,J,aj,bne]
set_option maxHeartbeats 4000000 in
theorem Bf(k a b q e p r:Int)(N:k=13\/k=14)(he:aG p):ah ctx 127 [.d (.int .i64 k),.vec 0 0 0 6] [.vec 1 [.int .i64 a,.int .i64 b,.int .i64 q,.int .i64 e,.int .i64 p,.int .i64 r]]=
 some (.ret (.bM []),[(0,.vec 1 ((nh k a b q e p r).map jD))]):=by
 have A:=rQ;unfold nh Yk Yl;unfold aG at he;rw[ad8 (by simp)];rcases N with rfl|rfl
 ·by_cases I:b=0
  ·by_cases E:a=0
   ·simp[f127,E,I,A,aj,bne]
   ·by_cases H:r=0
    ·by_cases J:p<9223372036854775807
     ·have w:IntKind.i64.wrap (p+1)=p+1:=aE (by unfold aG at*;omega);simp[f127,E,I,H,J,w,A,aj,bne]
     ·simp[f127,E,I,H,J,A,aj,bne]
    ·simp[f127,E,I,H,A,aj,bne]
  ·by_cases E:a=0<;>by_cases H:r=0<;>simp[f127,E,I,H,A,aj,bne]
 ·by_cases I:b=0
  ·by_cases E:a=0
   ·simp[f127,E,I,A,aj,bne]
   ·by_cases H:r=0
    ·by_cases J: -9223372036854775808<p
     ·have w:IntKind.i64.wrap (p-1)=p-1:=aE (by unfold aG at*;omega);simp[f127,E,I,H,J,w,A,aj,bne]
     ·simp[f127,E,I,H,J,A,aj,bne]
    ·simp[f127,E,I,H,A,aj,bne]
  ·by_cases E:a=0<;>by_cases H:r=0<;>simp[f127,E,I,H,A,aj,bne]
theorem EN{s:Tx}{w:Vr}:∀(l:List Vr)(n:Int)(a:Nat),bu l s=some w->∃i:Nat,iO (λv:Vr=>decide (v.name=s)) l a=((a+i:Nat):Int)/\l[i]?=some w/\(mJ l n)[i]?=some (Dz l s n).1
 |[],_,_,h=>by simp[bu]at h
 |v::r,n,a,h=>by
  simp only[bu]at h;simp only[iO,mJ,Dz];by_cases J:v.name=s
  ·rw[aap J]at h;cases h;exact⟨0,by simp[J],rfl,by simp[J]⟩
  ·rw[aah J]at h;obtain⟨i,A,E,M⟩:=EN r (n+b5 v) (a+1) h;refine⟨i+1,?_,by simpa using E,?_⟩
   ·simp only[J,decide_false,aky,acF];rw[A];congr 1;omega
   ·rw[aah J];simpa using M
theorem tf:∀(l:List Vr)(n:Int),(mJ l n).length=l.length
 |[],_=>rfl
 |v::r,n=>by simp[mJ,tf r]
def DL(v:Vr):D:=.list ((br v.ty).map cE)
@[simp] def rnB(p:Pg)(C:List Int)(f v:Nat):ay:=.box [.d (.str p.name),.d (.list (p.vars.map bn)),.d (.list (p.body.map cw)),.d (.list ((mJ p.vars 0).map ko)),.vec 1 0 0 p.vars.length,.vec 2 v 0 C.length,.d (.int .i64 f)]
@[simp] def iQ(p:Pg)(C:List Int)(f:Nat):List ay:=[rnB p C f 0,.vec 1 (p.vars.map DL),.vec 1 (C.map jD)]
@[simp] def oX(p:Pg)(C:List Int)(f v:Nat):List (Nat×ay):=[(0,rnB p C f v),(0,.vec 1 (p.vars.map DL)),(v,.vec 1 (C.map jD))]
def kp(e:Int):D:=.agg [.int .i64 e]
section
variable {p:Pg} (H:p.vars.length<=1000)
include H
theorem Bg(s:Tx)(C:List Int)(f:Nat):ah ctx 250 [.ptr 0 0 0,.d (.str s)] (iQ p C f)=some (.ret (.d (.int .i64 (iO (λv:Vr=>decide (v.name=s)) p.vars 0))),oX p C f 0):=by
 have h:=abj s p.vars (by omega);rw[aeL (by simp)];try simp at h
 simp[f250,h]
theorem rZ{s:Tx}{w:Vr}(N:bu p.vars s=some w)(C:List Int)(f:Nat):ah ctx 202 [.ptr 0 0 0,.d (.str s)] (iQ p C f)=some (.ret (.bM [.d (.int .i64 (dw p.vars s).1),.d (bn w)]),oX p C f 0):=by
 have h:=Bg H s C f;obtain⟨i,A,E,M⟩:=EN p.vars 0 0 N;rw[ac3]at A;rw[A]at h;have hi:=(aaf.1 E).1;have T:i<(mJ p.vars 0).length:=by rw[tf];exact hi
 have g2:p.vars[i]=w:=(aaf.1 E).2;have g3:(mJ p.vars 0)[i]=(dw p.vars s).1:=(aaf.1 M).2;rw[aes (by simp)];simp at h;have A0:=tf p.vars 0;simp[f202,h,aj,hi,T,g2,g3,bn,dk]
theorem UN{s fl:Tx}{w:Vr}{q:Pn}(N:bu p.vars s=some w)(U:2<w.ty)(A1:lW w.ty fl=some q)(A9:0<=(dw p.vars s).1/\(dw p.vars s).1<=100000)(C:List Int)(f:Nat):ah ctx 206 [.ptr 0 0 0,.d (.str s),.d (.str fl)] (iQ p C f)=some (.ret (.bM [.d (.int .i64 (kK p.vars s fl).1),.d (cE q)]),oX p C f 0):=by
 have h:=Bg H s C f;obtain⟨i,A,E,M⟩:=EN p.vars 0 0 N;rw[ac3]at A;rw[A]at h;have hi:=(aaf.1 E).1;have T:i<(mJ p.vars 0).length:=by rw[tf];exact hi
 have g2:p.vars[i]=w:=(aaf.1 E).2;have g3:(mJ p.vars 0)[i]=(dw p.vars s).1:=(aaf.1 M).2;have AA:=zD w.ty;obtain⟨q0,AB,j,y,_,AC⟩:=I5 (i:=0) A1;have A':=I9 fl (br w.ty) 0;rw[y]at A';obtain⟨A2,_,V⟩:=A';rw[Nat.sub_zero]at V;have A3:(kK p.vars s fl).1=(dw p.vars s).1+j:=by
  unfold kK;rw[N,ny N,aap ⟨rfl,U,q0⟩,y]
 have Y:=abk fl (br w.ty) (by omega);rw[A2]at Y;have A4:=(aaf.1 V).1;have A5:(br w.ty)[j]=q:=(aaf.1 V).2;have AD:(p.vars.map DL)[i]'(by simpa using hi)=.list ((br w.ty).map cE):=by simp[g2,DL]
 have O:IntKind.i64.wrap ((dw p.vars s).1+(j:Int))=(dw p.vars s).1+(j:Int):=aE (by unfold aG;omega);rw[aew (by simp),A3];simp at h Y;have A0:=tf p.vars 0;simp[f206,h,aj,hi,T,g2,g3,DL,Y,A4,A5,O,cE]
omit H in
theorem kY(C:List Int)(f:Nat)(AE:f<=1000000):ah ctx 142 [.ptr 0 0 0] (iQ p C f)=if f=0 then some (.panic 103 (kp 4),oX p C 0 0)else some (.ret (.bM []),oX p C (f-1) 0):=by
 rw[aea (by simp)];by_cases h:f=0
 ·subst h;simp[f142,kp]
 ·have A6:¬((f:Int)=0):=by omega
  have O:IntKind.i64.wrap ((f:Int)-1)=((f-1:Nat):Int):=by rw[show (f:Int)-1=((f-1:Nat):Int) by omega];exact aE (by unfold aG;omega)
  simp[f142,h,A6,O]
omit H in
theorem W7(b:Bool):ah ctx 306 [.d (.bool b)] []=some (.ret (.d (.int .i64 (dG b))),[]):=by
 rw[aeW (by simp)];cases b<;>simp[f306,dG]
omit H in
theorem EO(C:List Int)(f:Nat){a t:Int}(I:0<=a/\a.toNat<C.length):ah ctx 282 [.ptr 0 0 0,.d (.int .i64 a),.d (.int .i64 t)] (iQ p C f)=some (.ret (.d (.int .i64 (DC C a t))),oX p C f 0):=by
 obtain⟨n,rfl⟩:∃n:Nat,a=n:=⟨a.toNat,by omega⟩;obtain⟨_,I⟩:=I;simp only[Int.toNat_natCast]at I;have A7:jw C (n:Int)=C[n]:=by unfold jw;simp[I]
 have U:=λb=>W7 b;rw[aeU (by simp)];unfold DC;rw[A7];by_cases h:t=2
 ·simp[f282,h,I,U,aj];by_cases Z:C[n]=0
  ·simp[Z]
  ·simp[Z];exact ac8 dG (bne_iff_ne.2 Z)
 ·simp[f282,h,I,aj]
omit H in
theorem F5{a n:Int}{w:Vr}(I:0<=a/\a<=100000)(hw:0<=w.lo/\w.hi<=255):ah ctx 204 [.d (.int .i64 a),.d (bn w),.d (.int .i64 n)] []=if n<w.lo\/w.hi<n then some (.panic 103 (kp 3),[])else some (.ret (.d (.int .i64 (a+(n-w.lo)))),[]):=by
 rw[aeu (by simp)];by_cases A:n<w.lo
 ·simp[f204,bn,dk,A,kp]
 ·by_cases E:w.hi<n
  ·simp[f204,bn,dk,A,E,kp]
  ·have O:IntKind.i64.wrap (n-w.lo)=n-w.lo:=aE (by unfold aG;omega);have A8:IntKind.i64.wrap (a+(n-w.lo))=a+(n-w.lo):=aE (by unfold aG;omega);simp[f204,bn,dk,A,E,O,A8]
end
theorem Kp(op a:Int)(t:Bool)(J:aG a):ah ctx 125 [.d (.int .i64 op),.d (.list [.int .i64 a]),.d (.bool t)] []=some (.ret (A6 (oo op a t)),[]):=by
 rw[Ua (by simp)];by_cases E:t=true/\a≠0/\a≠1
 ·obtain⟨rfl,O,A⟩:=E;simp[f125];rw[ai];simp[O,A,oo,j9]
 ·have A:=UM op a t J (by intro h;subst h;simp at E;omega);have T:(t&&(a != 0))=true->a=1:=by simp;intro A D;simp[A]at E;exact E D
  generalize oo op a t=p at*;simp at A;cases t
  ·simp[f125];rw[ai];simp;rw[ai];simp[A]
  ·have U:a=0\/a=1:=by simp at T;omega
   rcases U with rfl|rfl
   ·simp[f125];rw[ai];simp;rw[ai];simp[A]
   ·simp[f125];rw[ai];simp;rw[ai];simp[A]
theorem uU(op a b:Int)(t:Bool)(J:aG a)(E:aG b):ah ctx 125 [.d (.int .i64 op),.d (.list [.int .i64 a,.int .i64 b]),.d (.bool t)] []=some (.ret (A6 (kl op a b t)),[]):=by
 rw[Ua (by simp)];have cmp:=λh=>Jk op a b h;have V:=λh=>Jl op a b h J E;have ri:=λA D=>Jj op a b A D;unfold kl;cases t
 ·have Y:¬(8<=op/\op<=12)->¬(13<=op/\op<=18)->A7 op a b=j9:=by
   intro A D;unfold A7;simp only[show ¬op=8 by omega,show ¬op=9 by omega,show ¬op=10 by omega,show ¬op=11 by omega,show ¬op=12 by omega,show ¬op=13 by omega,show ¬op=14 by omega,show ¬op=15 by omega,show ¬op=16 by omega,show ¬op=17 by omega,show ¬op=18 by omega,acF]
  generalize A7 op a b=p at*;simp[f125];rw[ai];simp;rw[ai];simp;rw[ai];simp;by_cases A:8<=op/\op<=12
  ·have r:=V A;simp at r;simp[A.1,A.2,r,aj]
  ·by_cases D:13<=op/\op<=18
   ·have r:=cmp D;have H:¬op<=12:=by omega
    have I:8<=op:=by omega
    simp at r;simp[D.1,D.2,H,I,r,aj]
   ·have Z:=Y A D;subst Z;by_cases N:8<=op
    ·have q:¬op<=12:=by omega
     have M:13<=op:=by omega
     have y:¬op<=18:=by omega
     simp[N,q,M,y,j9]
    ·have M:¬13<=op:=by omega
     simp[N,M,j9]
 ·by_cases A:a=0\/a=1
  ·by_cases D:b=0\/b=1
   ·have r:=ri A D;generalize Eu op a b=p at*;rcases A with rfl|rfl<;>rcases D with rfl|rfl<;>
     (simp at r
      simp[f125];rw[ai];simp;rw[ai];simp;rw[ai];simp[r,aj])
   ·have H:¬b=0:=by omega
    have I:¬b=1:=by omega
    rcases A with rfl|rfl<;>
     (simp[f125]
      rw[ai];simp;rw[ai];simp[H,I,j9])
  ·have H:¬a=0:=by omega
   have I:¬a=1:=by omega
   simp[f125];rw[ai];simp[H,I,j9]
end Go.Am
end
section
namespace Go.Am
open Go Go.Proofs
variable [Inhabited bA]
set_option maxRecDepth 20000
def af0(f:Nat)(A:Int->Nat):Prop:=∀b:Int,∃l:List D,ah ctx f [.d (.int .i64 b)] []=some (.ret (.d (.list l)),[])/\l.length=A b/\A b<=100
end Go.Am
end
section
namespace Go.Am
open Go Go.Proofs Go.Proofs.Tryz
variable [Inhabited bA]
set_option maxRecDepth 20000
def eC:Option (Out×List (Nat×ay))->Option Nat
 |some (.ret (.d (.list l)),[])=>some l.length
 |_=>none
theorem Kq{r:Option (Out×List (Nat×ay))}{n:Nat}(h:eC r=some n):∃l,r=some (.ret (.d (.list l)),[])/\l.length=n:=by
 unfold eC at h;split at h
 ·rename_i l;exact⟨l,rfl,by simpa using h⟩
 ·cases h
theorem ep{f:FuncId}{b:Int}{n:Nat}(h:eC (aF ctx 120 f [.d (.int .i64 b)] [])=some n):∃l:List D,ah ctx f [.d (.int .i64 b)] []=some (.ret (.d (.list l)),[])/\l.length=n:=by
 obtain⟨l,A,E⟩:=Kq h;exact⟨l,bk 120 A,E⟩
theorem af1:eC (aF ctx 120 54 [.d (.int .i64 10)] [])=some 4:=by kernel_rfl
theorem af2:eC (aF ctx 120 54 [.d (.int .i64 11)] [])=some 4:=by kernel_rfl
theorem af3:eC (aF ctx 120 54 [.d (.int .i64 12)] [])=some 6:=by kernel_rfl
theorem af4:eC (aF ctx 120 54 [.d (.int .i64 13)] [])=some 6:=by kernel_rfl
theorem af5:eC (aF ctx 120 54 [.d (.int .i64 14)] [])=some 6:=by kernel_rfl
theorem af6:eC (aF ctx 120 54 [.d (.int .i64 15)] [])=some 3:=by kernel_rfl
theorem af7:eC (aF ctx 120 54 [.d (.int .i64 16)] [])=some 3:=by kernel_rfl
theorem af8:eC (aF ctx 120 54 [.d (.int .i64 17)] [])=some 3:=by kernel_rfl
theorem af9:eC (aF ctx 120 54 [.d (.int .i64 18)] [])=some 3:=by kernel_rfl
theorem aga:eC (aF ctx 120 54 [.d (.int .i64 20)] [])=some 4:=by kernel_rfl
theorem agb:eC (aF ctx 120 54 [.d (.int .i64 21)] [])=some 9:=by kernel_rfl
theorem agc:eC (aF ctx 120 54 [.d (.int .i64 22)] [])=some 9:=by kernel_rfl
theorem agd:eC (aF ctx 120 54 [.d (.int .i64 23)] [])=some 9:=by kernel_rfl
theorem age:eC (aF ctx 120 54 [.d (.int .i64 24)] [])=some 12:=by kernel_rfl
theorem agf:eC (aF ctx 120 54 [.d (.int .i64 25)] [])=some 12:=by kernel_rfl
theorem agh:eC (aF ctx 120 54 [.d (.int .i64 26)] [])=some 12:=by kernel_rfl
theorem agi:eC (aF ctx 120 54 [.d (.int .i64 27)] [])=some 10:=by kernel_rfl
theorem agj:eC (aF ctx 120 54 [.d (.int .i64 28)] [])=some 12:=by kernel_rfl
theorem agk:eC (aF ctx 120 54 [.d (.int .i64 29)] [])=some 5:=by kernel_rfl
theorem agl:eC (aF ctx 120 54 [.d (.int .i64 30)] [])=some 6:=by kernel_rfl
theorem agm:eC (aF ctx 120 54 [.d (.int .i64 31)] [])=some 4:=by kernel_rfl
def qH:List Int:=[10,11,12,13,14,15,16,17,18,20,21,22,23,24,25,26,27,28,29,30,31]
def mj:D->Option Int
 | .agg [.int .i64 k,.str _,.str _,.str _,.int .i64 _]=>some k
 |_=>none
theorem zN{d:D}{k:Int}(h:mj d=some k):∃a b c n,d=.agg [.int .i64 k,.str a,.str b,.str c,.int .i64 n]:=by
 unfold mj at h;split at h
 ·rename_i A' a b c n;cases h;exact⟨a,b,c,n,rfl⟩
 ·cases h
def Jm:Option (Out×List (Nat×ay))->Option (List (Option Int))
 |some (.ret (.d (.list l)),[])=>some (l.map mj)
 |_=>none
theorem W8:Jm (aF ctx 120 137 [] [])=some (qH.map some):=by kernel_rfl
theorem Q3:∃l:List D,ah ctx 137 [] []=some (.ret (.d (.list l)),[])/\l.map mj=qH.map some:=by
 have h:=W8;generalize U:aF ctx 120 137 [] []=r at h;unfold Jm at h;split at h
 ·rename_i l;exact⟨l,bk 120 U,by simpa using h⟩
 ·cases h
theorem Q4(d:D)(k b:Int)(I:mj d=some k):ah ctx 139 [.d d,.ptr 0 0 0] [.box [.d (.int .i64 b)]]=some (.ret (.d (.bool (decide (k=b)))),[(0,.box [.d (.int .i64 b)])]):=by
 obtain⟨a,e,c,n,rfl⟩:=zN I;rw[Ud (by simp)];simp[f139]
theorem xV(b:Int):∀(rest pre:List D),(∀d∈rest,∃k,mj d=some k/\k≠b)->(pre++rest).length<1000->∀k:Kt,
 aI ctx 138 (.loop (Code.at (bm f138) [1,0,1,0,0])) ⟨19,aA,[(0,true,.d (.list (pre++rest))),(1,true,.fn 139 [.ptr 0 0 0]),(7,true,.d (.int .i64 (pre++rest).length)),(8,true,.d (.int .i64 pre.length))],[⟨0,0,.box [.d (.int .i64 b)]⟩]⟩ k=
  k (.exit 0) ⟨19,aA,[(0,true,.d (.list (pre++rest))),(1,true,.fn 139 [.ptr 0 0 0]),(7,true,.d (.int .i64 (pre++rest).length)),(8,true,.d (.int .i64 (pre++rest).length)),(9,true,.d (.bool false))],[⟨0,0,.box [.d (.int .i64 b)]⟩]⟩
 |[],pre,h,J,k=>by
  rw[ai];simp[f138]
 |d::rest,pre,h,J,k=>by
  obtain⟨N,M,V⟩:=h d (by simp);have O:=Q4 d N b M;obtain⟨Y,a2,a3,a4,rfl⟩:=zN M;have ih:=xV b rest (pre++[.agg [.int .i64 N,.str Y,.str a2,.str a3,.int .i64 a4]]) (λd I=>h d (by simp[I])) (by simpa using J) k;have A:(pre.length:Int)<pre.length+(rest.length+1):=by omega
  have E:IntKind.i64.wrap ((pre.length:Int)+1)=pre.length+1:=aE (by unfold aG;simp at J;omega);simp[V]at O;rw[ai];simp[f138]at ih⊢;simp[A,E,O,ih]
theorem UO(b:Int)(H:b∉qH):ah ctx 54 [.d (.int .i64 b)] []=some (.ret (.d (.list [])),[]):=by
 obtain⟨l,J,hm⟩:=Q3;have A0:l.length=21:=by have:=ac8 List.length hm;simpa [qH]using this
 have Z:∀d∈l,∃k,mj d=some k/\k≠b:=by
  intro d I;have A:mj d∈l.map mj:=abY I;rw[hm]at A;obtain⟨k,M,he⟩:=acb.1 A;exact⟨k,he.symm,λh=>H (h▸M)⟩
 have T:=xV b l [] Z (by simp;omega);have q:ah ctx 138 [.d (.list l),.fn 139 [.ptr 0 0 0]] [.box [.d (.int .i64 b)]]=some (.ret (.d (.int .i64 (-1))),[(0,.box [.d (.int .i64 b)])]):=by
  rw[Uc (by simp)];simp[f138]at T⊢;simp[T]
 have y:ah ctx 89 [.d (.int .i64 b)] []=some (.ret (.bM [.d (.agg [.int .i64 0,.str [],.str [],.str [],.int .i64 0]),.d (.bool false)]),[]):=by
  rw[aae (by simp)];simp[f89,J,q]
 rw[aac (by simp)];simp[f54,y]
theorem abo:af0 54 nk:=by
 intro b;by_cases H:b∈qH
 ·simp only[qH,aan,acX,akI]at H;rcases H with rfl|rfl|rfl|rfl|rfl|rfl|rfl|rfl|rfl|rfl|rfl|rfl|rfl|rfl|rfl|rfl|rfl|rfl|rfl|rfl|rfl
  ·obtain⟨l,A,E⟩:=ep af1;exact⟨l,A,by rw[E];rfl,by decide⟩
  ·obtain⟨l,A,E⟩:=ep af2;exact⟨l,A,by rw[E];rfl,by decide⟩
  ·obtain⟨l,A,E⟩:=ep af3;exact⟨l,A,by rw[E];rfl,by decide⟩
  ·obtain⟨l,A,E⟩:=ep af4;exact⟨l,A,by rw[E];rfl,by decide⟩
  ·obtain⟨l,A,E⟩:=ep af5;exact⟨l,A,by rw[E];rfl,by decide⟩
  ·obtain⟨l,A,E⟩:=ep af6;exact⟨l,A,by rw[E];rfl,by decide⟩
  ·obtain⟨l,A,E⟩:=ep af7;exact⟨l,A,by rw[E];rfl,by decide⟩
  ·obtain⟨l,A,E⟩:=ep af8;exact⟨l,A,by rw[E];rfl,by decide⟩
  ·obtain⟨l,A,E⟩:=ep af9;exact⟨l,A,by rw[E];rfl,by decide⟩
  ·obtain⟨l,A,E⟩:=ep aga;exact⟨l,A,by rw[E];rfl,by decide⟩
  ·obtain⟨l,A,E⟩:=ep agb;exact⟨l,A,by rw[E];rfl,by decide⟩
  ·obtain⟨l,A,E⟩:=ep agc;exact⟨l,A,by rw[E];rfl,by decide⟩
  ·obtain⟨l,A,E⟩:=ep agd;exact⟨l,A,by rw[E];rfl,by decide⟩
  ·obtain⟨l,A,E⟩:=ep age;exact⟨l,A,by rw[E];rfl,by decide⟩
  ·obtain⟨l,A,E⟩:=ep agf;exact⟨l,A,by rw[E];rfl,by decide⟩
  ·obtain⟨l,A,E⟩:=ep agh;exact⟨l,A,by rw[E];rfl,by decide⟩
  ·obtain⟨l,A,E⟩:=ep agi;exact⟨l,A,by rw[E];rfl,by decide⟩
  ·obtain⟨l,A,E⟩:=ep agj;exact⟨l,A,by rw[E];rfl,by decide⟩
  ·obtain⟨l,A,E⟩:=ep agk;exact⟨l,A,by rw[E];rfl,by decide⟩
  ·obtain⟨l,A,E⟩:=ep agl;exact⟨l,A,by rw[E];rfl,by decide⟩
  ·obtain⟨l,A,E⟩:=ep agm;exact⟨l,A,by rw[E];rfl,by decide⟩
 ·refine⟨[],UO b H,?_,?_⟩
  ·simp only[qH,aan,acX,akI,akD]at H;simp[nk,H]
  ·simp only[qH,aan,acX,akI,akD]at H;simp[nk,H]
theorem uV(c:List Int)(A':c.length<=100000):ah ctx 48 [.d (.list (c.map jD))] []=some (.ret (.vec 0 0 0 c.length),[(0,.vec 1 (c.map jD))]):=by
 rw[ajk (by simp)];cases c with
 |nil=>simp[f48]
 |cons x r=>
  simp at A';have A5:((r.length:Int)+1)*8<=140737488355328:=by omega
  have A0:(r.length+1)*8<=140737488355328:=by omega
  have A1:r.length+1<=4611686018427387904:=by omega
  simp[f48,A0,A1]
theorem cl3{c:List Int}(h:c.length=3):∃a b q,c=[a,b,q]:=by
 match c,h with
 |[a,b,q],_=>exact⟨a,b,q,rfl⟩
theorem agn{c:List Int}(h:c.length=4):∃a b q e,c=[a,b,q,e]:=by
 match c,h with
 |[a,b,q,e],_=>exact⟨a,b,q,e,rfl⟩
theorem W9{c:List Int}(h:c.length=6):∃a b q e p r,c=[a,b,q,e,p,r]:=by
 match c,h with
 |[a,b,q,e,p,r],_=>exact⟨a,b,q,e,p,r,rfl⟩
theorem Kr{k:Int}(Y:k<10\/18<k)(c:List Int):gg k c=c:=by
 unfold gg;split
 ·unfold rL;simp only[show ¬k=15 by omega,show ¬k=16 by omega,show ¬k=17 by omega,show ¬k=18 by omega,acF]
 ·unfold rK;simp only[show ¬k=10 by omega,show ¬k=11 by omega,acF]
 ·unfold nh;simp only[show ¬k=12 by omega,show ¬k=13 by omega,show ¬k=14 by omega,acF]
 ·rfl
set_option maxHeartbeats 4000000 in
theorem Xa(k:Int)(c:List Int)(J:c.length=nk k)(M:∀x∈c,aG x):ah ctx 85 [.d (.int .i64 k),.d (.list (c.map jD))] []=some (.ret (.vec 0 0 0 c.length),[(0,.vec 1 ((gg k c).map jD))]):=by
 obtain⟨pl,A,U,V⟩:=abo k;have D:=uV c (by omega);have A6:=rQ;have E:(pl.length:Int)=c.length:=by omega
 rw[aju (by simp)];by_cases Y:k<10\/18<k
 ·rw[Kr Y];try simp at D
  try simp at A
  simp[f85,D,A,E,show ¬k=10 by omega,show ¬k=11 by omega,show ¬k=12 by omega,show ¬k=13 by omega,show ¬k=14 by omega,show ¬k=15 by omega,show ¬k=16 by omega,show ¬k=17 by omega,show ¬k=18 by omega,aj]
 ·have A2:k=10\/k=11\/k=12\/k=13\/k=14\/k=15\/k=16\/k=17\/k=18:=by omega
  clear Y;have A3:(k=10\/k=11->nk k=4)/\(k=12\/k=13\/k=14->nk k=6)/\(k=15\/k=16\/k=17\/k=18->nk k=3):=by
   refine⟨?_,?_,?_⟩
   ·rintro (rfl|rfl)<;>rfl
   ·rintro (rfl|rfl|rfl)<;>rfl
   ·rintro (rfl|rfl|rfl|rfl)<;>rfl
  obtain⟨T,O,N⟩:=A3;rcases A2 with h|h|h|h|h|h|h|h|h
  ·obtain⟨a,b,q,e,rfl⟩:=agn (J.trans (T (by omega)));have:=DK k a b q e (.inl h) (M _ (by simp)) (M _ (by simp));subst h;simp at D A E;simp[gg];have H:=zE 10 a b q e;generalize rK 10 a b q e=z at*;have I:(z.map jD).take z.length=z.map jD:=acI (by simp);rw[H]at I;try simp at this
   simp[f85,D,A,E,this,H,I,aj]
  ·obtain⟨a,b,q,e,rfl⟩:=agn (J.trans (T (by omega)));have:=DK k a b q e (.inr h) (M _ (by simp)) (M _ (by simp));subst h;simp at D A E;simp[gg];have H:=zE 11 a b q e;generalize rK 11 a b q e=z at*;have I:(z.map jD).take z.length=z.map jD:=acI (by simp);rw[H]at I;try simp at this
   simp[f85,D,A,E,this,H,I,aj]
  ·obtain⟨a,b,q,e,p,r,rfl⟩:=W9 (J.trans (O (by omega)));have:=Q2 a b q e p r (M _ (by simp)) (M _ (by simp));subst h;simp at D A E;simp[gg];have H:=tY 12 a b q e p r;generalize nh 12 a b q e p r=z at*;have I:(z.map jD).take z.length=z.map jD:=acI (by simp);rw[H]at I;try simp at this
   simp[f85,D,A,E,this,H,I,aj]
  ·obtain⟨a,b,q,e,p,r,rfl⟩:=W9 (J.trans (O (by omega)));have:=Bf k a b q e p r (.inl h) (M _ (by simp));subst h;simp at D A E;simp[gg];have H:=tY 13 a b q e p r;generalize nh 13 a b q e p r=z at*;have I:(z.map jD).take z.length=z.map jD:=acI (by simp);rw[H]at I;try simp at this
   simp[f85,D,A,E,this,H,I,aj]
  ·obtain⟨a,b,q,e,p,r,rfl⟩:=W9 (J.trans (O (by omega)));have:=Bf k a b q e p r (.inr h) (M _ (by simp));subst h;simp at D A E;simp[gg];have H:=tY 14 a b q e p r;generalize nh 14 a b q e p r=z at*;have I:(z.map jD).take z.length=z.map jD:=acI (by simp);rw[H]at I;try simp at this
   simp[f85,D,A,E,this,H,I,aj]
  ·obtain⟨a,b,q,rfl⟩:=cl3 (J.trans (N (by omega)));subst h;simp at D A E;clear M J N T O U V;rcases ako (a=0)with rfl|Z<;>rcases ako (q=0)with rfl|y<;>simp[f85,gg,rL,aj,bne, *]
  ·obtain⟨a,b,q,rfl⟩:=cl3 (J.trans (N (by omega)));subst h;simp at D A E;clear M J N T O U V;rcases ako (a=0)with rfl|Z<;>rcases ako (q=0)with rfl|y<;>simp[f85,gg,rL,aj,bne, *]
  ·obtain⟨a,b,q,rfl⟩:=cl3 (J.trans (N (by omega)));subst h;simp at D A E;clear M J N T O U V;rcases ako (a=0)with rfl|Z<;>rcases ako (q=0)with rfl|y<;>rcases ako (b=0)with rfl|A4<;>simp[f85,gg,rL,aj,bne, *]
  ·obtain⟨a,b,q,rfl⟩:=cl3 (J.trans (N (by omega)));subst h;simp at D A E;clear M J N T O U V;rcases ako (a=0)with rfl|Z<;>rcases ako (q=0)with rfl|y<;>rcases ako (b=0)with rfl|A4<;>simp[f85,gg,rL,aj,bne, *]
end Go.Am
end
section
namespace Go.Am
open Go Go.Proofs
variable [Inhabited bA]
set_option maxRecDepth 20000
@[simp] def iA(n:Int):AV:=.d (.int .i64 n)
def mB(A:AV)(D E:Int)(H:AV)(S G:List Int)(h a f x:Int):List AV:=
 A::.d (.int .i64 D)::.d (.int .i64 E)::H::((S++G).map iA++[.d (.int .i64 h),.d (.int .i64 a),.d (.int .i64 f),.d (.int .i64 x)])
section
variable {A:AV} {D E:Int} {H:AV} {S G:List Int} {h a f x:Int}
end
def zO(n:Nat)(k:Int):Prop:=0<=k/\k.toNat<n
def aaA(n:Nat)(x:aU):Prop:=0<=x.n/\x.n<=x.m/\x.m<=255/\0<=x.a/\x.a+(x.m-x.n)<n
structure Fit(x:aU)(n h:Nat):Prop where
 top:h<=64
 i1:x.op=1->h<64
 i2:x.op=2\/x.op=3\/x.op=14->h<64/\zO n x.a
 i4:x.op=4\/x.op=5->1<=h/\aaA n x
 i6:x.op=6->1<=h/\zO n x.a
 i7:x.op=7->2<=h/\aaA n x
 i8:x.op=8->(x.b=6\/x.b=7->1<=h)/\(¬(x.b=6\/x.b=7)->2<=h)
 i10:x.op=10->1<=h
 i12:x.op=12->0<=x.a/\x.a.toNat+nk x.b<=n
 i13:x.op=13->h<64/\zO n x.a/\zO n x.b/\zO n (x.b+1)
structure ago(s:Ms):Prop where
 cells:∀n∈s.cells,aG n
 s6:∀n∈s.s6,aG n
 few:s.cells.length<=8192
 fuel:0<=s.fuel/\s.fuel<=16384
 place:0<=s.at_/\s.at_<=5000
theorem DM:∀Y:List Int,iZ (Y.map jD)=true
 |[]=>rfl
 |x::r=>by simp[iZ,gK,DM r]
theorem Xb(C Y:List Int)(a:Nat)(h:a+Y.length<=C.length):bf (C.map jD) a (Y.map jD)=(C.take a++Y++C.drop (a+Y.length)).map jD:=by
 rw[cH _ _ _ (by simpa using h)];simp[List.map_take,List.map_drop]
end Go.Am
end
section
namespace Go.Am
open Go Go.Proofs
variable [Inhabited bA]
structure azJ(l:List aU)(st:Nat->List Bool)(n:Nat)(s:Ms):Prop where
 azK:ago s
 len:s.cells.length=n
 h64:s.s6.length<=64
 here:s.fault=0->s.at_.toNat<l.length/\s.s6.length=(st s.at_.toNat).length
def Cm(x:aU)(h:Nat):Nat:=
 if x.op=1\/x.op=2\/x.op=3\/x.op=13\/x.op=14 then h+1 else if x.op=4\/x.op=5 then h else if x.op=6\/x.op=10 then h-1 else if x.op=7 then h-2
 else if x.op=8 then (if x.b=6\/x.b=7 then h else h-1)else h
theorem ix:aG 0:=by unfold aG;omega
theorem GF:aG 1:=by unfold aG;omega
theorem tg(b:Bool):aG (dG b):=by unfold dG;split;exact GF;exact ix
theorem DN(z:Int):aG (kG z).1:=by
 unfold kG;split
 ·rename_i h;exact h
 ·exact ix
theorem DO{p:Int×Bool}(h:aG p.1):aG (uN p).1:=by
 unfold uN;split
 ·exact h
 ·exact ix
theorem abp{a b:Int}(A:aG a)(D:b≠0)(h:¬(a= -9223372036854775808/\b= -1)):aG (a.tdiv b):=by
 have E:=BT a b;unfold aG at*;have AB:a.natAbs/b.natAbs<=a.natAbs:=Nat.div_le_self _ _;have Y:decide (a<0)=decide (b<0)->a.natAbs/b.natAbs<=9223372036854775807:=by
  intro H;by_cases Z:a= -9223372036854775808
  ·have y:2<=b.natAbs:=by
    have:b<0:=by rw[Z]at H;simpa using H
    omega
   have AC:=Nat.div_le_div_left y (by decide) (a:=a.natAbs);omega
  ·omega
 generalize a.natAbs/b.natAbs=q at*;split at E
 ·rename_i H;have:=Y H;omega
 ·omega
theorem abq{a b:Int}(A:aG a)(D:b≠0):aG (a.tmod b):=by
 have E:=Wb a b;unfold aG at*;have AD:a.natAbs%b.natAbs<=a.natAbs:=Nat.mod_le _ _;have AE:a.natAbs%b.natAbs<b.natAbs:=Nat.mod_lt _ (by omega);generalize a.natAbs%b.natAbs=q at*;split at E<;>omega
theorem UP{p:Int×Int}(h:aG p.1):aG (zv p).1:=by
 unfold zv;split
 ·exact ix
 ·split
  ·exact h
  ·exact ix
theorem agp{a b:Int}(A:aG a):aG (Es a b).1:=by
 unfold Es;split
 ·exact ix
 ·rename_i D;split
  ·exact ix
  ·rename_i h;exact abp A D h
theorem agq{a b:Int}(A:aG a):aG (Et a b).1:=by
 unfold Et;split
 ·exact ix
 ·rename_i D;exact abq A D
theorem ajR(op a:Int)(t:Bool):aG (oo op a t).1:=by
 unfold oo j9;repeat' split
 all_goals first|exact ix|exact tg _|exact DO (DN _)
theorem ajS(op a b:Int):aG (Eu op a b).1:=by
 unfold Eu j9;repeat' split
 all_goals first|exact ix|exact tg _
theorem ajT(op a b:Int)(A:aG a):aG (A7 op a b).1:=by
 have A':=DO (DN (a+b));have A0:=DO (DN (a-b));have A1:=DO (DN (a*b));have A2:=UP (agp (b:=b) A);have A3:=UP (agq (b:=b) A);unfold A7 j9;by_cases J:op=8
 ·rw[aap J];exact A'
 rw[aah J];by_cases M:op=9
 ·rw[aap M];exact A0
 rw[aah M];by_cases N:op=10
 ·rw[aap N];exact A1
 rw[aah N];by_cases O:op=11
 ·rw[aap O];exact A2
 rw[aah O];by_cases T:op=12
 ·rw[aap T];exact A3
 rw[aah T];repeat' split
 all_goals first|exact ix|exact tg _
theorem Q5(op a b:Int)(t:Bool)(A:aG a):aG (kl op a b t).1:=by
 unfold kl;split
 ·split
  ·exact ix
  ·exact ajS ..
 ·exact ajT _ _ _ A
theorem GG{e b:Int}(he:aG e)(D:aG b):aG (xP e b):=by unfold xP aG at*;split<;>omega
theorem abr(k:Int)(c:List Int)(h:∀n∈c,aG n):∀n∈gg k c,aG n:=by
 unfold gg;split
 ·rename_i a b q;have A:=h a (by simp);have D:=h b (by simp);have E:=h q (by simp);unfold rL;repeat' split
  all_goals (simp only[List.forall_mem_cons];simp[A,D,E,tg])
 ·rename_i a b q e;have A:=h a (by simp);have D:=h b (by simp);have E:=h q (by simp);have he:=h e (by simp);have hu:=GG he D;unfold rK;repeat' split
  all_goals (simp only[List.forall_mem_cons];simp[A,D,E,he,hu,tg,ix,GF])
 ·rename_i a b q e p r;have A:=h a (by simp);have D:=h b (by simp);have E:=h q (by simp);have he:=h e (by simp);have I:=h p (by simp);have U:=h r (by simp);have hu:=GG he D;have AF:=GG ix D;have A4:p<9223372036854775807->aG (p+1):=λ_=>by unfold aG at*;omega
  have A5: -9223372036854775808<p->aG (p-1):=λ_=>by unfold aG at*;omega
  have A6:aG (if b≠0 then 0 else if a≠0/\r=0/\p<9223372036854775807 then p+1 else p):=by
   split
   ·exact ix
   ·split
    ·rename_i h;exact A4 h.2.2
    ·exact I
  have A8:aG (if b≠0 then q else if a≠0/\r=0/\ -9223372036854775808<p then p-1 else p):=by
   split
   ·exact E
   ·split
    ·rename_i h;exact A5 h.2.2
    ·exact I
  have A9:aG (if a≠0/\p=0/\r=0 then 1 else r):=by split;exact GF;exact U
  have V:aG (if a≠0/\p=0/\r=0 then 0 else e):=by split;exact ix;exact he
  unfold nh Yj Yk Yl;dsimp only
  generalize (if b≠0 then 0 else if a≠0/\r=0/\p<9223372036854775807 then p+1 else p)=v1 at*;generalize (if b≠0 then q else if a≠0/\r=0/\ -9223372036854775808<p then p-1 else p)=v2 at*;generalize (if a≠0/\p=0/\r=0 then (1:Int)else r)=v3 at*;generalize (if a≠0/\p=0/\r=0 then (0:Int)else e)=v4 at*;have AA:=GG V D;repeat' split
  all_goals (simp only[List.forall_mem_cons];simp[A,D,E,he,I,U,hu,AA,A6,A8,A9,V,tg,ix,GF])
 ·exact h
end Go.Am
end
section
namespace Go.Am
open Go Go.Proofs Go.Proofs.Tryz
variable [Inhabited bA]
set_option maxRecDepth 20000
def mnV(p:Pg)(C:List Int)(f:Nat)(q:Vl):bW:=
 match q with
 | .v n t=>some (.ret (.bM [.d (.int .i64 n),.d (.bool t)]),oX p C f 0)
 | .f e=>some (.panic 103 (kp e),oX p C f 0)
def mnW(p:Pg)(C:List Int)(f:Nat)(q:Vl):bW:=
 match q with
 | .v n _=>some (.ret (.d (.int .i64 n)),oX p C f 0)
 | .f e=>some (.panic 103 (kp e),oX p C f 0)
@[simp] theorem axg(p:Pg)(C:List Int)(f:Nat)(n:Int)(t:Bool):mnV p C f (.v n t)=some (.ret (.bM [.d (.int .i64 n),.d (.bool t)]),oX p C f 0):=rfl
@[simp] theorem axh(p:Pg)(C:List Int)(f:Nat)(e:Int):mnV p C f (.f e)=some (.panic 103 (kp e),oX p C f 0):=rfl
@[simp] theorem axi(p:Pg)(C:List Int)(f:Nat)(n:Int)(t:Bool):mnW p C f (.v n t)=some (.ret (.d (.int .i64 n)),oX p C f 0):=rfl
@[simp] theorem axj(p:Pg)(C:List Int)(f:Nat)(e:Int):mnW p C f (.f e)=some (.panic 103 (kp e),oX p C f 0):=rfl
structure eD(p:Pg)(C:List Int):Prop where
 len:(C.length:Int)=dX p.vars
 le:C.length<=1024
 num:∀c∈C,aG c
def KV(p:Pg)(x:Ex):Prop:=∀(C:List Int)(f:Nat),eD p C->ah ctx 251 [.ptr 0 0 0,.d (.agg [.int .i64 (cB x),.int .i64 (iN x),.str (ec x),.str (fa x),.list ((cR x).map du),.int .i64 (m5 x)])] (iQ p C f)=mnV p C f (cf p.vars C x)
def RI(p:Pg)(x:Ex):Prop:=∀(C:List Int) n t,eD p C->cf p.vars C x=.v n t->aG n
theorem r0{C:List Int}(h:∀c∈C,aG c)(k:Int):aG (jw C k):=by
 unfold jw;cases M:C[k.toNat]? with
 |none=>simp;exact ix
 |some c=>simp;exact h c (aao M)
theorem Q6{C:List Int}(h:∀c∈C,aG c)(k t:Int):aG (DC C k t):=by
 unfold DC;split
 ·exact tg _
 ·exact r0 h k
theorem Q7{op:Int}{l:List Int}{t:Bool}(h:∀c∈l,aG c){n:Int}{b:Bool}(E:rl op l t=.v n b):aG n:=by
 unfold rl at E;split at E
 ·injection E with D _
  rw[<-D];unfold UD;split
  ·exact ajR _ _ _
  ·exact Q5 _ _ _ _ (h _ (by simp))
  ·exact ix
 ·cases E
section
variable {p:Pg} (O:p.vars.length<=1000) (I:∀w∈p.vars,dB w=true)
include O I
omit O in
theorem ajU{x:Ex}(A5:XC p.vars x)(A6:mH x=true)(ih:∀y∈cR x,RI p y):RI p x:=by
 intro C n t A h;cases A5 with
 |num D=>
  rw[NK]at h;cases h;simp only[mH,Ds,aam]at A6;unfold aG;omega
 |ri D=>rw[NL]at h;cases h;unfold aG;omega
 |var E N J=>rw[NM]at h;cases h;exact Q6 A.num _ _
 |@idx name line v y E N J A2 A3 ty=>
  rw[NN]at h;cases H:cf p.vars C y with
  |f e=>rw[H]at h;cases h
  |v k b=>
   rw[H]at h;simp only[vV,EK]at h;split at h
   ·cases h
   ·cases h;exact Q6 A.num _ _
 |fld E J Y Z=>rw[NO]at h;cases h;exact Q6 A.num _ _
 |@one op line y A7 A2 A3 ty=>
  rw[NP _ _ _ _ (by omega)]at h;cases H:cf p.vars C y with
  |f e=>rw[H]at h;cases h
  |v a b=>
   rw[H]at h;exact Q7 (by intro c V;simp at V;rw[V];exact ih y (by simp) C a b A H) h
 |@two op line y z A7 A2 A3 AA AB ty AC=>
  rw[NQ _ _ _ _ _ (by omega)]at h;cases H:cf p.vars C y with
  |f e=>rw[H]at h;cases h
  |v a b=>
   rw[H]at h;simp only at h;cases A':cf p.vars C z with
   |f e=>rw[A']at h;cases h
   |v a2 A8=>
    rw[A']at h;refine Q7 ?_ h;intro c V;simp at V;rcases V with rfl|rfl
    ·exact ih y (by simp) C _ b A H
    ·exact ih z (by simp) C _ A8 A A'
theorem Jn{name:Tx}{w:Vr}(hw:bu p.vars name=some w)(N:w.arr=false)(J:w.ty<=2){C:List Int}(A:eD p C):0<=(dw p.vars name).1/\(dw p.vars name).1.toNat<C.length:=by
 have:=W2 (v:=C.length) I A.len (W1 (cells:=C.length) I (by have:=A.len;omega) hw (by simp[N]) J);omega
theorem DP{name:Tx}{w:Vr}(hw:bu p.vars name=some w){C:List Int}(A:eD p C):0<=(dw p.vars name).1/\(dw p.vars name).1<=1024:=by
 have A4:∀v∈p.vars,0<=b5 v:=λv E=>uf (I v E);have D:=ue A4 hw;have T:=A4 w (qD hw).1;have:=A.len;have:=A.le;omega
theorem aaB{name:Tx}{w:Vr}(hw:bu p.vars name=some w)(N:w.arr=true):0<=w.lo/\w.hi<=255:=by
 have Z:=I _ (qD hw).1;simp only[dB,Ds]at Z;have A0:=Z.2.2.1;rw[aap N]at A0;have:=acE A0;omega
theorem agt{n line:Int}:KV p (.mk 1 n [] [] [] line):=by
 intro C f A;rw[NK,s7 (by simp)];simp[f251]
theorem agu{n line:Int}:KV p (.mk 2 n [] [] [] line):=by
 intro C f A;rw[NL,s7 (by simp)];simp[f251]
theorem agv{name:Tx}{line:Int}{w:Vr}(hw:bu p.vars name=some w)(N:w.arr=false)(J:w.ty<=2):KV p (.mk 3 0 name [] [] line):=by
 intro C f A;have D:=rZ O hw C f;have T:=EO (p:=p) C f (t:=w.ty) (Jn O I hw N J A);rw[NM,ny hw,s7 (by simp)];simp[bn,dk]at D T;simp[f251,D,T,aj]
theorem agw{name field:Tx}{line:Int}{w:Vr}{q:Pn}(hw:bu p.vars name=some w)(J:2<w.ty)(Y:lW w.ty field=some q):KV p (.mk 5 0 name field [] line):=by
 intro C f A;obtain⟨q1,q2,j,q3,AD⟩:=ND hw J Y;have A0:=ug (cells:=C.length) I (by have:=A.len;omega) hw J;have hle:=DP O I hw A;have D:=UN O hw J Y ⟨hle.1,by omega⟩ C f;have T:=EO (p:=p) C f (t:=q.ty) (a:=(kK p.vars name field).1) (by rw[q3];omega);rw[NO,q1,s7 (by simp)];simp[cE]at D T;simp[f251,D,T,aj]
theorem agx{name:Tx}{line:Int}{w:Vr}{y:Ex}(hw:bu p.vars name=some w)(N:w.arr=true)(J:w.ty<=2)(H:KV p y):KV p (.mk 4 0 name [] [y] line):=by
 intro C f A;have D:=rZ O hw C f;have hle:=DP O I hw A;have A9:=aaB O I hw N;have M:=H C f A;have U:=λn=>F5 (a:=(dw p.vars name).1) (n:=n) (w:=w) ⟨hle.1,by omega⟩ A9;rw[NN,ny hw,s7 (by simp)];cases E:cf p.vars C y with
 |f e=>
  rw[E]at M;simp[bn,dk]at D M;simp[f251,D,M,aZ,vV,aj]
 |v k b=>
  rw[E]at M;have U:=U k;simp only[vV,EK];by_cases A1:k<w.lo\/w.hi<k
  ·rw[aap A1]at U⊢;simp[bn,dk]at D M U;simp[f251,D,M,U,aZ,aj]
  ·rw[aah A1]at U⊢;have T:=EO (p:=p) C f (t:=w.ty) (a:=(dw p.vars name).1+(k-w.lo)) (by
    have:=UJ (v:=C.length) I A.len hw N A1;omega)
   simp[bn,dk]at D M U T;simp[f251,D,M,U,T,aZ,aj]
end
end Go.Am
end
section
namespace Go.Am
open Go Go.Proofs Go.Proofs.Tryz
variable [Inhabited bA]
set_option maxRecDepth 20000
set_option maxHeartbeats 1000000
theorem ajV{op a:Int}{t:Bool}(h:(oo op a t).2.2=0):rl op [a] t=.v (oo op a t).1 (oo op a t).2.1:=aap h
theorem agz{op a:Int}{t:Bool}(h:¬(oo op a t).2.2=0):rl op [a] t=.f (oo op a t).2.2:=aah h
theorem ajW{op a b:Int}{t:Bool}(h:(kl op a b t).2.2=0):rl op [a,b] t=.v (kl op a b t).1 (kl op a b t).2.1:=aap h
theorem agA{op a b:Int}{t:Bool}(h:¬(kl op a b t).2.2=0):rl op [a,b] t=.f (kl op a b t).2.2:=aah h
section
variable {p:Pg} (J:p.vars.length<=1000) (I:∀w∈p.vars,dB w=true)
include J I
theorem agB{op line:Int}{y:Ex}(A1:op=6\/op=7)(H:KV p y)(A4:RI p y):KV p (.mk op 0 [] [] [y] line):=by
 intro C f M;have T:¬op=1:=by omega
 have U:¬op=2:=by omega
 have V:¬op=3:=by omega
 have Y:¬op=4:=by omega
 have Z:¬op=5:=by omega
 have A:=H C f M;rw[NP _ _ _ _ (by omega),s7 (by simp)];cases D:cf p.vars C y with
 |f e=>
  rw[D]at A;simp at A;simp[f251,T,U,V,Y,Z];rw[ai];simp[f251,aZ,A]
 |v a t=>
  rw[D]at A;have N:=Kp op a t (A4 C a t M D);by_cases E:(oo op a t).2.2=0
  ·simp only
   rw[ajV E];generalize oo op a t=r at*;obtain⟨A5,A6,A7⟩:=r;simp only at E;subst E;simp at A N;simp[f251,T,U,V,Y,Z];rw[ai];simp[f251,aZ,A];rw[ai];simp[f251,aZ,N]
  ·simp only
   rw[agz E];generalize oo op a t=r at*;obtain⟨A5,A6,A7⟩:=r;simp only at E;simp at A N;simp[f251,T,U,V,Y,Z];rw[ai];simp[f251,aZ,A];rw[ai];simp[f251,aZ,N,E,kp]
theorem agC{op line:Int}{y z:Ex}(A1:8<=op/\op<=21)(H:KV p y)(A4:RI p y)(A8:KV p z)(AD:RI p z):KV p (.mk op 0 [] [] [y,z] line):=by
 intro C f M;have T:¬op=1:=by omega
 have U:¬op=2:=by omega
 have V:¬op=3:=by omega
 have Y:¬op=4:=by omega
 have Z:¬op=5:=by omega
 have A:=H C f M;have q:=A8 C f M;rw[NQ _ _ _ _ _ (by omega),s7 (by simp)];cases D:cf p.vars C y with
 |f e=>
  rw[D]at A;simp at A;simp[f251,T,U,V,Y,Z];rw[ai];simp[f251,aZ,A]
 |v a t=>
  rw[D]at A;cases A9:cf p.vars C z with
  |f e=>
   rw[A9]at q;simp at A q;simp[f251,T,U,V,Y,Z];rw[ai];simp[f251,aZ,A];rw[ai];simp[f251,aZ,q]
  |v b t2=>
   rw[A9]at q;have N:=uU op a b t2 (A4 C a t M D) (AD C b t2 M A9);have A':IntKind.i64.wrap 1=1:=rfl;have A3:IntKind.i64.wrap 2=2:=rfl;by_cases E:(kl op a b t2).2.2=0
   ·simp only
    rw[ajW E];generalize kl op a b t2=r at*;obtain⟨A5,A6,A7⟩:=r;simp only at E;subst E;simp at A q N;simp[f251,T,U,V,Y,Z];rw[ai];simp[f251,aZ,A,A'];rw[ai];simp[f251,aZ,q,A',A3];rw[ai];simp[f251,aZ,N,A',A3]
   ·simp only
    rw[agA E];generalize kl op a b t2=r at*;obtain⟨A5,A6,A7⟩:=r;simp only at E;simp at A q N;simp[f251,T,U,V,Y,Z];rw[ai];simp[f251,aZ,A,A'];rw[ai];simp[f251,aZ,q,A',A3];rw[ai];simp[f251,aZ,N,E,kp,A',A3]
theorem ajX{x:Ex}(AE:XC p.vars x)(ih:∀y∈cR x,KV p y/\RI p y):KV p x:=by
 cases AE with
 |num h=>exact agt J I
 |ri h=>exact agu J I
 |var D AA A2=>exact agv J I D AA A2
 |@idx name line v y D AA A2 AB AC ty=>exact agx J I D AA A2 (ih y (by simp)).1
 |fld D A2 AF O=>exact agw J I D A2 AF
 |@one op line y A1 AB AC ty=>exact agB J I A1 (ih y (by simp)).1 (ih y (by simp)).2
 |@two op line y z A1 AB AC AJ AK ty AL=>exact agC J I A1 (ih y (by simp)).1 (ih y (by simp)).2 (ih z (by simp)).1 (ih z (by simp)).2
mutual
theorem UQ:∀x:Ex,dJ x=true->mH x=true->(aR p.vars x).e=0->KV p x/\RI p x
 | .mk op n name field sub line,O,A0,he=>by
  have AG:=abc O he;have AH:=(Nz O).2;have AI:=(abd A0).2;have h:=NS sub AH AI AG;exact⟨ajX J I (EJ O he) h,ajU I (EJ O he) A0 (λy H=>(h y H).2)⟩
theorem NS:∀l:List Ex,cS l=true->mh l=true->(∀y∈l,(aR p.vars y).e=0)->∀y∈l,KV p y/\RI p y
 |[],_,_,_,y,H=>absurd H (acX)
 |x::r,O,A0,he,y,H=>by
  simp only[cS,Ds]at O;simp only[mh,Ds]at A0;rcases aan.1 H with E|H
  ·rw[E];exact UQ x O.1 A0.1 (he x (by simp))
  ·exact NS r O.2 A0.2 (λz A8=>he z (by simp[A8])) y H
end
end
theorem iR{p:Pg}{x:Ex}(h:KV p x){C:List Int}{f:Nat}(M:eD p C):ah ctx 203 [.ptr 0 0 0,.d (.agg [.int .i64 (cB x),.int .i64 (iN x),.str (ec x),.str (fa x),.list ((cR x).map du),.int .i64 (m5 x)])] (iQ p C f)=mnW p C f (cf p.vars C x):=by
 have A:=h C f M;rw[aet (by simp)];cases D:cf p.vars C x with
 |f e=>
  rw[D]at A;simp at A;simp[f203,A]
 |v n t=>
  rw[D]at A;simp at A;simp[f203,A]
def NT(p:Pg)(q:Rr)(v:Nat):bW:=
 match q with
 |(.ft e,s)=>some (.panic 103 (kp e),oX p s.cells s.fuel v)
 |(_,s)=>some (.ret (.bM []),oX p s.cells s.fuel v)
def NU(p:Pg)(q:Rr)(r:bW):Prop:=∃v,r=NT p q v
def eT:Hw->Int
 | .lv=>1
 | .rt=>2
 |_=>0
def eU(p:Pg)(q:Rr)(v:Nat):bW:=
 match q with
 |(.ft e,s)=>some (.panic 103 (kp e),oX p s.cells s.fuel v)
 |(h,s)=>some (.ret (.d (.int .i64 (eT h))),oX p s.cells s.fuel v)
def kT(p:Pg)(q:Rr)(r:bW):Prop:=∃v,r=eU p q v
theorem eD.put{p:Pg}{C:List Int}(h:eD p C)(k:Int){n:Int}(A3:aG n):eD p (ek C k n):=by
 refine⟨by simpa using h.len,by simpa using h.le,λc A0=>?_⟩;unfold ek at A0;rcases List.mem_or_eq_of_mem_set A0 with A|A
 ·exact h.num c A
 ·rw[A];exact A3
section
variable {p:Pg} (M:p.vars.length<=1000) (N:∀w∈p.vars,dB w=true)
include M N
theorem ajY{name:Tx}{I Y:Int}{w:Vr}{val:Ex}(hw:bu p.vars name=some w)(T:w.arr=false)(A1:w.ty<=2)(Z:KV p val)(C:List Int)(f:Nat)(J:eD p C):
 NU p (tc p.vars (.mk 3 0 name [] [] I) val ⟨C,f⟩) (ah ctx 143 [.ptr 0 0 0,.d (cw (.mk 1 [] (.mk 3 0 name [] [] I) val [] [] [] [] Y))] (iQ p C f)):=by
 have A:=rZ M hw C f;have D:=iR Z (f:=f) J;have U:=Jn M N hw T A1 J;obtain⟨a,V⟩:∃a:Nat,(dw p.vars name).1=a:=⟨(dw p.vars name).1.toNat,by omega⟩;rw[V]at A;have A':a<C.length:=by omega
 have e:tc p.vars (.mk 3 0 name [] [] I) val ⟨C,f⟩=vR (cf p.vars C val) ⟨C,f⟩ (λn=>(.on,⟨ek C a n,f⟩)):=by simp[tc,V]
 rw[e,Ue (by simp)];cases O:cf p.vars C val with
 |f e=>
  rw[O]at D;simp[bn,dk]at A D;simp[f143,b6,aZ,A,D,aj];exact⟨_,rfl⟩
 |v n t=>
  rw[O]at D;simp[bn,dk]at A D;simp[f143,b6,aZ,A,D,A',aj];refine⟨0,?_⟩;simp[vR,NT,ek,List.map_set]
theorem ajZ{name:Tx}{I Y:Int}{w:Vr}{y val:Ex}(hw:bu p.vars name=some w)(T:w.arr=true)(A1:w.ty<=2)(A4:KV p y)(Z:KV p val)(C:List Int)(f:Nat)(J:eD p C):
 NU p (tc p.vars (.mk 4 0 name [] [y] I) val ⟨C,f⟩) (ah ctx 143 [.ptr 0 0 0,.d (cw (.mk 1 [] (.mk 4 0 name [] [y] I) val [] [] [] [] Y))] (iQ p C f)):=by
 have A:=rZ M hw C f;have hle:=DP M N hw J;have A5:=aaB M N hw T;have E:=iR A4 (f:=f) J;have D:=iR Z (f:=f) J;have H:=λn=>F5 (a:=(dw p.vars name).1) (n:=n) (w:=w) ⟨hle.1,by omega⟩ A5;have e:tc p.vars (.mk 4 0 name [] [y] I) val ⟨C,f⟩=vR (cf p.vars C y) ⟨C,f⟩ (λk=>vR (cf p.vars C val) ⟨C,f⟩ λn=>EM C f (dw p.vars name).1 w k n):=by simp[tc,DD,ny hw]
 rw[e,Ue (by simp)];clear e;cases O:cf p.vars C y with
 |f e=>
  rw[O]at E;simp[bn,dk]at A E;simp[f143,b6,aZ,A,E,aj];exact⟨_,rfl⟩
 |v k t=>
  rw[O]at E;cases A2:cf p.vars C val with
  |f e=>
   rw[A2]at D;simp[bn,dk]at A E D;simp[f143,b6,aZ,A,E,D,aj];exact⟨_,rfl⟩
  |v n t=>
   rw[A2]at D;have H:=H k;simp only[vR,EM];by_cases U:k<w.lo\/w.hi<k
   ·rw[aap U]at H⊢;simp[bn,dk]at A E D H;simp[f143,b6,aZ,A,E,D,H,aj];exact⟨_,rfl⟩
   ·rw[aah U]at H⊢;have A6:=UJ (v:=C.length) N J.len hw T U;obtain⟨a,V⟩:∃a:Nat,(dw p.vars name).1+(k-w.lo)=a:=⟨((dw p.vars name).1+(k-w.lo)).toNat,by omega⟩;rw[V]at H A6⊢;have A':a<C.length:=by omega
    simp[bn,dk]at A E D H;simp[f143,b6,aZ,A,E,D,H,A',aj];refine⟨0,?_⟩;simp[NT,ek,List.map_set]
end
end Go.Am
end

/-
  Texts of one proof, one behind the other.
-/
import Derived.Test.YtccmboenpbjhnaaGreatDoorB4
import Derived.ProofKit
import Derived.ChangeArms
import Derived.ChangeCalls
set_option linter.all false
section
namespace Go.Am
open Go Go.Proofs Go.Proofs.Tryz
variable [Inhabited bI]
set_option maxRecDepth 20000
@[simp] def bm(x:Sm):ay:=.box [.d (.int .i64 (bj x)),.d (.str (gM x)),.d (.int .i64 (bO (eB x))),.d (.int .i64 (fW (eB x))),.d (.str (dS (eB x))),.d (.str (eS (eB x))),.d (.list ((cV (eB x)).map bL)),.d (.int .i64 (jq (eB x))),
 .d (.int .i64 (bO (dc x))),.d (.int .i64 (fW (dc x))),.d (.str (dS (dc x))),.d (.str (eS (dc x))),.d (.list ((cV (dc x)).map bL)),.d (.int .i64 (jq (dc x))),.d (.list ((bJ x).map bL)),.d (.list ((cM x).map il)),.d (.list ((dE x).map .str)),.d (.list ((aQ x).map lS)),.d (.int .i64 (kS x))]
@[simp] def ja(v:Vr):ay:=.box [.d (.str v.name),.d (.int .i64 v.ty),.d (.int .i64 v.sec),.d (.bool v.arr),.d (.int .i64 v.lo),.d (.int .i64 v.hi),.d (.int .i64 v.init),.d (.int .i64 v.line)]
theorem Ym{v:Vr}(D:dQ v=true):ah ctx 72 [.d (bx v)] []=some (.ret (.d (.int .i64 (cq v))),[]):=by
 have H:=FK v.ty;rw[alh (by simp)];unfold cq;cases A:v.arr with
 |true=>
  simp only[dQ,Ds,A,aes,abQ]at D;have I:IntKind.i64.wrap (v.hi-v.lo)=v.hi-v.lo:=aH (by unfold aI;omega);have J:IntKind.i64.wrap (v.hi-v.lo+1)=v.hi-v.lo+1:=aH (by unfold aI;omega);simp[f72,bx,dK,A,I,J]
 |false=>
  by_cases E:2<v.ty
  ·simp[f72,bx,dK,A,E,H]
  ·simp[f72,bx,dK,A,E]
theorem B1{v:Vr}(D:dQ v=true):0<=cq v/\cq v<=256:=by
 have:=Ax v.ty;unfold cq;cases A:v.arr with
 |true=>
  simp only[dQ,Ds,A,aes,abQ]at D;simp only[aes];omega
 |false=>
  simp only[ahG,ad0];split<;>omega
@[reducible] noncomputable def bX(p:List Nat):Code:=Code.at (bq f37) p
section
variable {x:Sm} {v:Nat} {k:Kt} {R1:cd} {a b:AV} (A:k .ret ⟨258,aC,[(2,true,.d (.bool false))],[⟨300,v,bm x⟩]⟩=R1)
def JE(x:Sm):Bool:=decide (1<=bj x/\bj x<=9)&&(if bj x=4\/bj x=9 then dn (gM x)else decide (gM x=[]))
def JF(x:Sm):Bool:=if bj x=1 then decide (bO (eB x)=3\/bO (eB x)=4)&&bH (eB x)else dL (eB x)
def FL(x:Sm):Bool:=(if bj x=1\/bj x=3\/bj x=5\/bj x=6 then !dL (dc x)&&bH (dc x)else dL (dc x))&&bG (bJ x)
include A
theorem arT{d6 d7:AV}:aN ctx 37 (bX [1,0,1,0,0,1,0,0,1,1,0]) ⟨258,aC,[(0,true,a),(3,true,b),(4,true,.ptr 300 v 0),(5,true,.d (.bool (decide (bj x=4\/bj x=9)))),(6,true,d6),(7,true,d7)],[⟨300,v,bm x⟩]⟩ k=
 if JE x=true then k .normal ⟨258,aC,[(0,true,a),(3,true,b),(4,true,.ptr 300 v 0),(6,true,d6),(7,true,d7),(59,true,.d (.bool false))],[⟨300,v,bm x⟩]⟩else R1:=by
 have M:=eH (gM x);unfold JE;simp only[bm]at A;generalize dn (gM x)=N at*;by_cases D:bj x<1
 ·have J:¬1<=bj x:=by omega
  simp[bX,f37];simp[D,J,A]
 ·have J:1<=bj x:=by omega
  by_cases U:9<bj x
  ·have E:¬bj x<=9:=by omega
   simp[bX,f37];simp[D,J,U,E,A]
  ·have E:bj x<=9:=by omega
   by_cases H:bj x=4
   ·simp only[H]at A⊢;cases N<;>(simp[bX,f37];simp[H,M,A])
   ·by_cases O:bj x=9
    ·simp only[O]at A⊢;cases N<;>(simp[bX,f37];simp[O,M,A])
    ·by_cases he:gM x=[]
     ·simp only[he]at A⊢;simp[bX,f37];simp[D,J,U,E,H,O,he,A]
     ·simp[bX,f37];simp[D,J,U,E,H,O,he,A]
theorem arU{d7:AV}(V:(dS (eB x)).length<100000000/\(eS (eB x)).length<100000000/\(cV (eB x)).length<100000000)(I:KF [eB x]):aN ctx 37 (bX [1,0,1,0,0,1,0,0,1,1,1,0]) ⟨258,aC,[(0,true,a),(3,true,b),(4,true,.ptr 300 v 0),(6,true,.d (.bool (decide (bj x=1)))),(7,true,d7),(59,true,.d (.bool false))],[⟨300,v,bm x⟩]⟩ k=
 if JF x=true then k .normal ⟨258,aC,[(0,true,a),(3,true,b),(4,true,.ptr 300 v 0),(7,true,d7),(89,true,.d (.bool false))],[⟨300,v,bm x⟩]⟩else R1:=by
 have M:=Oy V;unfold KF at I;simp[au,bG]at I;unfold JF;simp only[bm]at A;generalize dL (eB x)=N at*;generalize bH (eB x)=T at*;by_cases D:bj x=1
 ·simp only[D]at A;by_cases E:bO (eB x)=3
  ·simp only[E]at A I;cases T<;>(simp[bX,f37];simp[D,E,I,A])
  ·by_cases H:bO (eB x)=4
   ·simp only[H]at A I;cases T<;>(simp[bX,f37];simp[D,H,I,A])
   ·simp[bX,f37];simp[D,E,H,A]
 ·cases N<;>(simp[bX,f37];simp[D,M,A])
end
section
variable {x:Sm} {v:Nat} {k:Kt} {R1:cd} {a b:AV}
theorem arV(A:k .ret ⟨258,aC,[(2,true,.d (.bool false))],[⟨300,v,bm x⟩]⟩=R1){V:Bool}(A5:V=decide (bj x=1\/bj x=3\/bj x=5\/bj x=6))(A6:(dS (dc x)).length<100000000/\(eS (dc x)).length<100000000/\(cV (dc x)).length<100000000)(A2:KF [dc x])(A3:KF (bJ x)):aN ctx 37 (bX [1,0,1,0,0,1,0,0,1,1,1,1,0]) ⟨258,aC,[(0,true,a),(3,true,b),(4,true,.ptr 300 v 0),(7,true,.d (.bool V)),(89,true,.d (.bool false))],[⟨300,v,bm x⟩]⟩ k=
 if FL x=true then k .normal ⟨258,aC,[(0,true,a),(3,true,b),(4,true,.ptr 300 v 0),(118,true,.d (.bool false))],[⟨300,v,bm x⟩]⟩else R1:=by
 have A4:=Oy A6;unfold KF at A2 A3;simp[au,bG]at A2;have e:FL x=((if V=true then !dL (dc x)&&bH (dc x)else dL (dc x))&&bG (bJ x)):=by
  unfold FL;rw[A5];by_cases h:bj x=1\/bj x=3\/bj x=5\/bj x=6
  ·rw[abT h,abT (by simpa using h)]
  ·rw[abN h,abN (by simpa using h)]
 rw[e];simp only[bm]at A;generalize dL (dc x)=N at*;generalize bH (dc x)=T at*;generalize bG (bJ x)=W at*;clear A5 e;cases V with
 |true=>
  cases N with
  |true=>(simp[bX,f37];simp[A4,A])
  |false=>cases T<;>cases W<;>(simp[bX,f37];simp[A4,A2,A3,A])
 |false=>cases N<;>cases W<;>(simp[bX,f37];simp[A4,A3,A])
theorem arW{X:Env}:aN ctx 37 (bX [1,0,1,0,0,1,0,0,1,1,1,1,1,0]) ⟨258,aC,[(0,true,a),(3,true,b),(4,true,.ptr 300 v 0),(118,true,.d (.bool false))],[⟨300,v,bm x⟩]⟩ k=
 k .normal ⟨258,aC,[(0,true,a),(3,true,b),(4,true,.ptr 300 v 0),(8,true,.d (.int .i64 0)),(9,true,.d (.int .i64 0)),(10,true,.d (.int .i64 0)),(11,true,.d (.int .i64 0)),(12,true,.d (.int .i64 0))],[⟨300,v,bm x⟩]⟩:=by
 simp[bX,f37]
def AA(n:Int):Int:=if 1<n then n else 1
def pN(x:Sm):Int:=if bj x=2 then AA (bJ x).length else if bj x=4 then 3 else if bj x=9 then (dE x).length else 0
def pO(x:Sm):Int:=if bj x=3 then (cM x).length else 0
def l8(x:Sm):Int:=if bj x=9 then (dE x).length else 0
def iV(x:Sm):Int:=if bj x=2 then AA (bJ x).length else if bj x=3 then (cM x).length else if bj x=4\/bj x=5\/bj x=6 then 1 else 0
def jt(x:Sm):Int:=if bj x=2\/bj x=3 then 1 else 0
def cX(x:Sm):Env:=if bj x=2\/bj x=3\/bj x=4\/bj x=5\/bj x=6\/bj x=9 then []else [(144,true,.d (.bool false))]
theorem agS(Z:bj x=2):aN ctx 37 (bX [1,0,1,0,0,1,0,0,1,1,1,1,1,1,0]) ⟨258,aC,[(0,true,a),(3,true,b),(4,true,.ptr 300 v 0),(8,true,.d (.int .i64 0)),(9,true,.d (.int .i64 0)),(10,true,.d (.int .i64 0)),(11,true,.d (.int .i64 0)),(12,true,.d (.int .i64 0))],[⟨300,v,bm x⟩]⟩ k=
 k .normal ⟨258,aC,[(0,true,a),(3,true,b),(4,true,.ptr 300 v 0),(8,true,.d (.int .i64 (pN x))),(9,true,.d (.int .i64 (pO x))),(10,true,.d (.int .i64 (l8 x))),(11,true,.d (.int .i64 (iV x))),(12,true,.d (.int .i64 (jt x)))]++cX x,[⟨300,v,bm x⟩]⟩:=by
 unfold pN pO l8 iV jt cX;simp[bX,f37];simp[Z,aj,AA]
theorem agT(q:bj x=3):aN ctx 37 (bX [1,0,1,0,0,1,0,0,1,1,1,1,1,1,0]) ⟨258,aC,[(0,true,a),(3,true,b),(4,true,.ptr 300 v 0),(8,true,.d (.int .i64 0)),(9,true,.d (.int .i64 0)),(10,true,.d (.int .i64 0)),(11,true,.d (.int .i64 0)),(12,true,.d (.int .i64 0))],[⟨300,v,bm x⟩]⟩ k=
 k .normal ⟨258,aC,[(0,true,a),(3,true,b),(4,true,.ptr 300 v 0),(8,true,.d (.int .i64 (pN x))),(9,true,.d (.int .i64 (pO x))),(10,true,.d (.int .i64 (l8 x))),(11,true,.d (.int .i64 (iV x))),(12,true,.d (.int .i64 (jt x)))]++cX x,[⟨300,v,bm x⟩]⟩:=by
 unfold pN pO l8 iV jt cX;simp[bX,f37];simp[q,aj,AA]
theorem agU(y:bj x=4):aN ctx 37 (bX [1,0,1,0,0,1,0,0,1,1,1,1,1,1,0]) ⟨258,aC,[(0,true,a),(3,true,b),(4,true,.ptr 300 v 0),(8,true,.d (.int .i64 0)),(9,true,.d (.int .i64 0)),(10,true,.d (.int .i64 0)),(11,true,.d (.int .i64 0)),(12,true,.d (.int .i64 0))],[⟨300,v,bm x⟩]⟩ k=
 k .normal ⟨258,aC,[(0,true,a),(3,true,b),(4,true,.ptr 300 v 0),(8,true,.d (.int .i64 (pN x))),(9,true,.d (.int .i64 (pO x))),(10,true,.d (.int .i64 (l8 x))),(11,true,.d (.int .i64 (iV x))),(12,true,.d (.int .i64 (jt x)))]++cX x,[⟨300,v,bm x⟩]⟩:=by
 unfold pN pO l8 iV jt cX;simp[bX,f37];simp[y,aj,AA]
theorem agV(A':bj x=5):aN ctx 37 (bX [1,0,1,0,0,1,0,0,1,1,1,1,1,1,0]) ⟨258,aC,[(0,true,a),(3,true,b),(4,true,.ptr 300 v 0),(8,true,.d (.int .i64 0)),(9,true,.d (.int .i64 0)),(10,true,.d (.int .i64 0)),(11,true,.d (.int .i64 0)),(12,true,.d (.int .i64 0))],[⟨300,v,bm x⟩]⟩ k=
 k .normal ⟨258,aC,[(0,true,a),(3,true,b),(4,true,.ptr 300 v 0),(8,true,.d (.int .i64 (pN x))),(9,true,.d (.int .i64 (pO x))),(10,true,.d (.int .i64 (l8 x))),(11,true,.d (.int .i64 (iV x))),(12,true,.d (.int .i64 (jt x)))]++cX x,[⟨300,v,bm x⟩]⟩:=by
 unfold pN pO l8 iV jt cX;simp[bX,f37];simp[A',aj,AA]
theorem agW(A0:bj x=6):aN ctx 37 (bX [1,0,1,0,0,1,0,0,1,1,1,1,1,1,0]) ⟨258,aC,[(0,true,a),(3,true,b),(4,true,.ptr 300 v 0),(8,true,.d (.int .i64 0)),(9,true,.d (.int .i64 0)),(10,true,.d (.int .i64 0)),(11,true,.d (.int .i64 0)),(12,true,.d (.int .i64 0))],[⟨300,v,bm x⟩]⟩ k=
 k .normal ⟨258,aC,[(0,true,a),(3,true,b),(4,true,.ptr 300 v 0),(8,true,.d (.int .i64 (pN x))),(9,true,.d (.int .i64 (pO x))),(10,true,.d (.int .i64 (l8 x))),(11,true,.d (.int .i64 (iV x))),(12,true,.d (.int .i64 (jt x)))]++cX x,[⟨300,v,bm x⟩]⟩:=by
 unfold pN pO l8 iV jt cX;simp[bX,f37];simp[A0,aj,AA]
theorem agX(D:bj x=9):aN ctx 37 (bX [1,0,1,0,0,1,0,0,1,1,1,1,1,1,0]) ⟨258,aC,[(0,true,a),(3,true,b),(4,true,.ptr 300 v 0),(8,true,.d (.int .i64 0)),(9,true,.d (.int .i64 0)),(10,true,.d (.int .i64 0)),(11,true,.d (.int .i64 0)),(12,true,.d (.int .i64 0))],[⟨300,v,bm x⟩]⟩ k=
 k .normal ⟨258,aC,[(0,true,a),(3,true,b),(4,true,.ptr 300 v 0),(8,true,.d (.int .i64 (pN x))),(9,true,.d (.int .i64 (pO x))),(10,true,.d (.int .i64 (l8 x))),(11,true,.d (.int .i64 (iV x))),(12,true,.d (.int .i64 (jt x)))]++cX x,[⟨300,v,bm x⟩]⟩:=by
 unfold pN pO l8 iV jt cX;simp[bX,f37];simp[D,aj,AA]
theorem agY(Z:¬bj x=2)(q:¬bj x=3)(y:¬bj x=4)(A':¬bj x=5)(A0:¬bj x=6)(D:¬bj x=9):aN ctx 37 (bX [1,0,1,0,0,1,0,0,1,1,1,1,1,1,0]) ⟨258,aC,[(0,true,a),(3,true,b),(4,true,.ptr 300 v 0),(8,true,.d (.int .i64 0)),(9,true,.d (.int .i64 0)),(10,true,.d (.int .i64 0)),(11,true,.d (.int .i64 0)),(12,true,.d (.int .i64 0))],[⟨300,v,bm x⟩]⟩ k=
 k .normal ⟨258,aC,[(0,true,a),(3,true,b),(4,true,.ptr 300 v 0),(8,true,.d (.int .i64 (pN x))),(9,true,.d (.int .i64 (pO x))),(10,true,.d (.int .i64 (l8 x))),(11,true,.d (.int .i64 (iV x))),(12,true,.d (.int .i64 (jt x)))]++cX x,[⟨300,v,bm x⟩]⟩:=by
 unfold pN pO l8 iV jt cX;simp[bX,f37];simp[Z,q,y,A',A0,D,aj,AA]
theorem arX:aN ctx 37 (bX [1,0,1,0,0,1,0,0,1,1,1,1,1,1,0]) ⟨258,aC,[(0,true,a),(3,true,b),(4,true,.ptr 300 v 0),(8,true,.d (.int .i64 0)),(9,true,.d (.int .i64 0)),(10,true,.d (.int .i64 0)),(11,true,.d (.int .i64 0)),(12,true,.d (.int .i64 0))],[⟨300,v,bm x⟩]⟩ k=
 k .normal ⟨258,aC,[(0,true,a),(3,true,b),(4,true,.ptr 300 v 0),(8,true,.d (.int .i64 (pN x))),(9,true,.d (.int .i64 (pO x))),(10,true,.d (.int .i64 (l8 x))),(11,true,.d (.int .i64 (iV x))),(12,true,.d (.int .i64 (jt x)))]++cX x,[⟨300,v,bm x⟩]⟩:=by
 by_cases Z:bj x=2
 ·exact agS Z
 ·by_cases q:bj x=3
  ·exact agT q
  ·by_cases y:bj x=4
   ·exact agU y
   ·by_cases A':bj x=5
    ·exact agV A'
    ·by_cases A0:bj x=6
     ·exact agW A0
     ·by_cases D:bj x=9
      ·exact agX D
      ·exact agY Z q y A' A0 D
theorem alq(A:k .ret ⟨258,aC,[(2,true,.d (.bool false))],[⟨300,v,bm x⟩]⟩=R1){M O U E I:Int}(hw:IntKind.i64.wrap (E+I)=E+I):aN ctx 37 (bX [1,0,1,0,0,1,0,0,1,1,1,1,1,1,1,0]) ⟨258,aC,[(0,true,a),(3,true,b),(4,true,.ptr 300 v 0),(8,true,.d (.int .i64 M)),(9,true,.d (.int .i64 O)),(10,true,.d (.int .i64 U)),(11,true,.d (.int .i64 E)),(12,true,.d (.int .i64 I))],[⟨300,v,bm x⟩]⟩ k=
 if (((bJ x).length:Int)=M/\((cM x).length:Int)=O/\((dE x).length:Int)=U/\¬((aQ x).length:Int)<E/\¬E+I<((aQ x).length:Int))then k .normal ⟨258,aC,[(0,true,a),(3,true,b),(4,true,.ptr 300 v 0),(186,true,.d (.bool false))],[⟨300,v,bm x⟩]⟩else R1:=by
 simp only[bm]at A;by_cases H:((bJ x).length:Int)=M
 ·by_cases D:((cM x).length:Int)=O
  ·by_cases J:((dE x).length:Int)=U
   ·by_cases Y:((aQ x).length:Int)<E
    ·(simp[bX,f37];simp[H,D,J,Y,A];intros;exfalso;omega)
    ·by_cases A1:E+I<((aQ x).length:Int)
     ·(simp[bX,f37];simp[H,D,J,Y,hw,A1,A];intros;exfalso;omega)
     ·(simp[bX,f37];simp[H,D,J,Y,hw,A1,A])
   ·(simp[bX,f37];simp[H,D,J,A])
  ·(simp[bX,f37];simp[H,D,A])
 ·(simp[bX,f37];simp[H,A])
theorem alr(A:k .ret ⟨258,aC,[(2,true,.d (.bool false))],[⟨300,v,bm x⟩]⟩=R1){M O U E I:Int}(hw:IntKind.i64.wrap (E+I)=E+I):aN ctx 37 (bX [1,0,1,0,0,1,0,0,1,1,1,1,1,1,1,0]) ⟨258,aC,[(0,true,a),(3,true,b),(4,true,.ptr 300 v 0),(8,true,.d (.int .i64 M)),(9,true,.d (.int .i64 O)),(10,true,.d (.int .i64 U)),(11,true,.d (.int .i64 E)),(12,true,.d (.int .i64 I)),(144,true,.d (.bool false))],[⟨300,v,bm x⟩]⟩ k=
 if (((bJ x).length:Int)=M/\((cM x).length:Int)=O/\((dE x).length:Int)=U/\¬((aQ x).length:Int)<E/\¬E+I<((aQ x).length:Int))then k .normal ⟨258,aC,[(0,true,a),(3,true,b),(4,true,.ptr 300 v 0),(186,true,.d (.bool false))],[⟨300,v,bm x⟩]⟩else R1:=by
 simp only[bm]at A;by_cases H:((bJ x).length:Int)=M
 ·by_cases D:((cM x).length:Int)=O
  ·by_cases J:((dE x).length:Int)=U
   ·by_cases Y:((aQ x).length:Int)<E
    ·(simp[bX,f37];simp[H,D,J,Y,A];intros;exfalso;omega)
    ·by_cases A1:E+I<((aQ x).length:Int)
     ·(simp[bX,f37];simp[H,D,J,Y,hw,A1,A];intros;exfalso;omega)
     ·(simp[bX,f37];simp[H,D,J,Y,hw,A1,A])
   ·(simp[bX,f37];simp[H,D,J,A])
  ·(simp[bX,f37];simp[H,D,A])
 ·(simp[bX,f37];simp[H,A])
end
def KS(b:List Sm):Prop:=ah ctx 37 [.d (.list (b.map cK))] []=some (.ret (.d (.bool (eh b))),[])
section
variable {x:Sm} {v:Nat} {k:Kt} {R1 R2:cd} {a b:AV}
theorem JH(M:(dE x).length<100000000)(D:k .ret ⟨258,aC,[(2,true,.d (.bool false))],[⟨300,v,bm x⟩]⟩=R1)
 (E:k (.exit 3) ⟨258,aC,[(0,true,a),(3,true,b),(4,true,.ptr 300 v 0),(13,true,.d (.int .i64 (dE x).length)),(191,true,.d (.bool false))],[⟨300,v,bm x⟩]⟩=R2):∀(rest pre:List Tx),dE x=pre++rest->
 aN ctx 37 (.loop (bX [1,0,1,0,0,1,0,0,1,1,1,1,1,1,1,1,0,1,0,0])) ⟨258,aC,[(0,true,a),(3,true,b),(4,true,.ptr 300 v 0),(13,true,.d (.int .i64 pre.length))],[⟨300,v,bm x⟩]⟩ k=if rest.all dn=true then R2 else R1
 |[],pre,A=>by
  have O:pre.length=(dE x).length:=by rw[A];simp
  simp only[bm]at E;rw[O,ag];simp[bX,f37,E]
 |c::rest,pre,A=>by
  have H:pre.length<(dE x).length:=by rw[A];simp
  have I:(dE x)[pre.length]=c:=by simp[A]
  have ih:=JH M D E rest (pre++[c]) (by simp[A]);have J:=eH c;have T:IntKind.i64.wrap ((pre.length:Int)+1)=(pre.length:Int)+1:=aH (by unfold aI;omega);simp only[bm]at D;rw[aia];generalize dn c=N at*;rw[ag];cases N with
  |true=>
   simp[bX,f37]at ih⊢;simp[H,I,J,T,ih]
  |false=>
   simp[bX,f37];simp[H,I,J,D]
theorem JI{l:List Int}{i:Nat}(hi:i<(cM x).length)(U:(cM x)[i]=l)(M:l.length<100000000)(D:k .ret ⟨258,aC,[(2,true,.d (.bool false))],[⟨300,v,bm x⟩]⟩=R1)
 (E:k (.exit 7) ⟨258,aC,[(0,true,a),(3,true,b),(4,true,.ptr 300 v 0),(14,true,.d (.int .i64 i)),(15,true,.d (.int .i64 l.length)),(232,true,.d (.bool false))],[⟨300,v,bm x⟩]⟩=R2):∀(rest pre:List Int),l=pre++rest->
 aN ctx 37 (.loop (bX [1,0,1,0,0,1,0,0,1,1,1,1,1,1,1,1,1,0,1,0,0,1,0,0,1,1,0,0])) ⟨258,aC,[(0,true,a),(3,true,b),(4,true,.ptr 300 v 0),(14,true,.d (.int .i64 i)),(15,true,.d (.int .i64 pre.length))],[⟨300,v,bm x⟩]⟩ k=if rest.all (λn=>decide (n≠ -9223372036854775808))=true then R2 else R1
 |[],pre,A=>by
  have O:pre.length=l.length:=by rw[A];simp
  simp only[bm]at E;rw[O,ag];simp[bX,f37];simp[hi,U,il,E]
 |c::rest,pre,A=>by
  have H:pre.length<l.length:=by rw[A];simp
  have I:l[pre.length]=c:=by simp[A]
  have ih:=JI hi U M D E rest (pre++[c]) (by simp[A]);have T:IntKind.i64.wrap ((pre.length:Int)+1)=(pre.length:Int)+1:=aH (by unfold aI;omega);simp only[bm]at D;rw[aia];rw[ag];by_cases V:c= -9223372036854775808
  ·simp[bX,f37];simp[hi,U,il,H,I,V,D]
  ·simp[bX,f37]at ih⊢;simp[hi,U,il,H,I,V,T,ih]
theorem JJ(M:(aQ x).length<100000000)(Y:∀c∈aQ x,KS c)(D:k .ret ⟨258,aC,[(2,true,.d (.bool false))],[⟨300,v,bm x⟩]⟩=R1)
 (E:k (.exit 9) ⟨258,aC,[(0,true,a),(3,true,b),(4,true,.ptr 300 v 0),(16,true,.d (.int .i64 (aQ x).length)),(248,true,.d (.bool false))],[⟨300,v,bm x⟩]⟩=R2):∀(rest pre:List (List Sm)),aQ x=pre++rest->
 aN ctx 37 (.loop (bX [1,0,1,0,0,1,0,0,1,1,1,1,1,1,1,1,1,1,1,0,0])) ⟨258,aC,[(0,true,a),(3,true,b),(4,true,.ptr 300 v 0),(16,true,.d (.int .i64 pre.length))],[⟨300,v,bm x⟩]⟩ k=if cH rest=true then R2 else R1
 |[],pre,A=>by
  have O:pre.length=(aQ x).length:=by rw[A];simp
  simp only[bm]at E;rw[O,ag];simp[bX,f37,E,cH]
 |c::rest,pre,A=>by
  have H:pre.length<(aQ x).length:=by rw[A];simp
  have I:(aQ x)[pre.length]=c:=by simp[A]
  have ih:=JJ M Y D E rest (pre++[c]) (by simp[A]);have J:=Y c (by rw[A];simp);have T:IntKind.i64.wrap ((pre.length:Int)+1)=(pre.length:Int)+1:=aH (by unfold aI;omega);simp only[bm]at D;unfold KS at J;have key:cH (c::rest)=(eh c&&cH rest):=by rw[cH]
  rw[key];generalize eh c=N at*;rw[ag];cases N with
  |true=>
   simp[bX,f37]at ih⊢;simp[H,I,J,lS,T,ih]
  |false=>
   simp[bX,f37];simp[H,I,J,lS,D]
end
section
variable {x:Sm} {v:Nat} {k:Kt} {R1 R2:cd} {a b:AV}
theorem JK(Y:(cM x).length<100000000)(U:∀l∈cM x,l.length<100000000)(A:k .ret ⟨258,aC,[(2,true,.d (.bool false))],[⟨300,v,bm x⟩]⟩=R1)
 (E:k (.exit 5) ⟨258,aC,[(0,true,a),(3,true,b),(4,true,.ptr 300 v 0),(14,true,.d (.int .i64 (cM x).length)),(205,true,.d (.bool false))],[⟨300,v,bm x⟩]⟩=R2):∀(rest pre:List (List Int)),cM x=pre++rest->
 aN ctx 37 (.loop (bX [1,0,1,0,0,1,0,0,1,1,1,1,1,1,1,1,1,0,1,0,0])) ⟨258,aC,[(0,true,a),(3,true,b),(4,true,.ptr 300 v 0),(14,true,.d (.int .i64 pre.length))],[⟨300,v,bm x⟩]⟩ k=if rest.all Az=true then R2 else R1
 |[],pre,D=>by
  have Z:pre.length=(cM x).length:=by rw[D];simp
  simp only[bm]at E;rw[Z,ag];simp[bX,f37,E]
 |c::rest,pre,D=>by
  have I:pre.length<(cM x).length:=by rw[D];simp
  have J:(cM x)[pre.length]=c:=by simp[D]
  have q:=U c (by rw[D];simp);have ih:=JK Y U A E rest (pre++[c]) (by simp[D]);have y:IntKind.i64.wrap ((pre.length:Int)+1)=(pre.length:Int)+1:=aH (by unfold aI;omega);have V:=λk R1 R2 A E=>JI (a:=a) (b:=b) (v:=v) (k:=k) (R1:=R1) (R2:=R2) I J q A E c [] rfl;simp only[bm]at A;rw[aia];have key:Az c=(!decide (c.length=0)&&(decide (c.length%2=0)&&c.all λn=>decide (n≠ -9223372036854775808))):=rfl;rw[key];generalize (c.all λn=>decide (n≠ -9223372036854775808))=B at*;rw[ag];have M:((c.length:Int)).tmod 2=((c.length%2:Nat):Int):=(Int.ofNat_tmod c.length 2).symm;by_cases H:c.length=0
  ·have N:c=[]:=ab8 H;simp[bX,f37];simp[I,J,il,H,N,A]
  ·have N:¬c=[]:=λh=>H (by rw[h];rfl);by_cases T:c.length%2=1
   ·have O:¬c.length%2=0:=by omega
    rw[T]at M;simp[bX,f37];simp[I,J,il,H,N,T,O,M,A]
   ·have O:c.length%2=0:=by omega
    rw[O]at M;simp[bX,f37]at ih V⊢;simp[I,J,il,H,N,T,O,M];rw[V];cases B<;>simp[A,y,ih]
end
section
variable {x:Sm} {v:Nat} {k:Kt} {R1 R2:cd} {a b:AV}
theorem arY(H:(dE x).length<100000000)(A:k .ret ⟨258,aC,[(2,true,.d (.bool false))],[⟨300,v,bm x⟩]⟩=R1):
 aN ctx 37 (bX [1,0,1,0,0,1,0,0,1,1,1,1,1,1,1,1,0]) ⟨258,aC,[(0,true,a),(3,true,b),(4,true,.ptr 300 v 0),(186,true,.d (.bool false))],[⟨300,v,bm x⟩]⟩ k=
 if (dE x).all dn=true then k .normal ⟨258,aC,[(0,true,a),(3,true,b),(4,true,.ptr 300 v 0),(13,true,.d (.int .i64 (dE x).length)),(191,true,.d (.bool false))],[⟨300,v,bm x⟩]⟩else R1:=by
 have D:=λk R1 R2 A E=>JH (a:=a) (b:=b) (v:=v) (k:=k) (R1:=R1) (R2:=R2) H A E (dE x) [] rfl;simp only[bm]at A;generalize (dE x).all dn=B at*;simp[bX,f37]at D⊢;rw[D];cases B<;>simp[A]
theorem arZ(H:(cM x).length<100000000)(T:∀l∈cM x,l.length<100000000)(A:k .ret ⟨258,aC,[(2,true,.d (.bool false))],[⟨300,v,bm x⟩]⟩=R1){d1 d2:AV}:
 aN ctx 37 (bX [1,0,1,0,0,1,0,0,1,1,1,1,1,1,1,1,1,0]) ⟨258,aC,[(0,true,a),(3,true,b),(4,true,.ptr 300 v 0),(13,true,d1),(191,true,d2)],[⟨300,v,bm x⟩]⟩ k=
 if (cM x).all Az=true then k .normal ⟨258,aC,[(0,true,a),(3,true,b),(4,true,.ptr 300 v 0),(14,true,.d (.int .i64 (cM x).length)),(205,true,.d (.bool false))],[⟨300,v,bm x⟩]⟩else R1:=by
 have D:=λk R1 R2 A E=>JK (a:=a) (b:=b) (v:=v) (k:=k) (R1:=R1) (R2:=R2) H T A E (cM x) [] rfl;simp only[bm]at A;generalize (cM x).all Az=B at*;simp[bX,f37]at D⊢;rw[D];cases B<;>simp[A]
theorem ar0(H:(aQ x).length<100000000)(U:∀c∈aQ x,KS c)(A:k .ret ⟨258,aC,[(2,true,.d (.bool false))],[⟨300,v,bm x⟩]⟩=R1){d1 d2:AV}:
 aN ctx 37 (bX [1,0,1,0,0,1,0,0,1,1,1,1,1,1,1,1,1,1]) ⟨258,aC,[(0,true,a),(3,true,b),(4,true,.ptr 300 v 0),(14,true,d1),(205,true,d2)],[⟨300,v,bm x⟩]⟩ k=
 if cH (aQ x)=true then k .normal ⟨258,aC,[(0,true,a),(3,true,b),(4,true,.ptr 300 v 0),(16,true,.d (.int .i64 (aQ x).length)),(248,true,.d (.bool false))],[⟨300,v,bm x⟩]⟩else R1:=by
 have D:=λk R1 R2 A E=>JJ (a:=a) (b:=b) (v:=v) (k:=k) (R1:=R1) (R2:=R2) H U A E (aQ x) [] rfl;simp only[bm]at A;generalize cH (aQ x)=B at*;simp[bX,f37]at D⊢;rw[D];cases B<;>simp[A]
theorem ar1:aN ctx 37 (bX [1,0,1,0,0,1,0,0,1,0]) ⟨258,aC,[(0,true,a),(3,true,b),(4,true,.ptr 300 v 0)],[⟨300,v,bm x⟩]⟩ k=
 k .normal ⟨258,aC,[(0,true,a),(3,true,b),(4,true,.ptr 300 v 0),(5,true,.d (.bool (decide (bj x=4\/bj x=9)))),(6,true,.d (.bool (decide (bj x=1)))),(7,true,.d (.bool (decide (bj x=1\/bj x=3\/bj x=5\/bj x=6))))],[⟨300,v,bm x⟩]⟩:=by
 have V:=Yl (bj x);simp[bX,f37];simp[V]
end
def FM(x:Sm):Bool:=decide (((bJ x).length:Int)=pN x/\((cM x).length:Int)=pO x/\((dE x).length:Int)=l8 x/\¬((aQ x).length:Int)<iV x/\¬iV x+jt x<((aQ x).length:Int))
theorem Sj(x:Sm):FM x=dq (bj x) (bJ x).length (cM x).length (dE x).length (aQ x).length:=by
 unfold FM dq pN pO l8 iV jt AA;generalize bj x=o;generalize (bJ x).length=Y;generalize (cM x).length=Z;generalize (dE x).length=q;generalize (aQ x).length=y;rw[Bool.eq_iff_iff];by_cases E:o=2
 ·subst E;by_cases h:(1:Int)<Y
  ·simp[h];omega
  ·simp[h];omega
 ·by_cases I:o=3
  ·subst I;simp;omega
  ·by_cases J:o=4
   ·subst J;simp;omega
   ·by_cases M:o=5
    ·subst M;simp;omega
    ·by_cases N:o=6
     ·subst N;simp;omega
     ·by_cases O:o=9
      ·subst O;simp;omega
      ·simp[E,I,J,M,N,O]
theorem agZ(x:Sm):jF x=(JE x&&(JF x&&(FL x&&(FM x&&((dE x).all dn&&((cM x).all Az&&cH (aQ x))))))):=by
 rw[Sj];obtain⟨op,name,to,val,A',A0,fields,A1,line⟩:=x;unfold jF JE JF FL;simp only[Bool.and_assoc];rfl
end Go.Am
end
section
namespace Go.Am
open Go Go.Proofs
variable [Inhabited bI]
set_option maxRecDepth 20000
theorem abL(x:Ex):wQ x↔((dS x).length<100000000/\(eS x).length<100000000/\(cV x).length<100000000)/\pv (cV x):=by
 obtain⟨op,nn,name,field,sub,line⟩:=x;simp only[wQ,Ew,Ju,mO]
mutual
def yO:Sm->Prop
 | .mk _ _ to val E H fields I _=>(wQ to/\wQ val/\(E.length<100000000/\pv E)/\(H.length<100000000/\∀l∈H,l.length<100000000)/\fields.length<100000000/\I.length<100000000)/\l9 I
def ke:List Sm->Prop
 |[]=>True
 |x::r=>yO x/\ke r
def l9:List (List Sm)->Prop
 |[]=>True
 |b::r=>(b.length<100000000/\ke b)/\l9 r
end
def uW(x:Sm):Prop:=wQ (eB x)/\wQ (dc x)/\((bJ x).length<100000000/\pv (bJ x))/\((cM x).length<100000000/\∀l∈cM x,l.length<100000000)/\(dE x).length<100000000/\(aQ x).length<100000000
theorem Sk(x:Sm):yO x↔uW x/\l9 (aQ x):=by
 obtain⟨op,name,to,val,E,H,fields,I,line⟩:=x;unfold yO uW;rfl
theorem Yn(x:Sm):cX x=[]\/cX x=[(144,true,.d (.bool false))]:=by
 unfold cX;split
 ·exact .inl rfl
 ·exact .inr rfl
theorem als{x:Sm}(h:uW x):IntKind.i64.wrap (iV x+jt x)=iV x+jt x:=by
 obtain⟨_,_,⟨J,_⟩,⟨AF,_⟩,_,_⟩:=h;apply aH;have AG:0<=iV x/\iV x<200000000:=by
  unfold iV AA;split
  ·split<;>omega
  ·split
   ·omega
   ·split<;>omega
 have a2:0<=jt x/\jt x<=1:=by
  unfold jt;split<;>omega
 unfold aI;omega
section
variable {x:Sm} {v:Nat} {k:Kt} {R1:cd} {a b:AV}
theorem ag0(N:uW x)(V:∀c∈aQ x,KS c)(J:k .ret ⟨258,aC,[(2,true,.d (.bool false))],[⟨300,v,bm x⟩]⟩=R1):
 aN ctx 37 (bX [1,0,1,0,0,1,0,0,1]) ⟨258,aC,[(0,true,a),(3,true,b),(4,true,.ptr 300 v 0)],[⟨300,v,bm x⟩]⟩ k=
 if jF x=true then k .normal ⟨258,aC,[(0,true,a),(3,true,b),(4,true,.ptr 300 v 0),(16,true,.d (.int .i64 (aQ x).length)),(248,true,.d (.bool false))],[⟨300,v,bm x⟩]⟩else R1:=by
 have Y:bX [1,0,1,0,0,1,0,0,1]=Code.seq (bX [1,0,1,0,0,1,0,0,1,0]) (bX [1,0,1,0,0,1,0,0,1,1]):=rfl;have Z:bX [1,0,1,0,0,1,0,0,1,1]=Code.seq (bX [1,0,1,0,0,1,0,0,1,1,0]) (bX [1,0,1,0,0,1,0,0,1,1,1]):=rfl;have q:bX [1,0,1,0,0,1,0,0,1,1,1]=Code.seq (bX [1,0,1,0,0,1,0,0,1,1,1,0]) (bX [1,0,1,0,0,1,0,0,1,1,1,1]):=rfl;have y:bX [1,0,1,0,0,1,0,0,1,1,1,1]=Code.seq (bX [1,0,1,0,0,1,0,0,1,1,1,1,0]) (bX [1,0,1,0,0,1,0,0,1,1,1,1,1]):=rfl;have A':bX [1,0,1,0,0,1,0,0,1,1,1,1,1]=Code.seq (bX [1,0,1,0,0,1,0,0,1,1,1,1,1,0]) (bX [1,0,1,0,0,1,0,0,1,1,1,1,1,1]):=rfl;have A0:bX [1,0,1,0,0,1,0,0,1,1,1,1,1,1]=Code.seq (bX [1,0,1,0,0,1,0,0,1,1,1,1,1,1,0]) (bX [1,0,1,0,0,1,0,0,1,1,1,1,1,1,1]):=rfl;have A1:bX [1,0,1,0,0,1,0,0,1,1,1,1,1,1,1]=Code.seq (bX [1,0,1,0,0,1,0,0,1,1,1,1,1,1,1,0]) (bX [1,0,1,0,0,1,0,0,1,1,1,1,1,1,1,1]):=rfl;have A2:bX [1,0,1,0,0,1,0,0,1,1,1,1,1,1,1,1]=Code.seq (bX [1,0,1,0,0,1,0,0,1,1,1,1,1,1,1,1,0]) (bX [1,0,1,0,0,1,0,0,1,1,1,1,1,1,1,1,1]):=rfl;have A3:bX [1,0,1,0,0,1,0,0,1,1,1,1,1,1,1,1,1]=Code.seq (bX [1,0,1,0,0,1,0,0,1,1,1,1,1,1,1,1,1,0]) (bX [1,0,1,0,0,1,0,0,1,1,1,1,1,1,1,1,1,1]):=rfl;have A:∀c,Ah ctx 37 c k .ret ⟨258,aC,[(2,true,.d (.bool false))],[⟨300,v,bm x⟩]⟩=R1:=λ_=>J;have hw:=als N;obtain⟨O,T,⟨A4,A5⟩,⟨A6,A7⟩,A8,A9⟩:=N;have AB:KF [eB x]:=CQ (l:=[eB x]) (by simp) ⟨O,trivial⟩;have AC:KF [dc x]:=CQ (l:=[dc x]) (by simp) ⟨T,trivial⟩;have AD:KF (bJ x):=CQ A4 A5;rw[agZ];rw[Y,ga,ar1,jl,Z,ga,arT (A _)];cases JE x
 ·rw[aiO,abN ad8,abN ad8]
 rw[abT rfl,amj,jl,q,ga,arU (A _) ((abL _).1 O).1 AB];cases JF x
 ·rw[aiO,abN ad8,abN ad8]
 rw[abT rfl,amj,jl,y,ga,arV (A _) rfl ((abL _).1 T).1 AC AD];cases FL x
 ·rw[aiO,abN ad8,abN ad8]
 rw[abT rfl,amj,jl,A',ga,arW (X:=[]),jl,A0,ga,arX,jl,A1,ga];have AE:∀D:Kt,D .ret ⟨258,aC,[(2,true,.d (.bool false))],[⟨300,v,bm x⟩]⟩=R1->aN ctx 37 (bX [1,0,1,0,0,1,0,0,1,1,1,1,1,1,1,0]) ⟨258,aC,[(0,true,a),(3,true,b),(4,true,.ptr 300 v 0),(8,true,.d (.int .i64 (pN x))),(9,true,.d (.int .i64 (pO x))),(10,true,.d (.int .i64 (l8 x))),(11,true,.d (.int .i64 (iV x))),(12,true,.d (.int .i64 (jt x)))]++cX x,[⟨300,v,bm x⟩]⟩ D=
  if FM x=true then D .normal ⟨258,aC,[(0,true,a),(3,true,b),(4,true,.ptr 300 v 0),(186,true,.d (.bool false))],[⟨300,v,bm x⟩]⟩else R1:=by
  intro D U;unfold FM;rcases Yn x with M|M
  ·rw[M,aeP,alq U hw];simp only[abQ]
  ·rw[M];simp only[List.cons_append,List.nil_append];rw[alr U hw];simp only[abQ]
 rw[AE _ (A _)];cases FM x
 ·rw[aiO,abN ad8,abN ad8]
 rw[abT rfl,amj,jl,A2,ga,arY A8 (A _)];cases (dE x).all dn
 ·rw[aiO,abN ad8,abN ad8]
 rw[abT rfl,amj,jl,A3,ga,arZ A6 A7 (A _)];cases (cM x).all Az
 ·rw[aiO,abN ad8,abN ad8]
 rw[abT rfl,amj,jl,ar0 A9 V J]
end
end Go.Am
end
section
namespace Go.Am
open Go Go.Proofs Go.Proofs.Tryz
variable [Inhabited bI]
set_option maxRecDepth 20000
theorem JL(l:List Sm)(I:l.length<100000000)(O:∀x∈l,uW x)(T:∀x∈l,∀c∈aQ x,KS c)(k:Kt)(R1 R2:cd)
 (D:∀v X,k .ret ⟨258,aC,[(2,true,.d (.bool false))],[⟨300,v,X⟩]⟩=R1)
 (E:∀(Y:Env) v X,k (.exit 0) ⟨258,aC,Y,[⟨300,v,X⟩]⟩=R2):∀(rest pre:List Sm)(v:Nat)(X:ay),l=pre++rest->
 aN ctx 37 (.loop (bX [1,0,1,0,0])) ⟨258,aC,[(0,true,.d (.list (l.map cK))),(3,true,.d (.int .i64 pre.length))],[⟨300,v,X⟩]⟩ k=if eh rest=true then R2 else R1
 |[],pre,v,X,H=>by
  have V:pre.length=l.length:=by rw[H];simp
  rw[V,ag];simp[bX,f37,E,eh]
 |x::rest,pre,v,X,H=>by
  have Z:pre.length<l.length:=by rw[H];simp
  have q:l[pre.length]=x:=by simp[H]
  have hm:x∈l:=by rw[H];simp
  have U:=λ(v:Nat) (a b:AV) (k:Kt)=>ag0 (v:=v) (a:=a) (b:=b) (k:=k) (O x hm) (T x hm) rfl;have ih:∀v X,aN ctx 37 (.loop (bX [1,0,1,0,0])) ⟨258,aC,[(0,true,.d (.list (l.map cK))),(3,true,.d (.int .i64 (pre.length+1)))],[⟨300,v,X⟩]⟩ k=if eh rest=true then R2 else R1:=λv X=>by
   have:=JL l I O T k R1 R2 D E rest (pre++[x]) v X (by simp[H]);simpa using this
  have A':IntKind.i64.wrap ((pre.length:Int)+1)=(pre.length:Int)+1:=aH (by unfold aI;omega);have key:eh (x::rest)=(jF x&&eh rest):=by rw[eh]
  rw[key];generalize jF x=N at*;generalize eh rest=M at*;rw[ag];simp[bX,f37]at U ih⊢;simp[Z,q,cG];simp[U];cases N<;>simp[D,A',ih]
theorem VB{l:List Sm}(I:l.length<100000000)(O:∀x∈l,uW x)(T:∀x∈l,∀c∈aQ x,KS c):KS l:=by
 have h:=λk R1 R2 D E v X=>JL l I O T k R1 R2 D E l [] v X rfl;unfold KS;rw[ak1 (by simp)];simp[bX,f37]at h⊢;rw[h _ (some (.ret (.d (.bool false)),[])) (some (.ret (.d (.bool true)),[]))]
 ·cases eh l<;>simp
 ·intro v X;simp
 ·intro Y v X;simp
mutual
theorem ag2:∀x:Sm,yO x->uW x/\∀c∈aQ x,KS c
 | .mk op name to val A1 A2 fields A0 line,h=>by
  have h:=(Sk _).1 h;exact⟨h.1,OA A0 h.2⟩
theorem Bk:∀l:List Sm,ke l->∀x∈l,uW x/\∀c∈aQ x,KS c
 |[],_,x,A=>by simp at A
 |y::r,h,x,A=>by
  simp only[ke]at h;have D:=ag2 y h.1;have E:=Bk r h.2;rcases abV.1 A with e|A
  ·rw[e];exact D
  ·exact E x A
theorem OA:∀l:List (List Sm),l9 l->∀c∈l,KS c
 |[],_,c,J=>by simp at J
 |b::r,h,c,J=>by
  simp only[l9]at h;have D:=Bk b h.1.2;have E:=OA r h.2;rcases abV.1 J with e|J
  ·rw[e];exact VB h.1.1 (λx A=>(D x A).1) (λx A=>(D x A).2)
  ·exact E c J
end
theorem Yo{l:List Sm}(I:l.length<100000000)(h:ke l):KS l:=
 VB I (λx A=>(Bk l h x A).1) (λx A=>(Bk l h x A).2)
end Go.Am
end
section
namespace Go.Am
open Go Go.Proofs
variable [Inhabited bI]
set_option maxRecDepth 20000
theorem ar2:ah ctx 52 [.d (.int .i64 10)] []=some (.ret (.d (.list ((bC 10).map de))),[]):=bu 120 (by kernel_rfl)
theorem ar3:ah ctx 52 [.d (.int .i64 11)] []=some (.ret (.d (.list ((bC 11).map de))),[]):=bu 120 (by kernel_rfl)
theorem ar4:ah ctx 52 [.d (.int .i64 12)] []=some (.ret (.d (.list ((bC 12).map de))),[]):=bu 120 (by kernel_rfl)
theorem ar5:ah ctx 52 [.d (.int .i64 13)] []=some (.ret (.d (.list ((bC 13).map de))),[]):=bu 120 (by kernel_rfl)
theorem ar6:ah ctx 52 [.d (.int .i64 14)] []=some (.ret (.d (.list ((bC 14).map de))),[]):=bu 120 (by kernel_rfl)
theorem ar7:ah ctx 52 [.d (.int .i64 15)] []=some (.ret (.d (.list ((bC 15).map de))),[]):=bu 120 (by kernel_rfl)
theorem ar8:ah ctx 52 [.d (.int .i64 16)] []=some (.ret (.d (.list ((bC 16).map de))),[]):=bu 120 (by kernel_rfl)
theorem ar9:ah ctx 52 [.d (.int .i64 17)] []=some (.ret (.d (.list ((bC 17).map de))),[]):=bu 120 (by kernel_rfl)
theorem asa:ah ctx 52 [.d (.int .i64 18)] []=some (.ret (.d (.list ((bC 18).map de))),[]):=bu 120 (by kernel_rfl)
theorem asb:ah ctx 52 [.d (.int .i64 19)] []=some (.ret (.d (.list ((bC 19).map de))),[]):=bu 120 (by kernel_rfl)
theorem asc:ah ctx 52 [.d (.int .i64 20)] []=some (.ret (.d (.list ((bC 20).map de))),[]):=bu 120 (by kernel_rfl)
theorem asd:ah ctx 52 [.d (.int .i64 21)] []=some (.ret (.d (.list ((bC 21).map de))),[]):=bu 120 (by kernel_rfl)
theorem ase:ah ctx 52 [.d (.int .i64 22)] []=some (.ret (.d (.list ((bC 22).map de))),[]):=bu 120 (by kernel_rfl)
theorem asf:ah ctx 52 [.d (.int .i64 23)] []=some (.ret (.d (.list ((bC 23).map de))),[]):=bu 120 (by kernel_rfl)
theorem ash:ah ctx 52 [.d (.int .i64 24)] []=some (.ret (.d (.list ((bC 24).map de))),[]):=bu 120 (by kernel_rfl)
theorem asi:ah ctx 52 [.d (.int .i64 25)] []=some (.ret (.d (.list ((bC 25).map de))),[]):=bu 120 (by kernel_rfl)
theorem asj:ah ctx 52 [.d (.int .i64 26)] []=some (.ret (.d (.list ((bC 26).map de))),[]):=bu 120 (by kernel_rfl)
theorem asl:ah ctx 52 [.d (.int .i64 27)] []=some (.ret (.d (.list ((bC 27).map de))),[]):=bu 120 (by kernel_rfl)
theorem asm:ah ctx 52 [.d (.int .i64 28)] []=some (.ret (.d (.list ((bC 28).map de))),[]):=bu 120 (by kernel_rfl)
theorem asn:ah ctx 52 [.d (.int .i64 29)] []=some (.ret (.d (.list ((bC 29).map de))),[]):=bu 120 (by kernel_rfl)
theorem aso:ah ctx 52 [.d (.int .i64 30)] []=some (.ret (.d (.list ((bC 30).map de))),[]):=bu 120 (by kernel_rfl)
theorem asp:ah ctx 52 [.d (.int .i64 31)] []=some (.ret (.d (.list ((bC 31).map de))),[]):=bu 120 (by kernel_rfl)
end Go.Am
end
section
namespace Go.Am
open Go Go.Proofs Go.Proofs.Tryz
variable [Inhabited bI]
set_option maxRecDepth 20000
abbrev Rw:=Int×Tx×Tx×List Tx
def EB:List Rw:=[
 (10,[84,79,78],[105,73,111,79],[[73,78],[80,84],[81],[69,84]]),
 (11,[84,79,70],[105,73,111,79],[[73,78],[80,84],[81],[69,84]]),
 (12,[84,80],[105,73,111,79,46,46],[[73,78],[80,84],[81],[69,84]]),
 (13,[67,84,85],[105,105,73,111,79,46],[[67,85],[82],[80,86],[81],[67,86]]),
 (14,[67,84,68],[105,105,73,111,79,46],[[67,68],[76,68],[80,86],[81],[67,86]]),
 (15,[82,95,84,82,73,71],[105,111,46],[[67,76,75],[81]]),
 (16,[70,95,84,82,73,71],[105,111,46],[[67,76,75],[81]]),
 (17,[83,82],[105,105,111],[[83,49],[82],[81,49]]),
 (18,[82,83],[105,105,111],[[83],[82,49],[81,49]]),
 (20,[77,67,95,80,111,119,101,114],[73,105,111,111],[[65,120,105,115],[69,110,97,98,108,101],[83,116,97,116,117,115],[69,114,114,111,114]]),
 (21,[77,67,95,72,111,109,101],[73,105,111,111,111,111,111,46,46],[[65,120,105,115],[69,120,101,99,117,116,101],[68,111,110,101],[66,117,115,121],[65,99,116,105,118,101],[67,111,109,109,97,110,100,65,98,111,114,116,101,100],[69,114,114,111,114]]),
 (22,[77,67,95,83,116,111,112],[73,105,111,111,111,111,111,46,46],[[65,120,105,115],[69,120,101,99,117,116,101],[68,111,110,101],[66,117,115,121],[65,99,116,105,118,101],[67,111,109,109,97,110,100,65,98,111,114,116,101,100],[69,114,114,111,114]]),
 (23,[77,67,95,72,97,108,116],[73,105,111,111,111,111,111,46,46],[[65,120,105,115],[69,120,101,99,117,116,101],[68,111,110,101],[66,117,115,121],[65,99,116,105,118,101],[67,111,109,109,97,110,100,65,98,111,114,116,101,100],[69,114,114,111,114]]),
 (24,[77,67,95,77,111,118,101,65,98,115,111,108,117,116,101],[73,105,73,73,73,111,111,111,111,111,46,46],[[65,120,105,115],[69,120,101,99,117,116,101],[80,111,115,105,116,105,111,110],[86,101,108,111,99,105,116,121],[66,117,102,102,101,114,77,111,100,101],[68,111,110,101],[66,117,115,121],[65,99,116,105,118,101],[67,111,109,109,97,110,100,65,98,111,114,116,101,100],[69,114,114,111,114]]),
 (25,[77,67,95,77,111,118,101,82,101,108,97,116,105,118,101],[73,105,73,73,73,111,111,111,111,111,46,46],[[65,120,105,115],[69,120,101,99,117,116,101],[68,105,115,116,97,110,99,101],[86,101,108,111,99,105,116,121],[66,117,102,102,101,114,77,111,100,101],[68,111,110,101],[66,117,115,121],[65,99,116,105,118,101],[67,111,109,109,97,110,100,65,98,111,114,116,101,100],[69,114,114,111,114]]),
 (26,[77,67,95,77,111,118,101,65,100,100,105,116,105,118,101],[73,105,73,73,73,111,111,111,111,111,46,46],[[65,120,105,115],[69,120,101,99,117,116,101],[68,105,115,116,97,110,99,101],[86,101,108,111,99,105,116,121],[66,117,102,102,101,114,77,111,100,101],[68,111,110,101],[66,117,115,121],[65,99,116,105,118,101],[67,111,109,109,97,110,100,65,98,111,114,116,101,100],[69,114,114,111,114]]),
 (27,[77,67,95,77,111,118,101,86,101,108,111,99,105,116,121],[73,105,73,111,111,111,111,111,46,46],[[65,120,105,115],[69,120,101,99,117,116,101],[86,101,108,111,99,105,116,121],[73,110,86,101,108,111,99,105,116,121],[66,117,115,121],[65,99,116,105,118,101],[67,111,109,109,97,110,100,65,98,111,114,116,101,100],[69,114,114,111,114]]),
 (28,[77,67,95,71,101,97,114,73,110],[73,105,73,73,73,111,111,111,111,111,46,46],[[65,120,105,115],[69,120,101,99,117,116,101],[77,97,115,116,101,114],[78,117,109,101,114,97,116,111,114],[68,101,110,111,109,105,110,97,116,111,114],[73,110,71,101,97,114],[66,117,115,121],[65,99,116,105,118,101],[67,111,109,109,97,110,100,65,98,111,114,116,101,100],[69,114,114,111,114]]),
 (29,[77,67,95,82,101,115,101,116],[73,105,111,111,46],[[65,120,105,115],[69,120,101,99,117,116,101],[68,111,110,101],[69,114,114,111,114]]),
 (30,[77,67,95,83,101,116,80,111,115,105,116,105,111,110],[73,105,73,111,111,46],[[65,120,105,115],[69,120,101,99,117,116,101],[80,111,115,105,116,105,111,110],[68,111,110,101],[69,114,114,111,114]]),
 (31,[77,67,95,83,101,116,79,118,101,114,114,105,100,101],[73,105,73,111],[[65,120,105,115],[69,110,97,98,108,101],[80,101,114,99,101,110,116],[69,110,97,98,108,101,100]])]
def rwD(r:Rw):D:=.agg [.int .i64 r.1,.str r.2.1,.str r.2.2.1,.list (r.2.2.2.map .str)]
theorem ag3:ah ctx 67 [] []=some (.ret (.d (.list (EB.map rwD))),[]):=bu 120 (by kernel_rfl)
def vL(k:Int):List Rw->Tx
 |[]=>[]
 |r::l=>if r.1=k then r.2.1 else vL k l
theorem OB(q:Int)(l:List Rw)(N:l.length<1000)(k:Kt)(RF:Tx->cd)
 (E:∀t,k .ret ⟨24,aC,[(2,true,.d (.str t))],[]⟩=RF t)
 (H:∀Y:Env,k (.exit 0) ⟨24,aC,Y,[]⟩=RF []):∀(rest pre:List Rw),l=pre++rest->
 aN ctx 36 (.loop (Code.at (bq f36) [1,1,0,1,0,0])) ⟨24,aC,[(0,true,.d (.int .i64 q)),(3,true,.d (.list (l.map rwD))),(4,true,.d (.int .i64 pre.length))],[]⟩ k=RF (vL q rest)
 |[],pre,A=>by
  have O:pre.length=l.length:=by rw[A];simp
  rw[O,ag];simp[f36,H,vL]
 |x::rest,pre,A=>by
  have I:pre.length<l.length:=by rw[A];simp
  have J:l[pre.length]=x:=by simp[A]
  have ih:=OB q l N k RF E H rest (pre++[x]) (by simp[A]);have T:IntKind.i64.wrap ((pre.length:Int)+1)=(pre.length:Int)+1:=aH (by unfold aI;omega);rw[ag];by_cases M:x.1=q
  ·simp[f36];simp[I,J,rwD,M,E,vL]
  ·simp[f36]at ih⊢;simp[I,J,rwD,M,T,ih,vL]
theorem asq(q:Int):ah ctx 36 [.d (.int .i64 q)] []=some (.ret (.d (.str (vL q EB))),[]):=by
 have h:=λk RF E H=>OB q EB (by decide) k RF E H EB [] rfl;have U:=ag3;rw[ak0 (by simp)];generalize EB=l at*;simp[f36]at h⊢;simp[U];rw[h _ (λt=>some (.ret (.d (.str t)),[])) (by simp) (by simp)]
theorem acL(q:Int):(vL q EB=[])↔qL q=false:=by
 by_cases h:10<=q/\q<=31
 ·have:q=10\/q=11\/q=12\/q=13\/q=14\/q=15\/q=16\/q=17\/q=18\/q=19\/q=20\/q=21\/q=22\/q=23\/q=24\/q=25\/q=26\/q=27\/q=28\/q=29\/q=30\/q=31:=by omega
  rcases this with h|h|h|h|h|h|h|h|h|h|h|h|h|h|h|h|h|h|h|h|h|h<;>subst h<;>decide
 ·have e:∀n:Int,10<=n->n<=31->¬n=q:=λn a b c=>h (by omega);have V:bC q=[]:=by
   unfold bC Mq;simp only[ye];rw[abN (e _ (by decide) (by decide)),abN (e _ (by decide) (by decide)),abN (e _ (by decide) (by decide)),abN (e _ (by decide) (by decide)),abN (e _ (by decide) (by decide)),abN (e _ (by decide) (by decide)),abN (e _ (by decide) (by decide)),abN (e _ (by decide) (by decide)),abN (e _ (by decide) (by decide)),abN (e _ (by decide) (by decide)),abN (e _ (by decide) (by decide)),abN (e _ (by decide) (by decide)),abN (e _ (by decide) (by decide)),abN (e _ (by decide) (by decide)),abN (e _ (by decide) (by decide)),abN (e _ (by decide) (by decide)),abN (e _ (by decide) (by decide)),abN (e _ (by decide) (by decide)),abN (e _ (by decide) (by decide)),abN (e _ (by decide) (by decide)),abN (e _ (by decide) (by decide))]
  have Z:vL q EB=[]:=by
   unfold EB;simp only[vL];rw[abN (e _ (by decide) (by decide)),abN (e _ (by decide) (by decide)),abN (e _ (by decide) (by decide)),abN (e _ (by decide) (by decide)),abN (e _ (by decide) (by decide)),abN (e _ (by decide) (by decide)),abN (e _ (by decide) (by decide)),abN (e _ (by decide) (by decide)),abN (e _ (by decide) (by decide)),abN (e _ (by decide) (by decide)),abN (e _ (by decide) (by decide)),abN (e _ (by decide) (by decide)),abN (e _ (by decide) (by decide)),abN (e _ (by decide) (by decide)),abN (e _ (by decide) (by decide)),abN (e _ (by decide) (by decide)),abN (e _ (by decide) (by decide)),abN (e _ (by decide) (by decide)),abN (e _ (by decide) (by decide)),abN (e _ (by decide) (by decide)),abN (e _ (by decide) (by decide))]
  rw[Z];unfold qL;rw[V];simp
end Go.Am
end
section
namespace Go.Am
open Go Go.Proofs
variable [Inhabited bI]
set_option maxRecDepth 20000
section
variable {vs:List Vr} {n:Int} (A:vs.length<1000000) (D:∀v∈vs,dQ v=true)
def VC(vs:List Vr)(x:Sm):EL:=match bz vs (gM x)with
 |none=>(9,kS x)
 |some v=>if v.ty<=2 then (10,kS x)else ib vs v.ty (kS x) (dE x) (bJ x) []
def coE(vs:List Vr)(x:Sm):EL:=match bz vs (gM x)with
 |none=>(9,kS x)
 |some v=>if v.sec=1 then (1,kS x)else if v.arr=true\/v.ty≠1 then (10,kS x)else eU (kV vs 1 (bJ x)) (rJ vs (aQ x))
include A D
end
theorem sL(vs:List Vr)(lp:Bool)(x:Sm):kW vs lp x=
 if bj x=1 then JD vs (eB x) (dc x) (kS x)
 else if bj x=2 then eN vs lp (bJ x) (aQ x)
 else if bj x=3 then eU (dz vs (dc x) 1) (eN vs lp [] (aQ x))
 else if bj x=4 then coE vs x
 else if bj x=5 then eU (dz vs (dc x) 2) (rJ vs (aQ x))
 else if bj x=6 then eU (rJ vs (aQ x)) (dz vs (dc x) 2)
 else if bj x=7 then (if lp=true then (0,0)else (14,kS x))
 else if bj x=9 then VC vs x
 else (0,0):=by
 obtain⟨op,name,to,val,A,D,fields,E,line⟩:=x;unfold kW coE VC;rfl
mutual
def OC:Sm->Nat
 | .mk _ _ _ _ A D fields E _=>1+A.length+D.length+fields.length+vM E
def rZ:List Sm->Nat
 |[]=>0
 |x::r=>OC x+rZ r
def vM:List (List Sm)->Nat
 |[]=>0
 |b::r=>rZ b+1+vM r
end
theorem CS:∀l:List Sm,l.length<=rZ l
 |[]=>by simp[rZ]
 | .mk _ _ _ _ c H f I _::r=>by have:=CS r;simp only[rZ,OC,ach];omega
theorem JM:∀l:List (List Sm),l.length<=vM l
 |[]=>by simp[vM]
 |b::r=>by have:=JM r;simp only[vM,ach];omega
section
variable {vs:List Vr} {n:Int} (J:vs.length<1000000) (M:∀v∈vs,dQ v=true)
end
section
variable {vs:List Vr} {n:Int} (A:vs.length<1000000) (D:∀v∈vs,dQ v=true)
theorem lI{a b:EL}(h:a.1=0):eU a b=b:=by unfold eU;rw[abN (by simp[h])]
theorem pw{a b:EL}(h:¬a.1=0):eU a b=a:=by unfold eU;rw[abT h]
include A D
end
def dH(e:EL):EL:=if e.1=0 then (0,0)else e
end Go.Am
end
section
namespace Go.Am
open Go Go.Proofs Go.Proofs.Tryz
variable [Inhabited bI]
set_option maxRecDepth 20000
@[reducible] noncomputable def fK(p:List Nat):Code:=Code.at (bq f14) p
def VD(w:Vr):Bool:=dn w.name&&decide (0<=w.sec/\w.sec<=2)
def VE(w:Vr):Bool:=decide (w.ty=1\/w.ty=2)||qL w.ty
def VF(w:Vr):Bool:=if w.arr=true then decide (w.ty<=2/\0<=w.lo/\w.lo<=w.hi/\w.hi<=255)else decide (w.lo=0/\w.hi=0)
def fiE(w:Vr):Bool:=!decide (((w.arr=true\/2<w.ty)/\w.init≠0)\/(w.ty=2/\(w.init<0\/1<w.init))\/w.init= -9223372036854775808)
theorem ag5(w:Vr):dQ w=(VD w&&(VE w&&(VF w&&fiE w))):=by
 unfold dQ VD VE VF fiE;simp only[Bool.and_assoc]
section
variable {w:Vr} {v:Nat} {k:Kt} {R1:cd} {a b:AV} {B:ay} (A:k .ret ⟨129,aC,[(2,true,.d (.bool false))],[⟨150,1,B⟩,⟨300,v,ja w⟩]⟩=R1)
include A
theorem alu:aN ctx 14 (fK [1,1,0,1,0,0,1,0,0,1,0]) ⟨129,aC,[(1,true,a),(3,true,b),(4,true,.ptr 300 v 0)],[⟨150,1,B⟩,⟨300,v,ja w⟩]⟩ k=
 if VD w=true then k .normal ⟨129,aC,[(1,true,a),(3,true,b),(4,true,.ptr 300 v 0),(40,true,.d (.bool false))],[⟨150,1,B⟩,⟨300,v,ja w⟩]⟩else R1:=by
 have O:=eH w.name;unfold VD;simp only[ja]at A;generalize dn w.name=N at*;cases N with
 |false=>(simp[fK,f14];simp[O,A])
 |true=>
  by_cases D:w.sec<0
  ·have E:¬0<=w.sec:=by omega
   (simp[fK,f14];simp[O,D,E,A])
  ·have E:0<=w.sec:=by omega
   by_cases H:2<w.sec
   ·have J:¬w.sec<=2:=by omega
    (simp[fK,f14];simp[O,D,E,H,J,A])
   ·have J:w.sec<=2:=by omega
    (simp[fK,f14];simp[O,D,E,H,J,A])
theorem alv{d:AV}:aN ctx 14 (fK [1,1,0,1,0,0,1,0,0,1,1,0]) ⟨129,aC,[(1,true,a),(3,true,b),(4,true,.ptr 300 v 0),(40,true,d)],[⟨150,1,B⟩,⟨300,v,ja w⟩]⟩ k=
 if VE w=true then k .normal ⟨129,aC,[(1,true,a),(3,true,b),(4,true,.ptr 300 v 0),(54,true,.d (.bool false))],[⟨150,1,B⟩,⟨300,v,ja w⟩]⟩else R1:=by
 have O:=asq w.ty;have A':=acL w.ty;unfold VE;simp only[ja]at A;generalize vL w.ty EB=T at*;generalize qL w.ty=Q at*;by_cases D:w.ty=1
 ·(simp only[D]at A⊢;simp[fK,f14];simp[D])
 ·by_cases E:w.ty=2
  ·(simp only[E]at A⊢;simp[fK,f14];simp[E])
  ·by_cases V:T=[]
   ·have q:=A'.1 V
    (simp[fK,f14];simp[O,D,E,V,q,A])
   ·have q:Q=true:=by cases Q with|true=>rfl|false=>exact absurd (A'.2 rfl) V
    (simp[fK,f14];simp[O,D,E,V,q,A])
theorem alw{d:AV}:aN ctx 14 (fK [1,1,0,1,0,0,1,0,0,1,1,1,0]) ⟨129,aC,[(1,true,a),(3,true,b),(4,true,.ptr 300 v 0),(54,true,d)],[⟨150,1,B⟩,⟨300,v,ja w⟩]⟩ k=
 if VF w=true then k .normal ⟨129,aC,[(1,true,a),(3,true,b),(4,true,.ptr 300 v 0),(93,true,.d (.bool false))],[⟨150,1,B⟩,⟨300,v,ja w⟩]⟩else R1:=by
 unfold VF;simp only[ja]at A;obtain⟨name,ty,sec,arr,lo,hi,init,line⟩:=w;simp only at A⊢;cases arr with
 |false=>
  by_cases D:lo=0
  ·by_cases E:hi=0
   ·(simp[fK,f14];simp[D,E,A])
   ·(simp only[D]at A;simp[fK,f14];simp[D,E,A])
  ·(simp[fK,f14];simp[D,A])
 |true=>
  by_cases D:2<ty
  ·have I:¬ty<=2:=by omega
   (simp[fK,f14];simp[D,I,A])
  ·have I:ty<=2:=by omega
   by_cases E:lo<0
   ·have U:¬0<=lo:=by omega
    (simp[fK,f14];simp[D,I,E,U,A])
   ·have U:0<=lo:=by omega
    by_cases H:hi<lo
    ·have Y:¬lo<=hi:=by omega
     (simp[fK,f14];simp[D,I,E,U,H,Y,A])
    ·have Y:lo<=hi:=by omega
     by_cases J:255<hi
     ·have M:¬hi<=255:=by omega
      (simp[fK,f14];simp[D,I,E,U,H,Y,J,M,A])
     ·have M:hi<=255:=by omega
      (simp[fK,f14];simp[D,I,E,U,H,Y,J,M,A])
theorem alx{d:AV}:aN ctx 14 (fK [1,1,0,1,0,0,1,0,0,1,1,1,1]) ⟨129,aC,[(1,true,a),(3,true,b),(4,true,.ptr 300 v 0),(93,true,d)],[⟨150,1,B⟩,⟨300,v,ja w⟩]⟩ k=
 if fiE w=true then k .normal ⟨129,aC,[(1,true,a),(3,true,b),(125,true,.d (.bool false))],[⟨150,1,B⟩,⟨300,v,ja w⟩]⟩else R1:=by
 unfold fiE;simp only[ja]at A;obtain⟨name,ty,sec,arr,lo,hi,init,line⟩:=w;simp only at A⊢;cases arr with
 |true=>
  by_cases E:init=0
  ·subst E;by_cases H:ty=2
   ·subst H;(simp[fK,f14];all_goals simp[A])
   ·(simp[fK,f14];all_goals simp[H,A])
  ·(simp[fK,f14];all_goals simp[E,A])
 |false=>
  by_cases D:2<ty
  ·have H:¬ty=2:=by omega
   have I:¬ty<=2:=by omega
   by_cases E:init=0
   ·subst E;(simp[fK,f14];all_goals simp[D,I,H,A])
   ·(simp[fK,f14];all_goals simp[D,I,E,H,A])
  ·have I:ty<=2:=by omega
   by_cases H:ty=2
   ·subst H;by_cases J:init<0
    ·have M:¬0<=init:=by omega
     (simp[fK,f14];all_goals simp[J,M,A])
    ·have M:0<=init:=by omega
     by_cases A0:1<init
     ·have y:¬init<=1:=by omega
      (simp[fK,f14];all_goals simp[J,M,A0,y,A])
     ·have Z:¬init= -9223372036854775808:=by omega
      have y:init<=1:=by omega
      (simp[fK,f14];all_goals simp[J,M,A0,y,Z,A])
   ·by_cases Z:init= -9223372036854775808
    ·subst Z;(simp[fK,f14];all_goals simp[D,I,H,A])
    ·(simp[fK,f14];all_goals simp[D,I,H,Z,A])
end
section
variable {w:Vr} {v:Nat} {k:Kt} {R1:cd} {a b:AV} {B:ay}
theorem ag7(Y:k .ret ⟨129,aC,[(2,true,.d (.bool false))],[⟨150,1,B⟩,⟨300,v,ja w⟩]⟩=R1):
 aN ctx 14 (fK [1,1,0,1,0,0,1,0,0,1]) ⟨129,aC,[(1,true,a),(3,true,b),(4,true,.ptr 300 v 0)],[⟨150,1,B⟩,⟨300,v,ja w⟩]⟩ k=
 if dQ w=true then k .normal ⟨129,aC,[(1,true,a),(3,true,b),(125,true,.d (.bool false))],[⟨150,1,B⟩,⟨300,v,ja w⟩]⟩else R1:=by
 have A':fK [1,1,0,1,0,0,1,0,0,1]=Code.seq (fK [1,1,0,1,0,0,1,0,0,1,0]) (fK [1,1,0,1,0,0,1,0,0,1,1]):=rfl;have A0:fK [1,1,0,1,0,0,1,0,0,1,1]=Code.seq (fK [1,1,0,1,0,0,1,0,0,1,1,0]) (fK [1,1,0,1,0,0,1,0,0,1,1,1]):=rfl;have A1:fK [1,1,0,1,0,0,1,0,0,1,1,1]=Code.seq (fK [1,1,0,1,0,0,1,0,0,1,1,1,0]) (fK [1,1,0,1,0,0,1,0,0,1,1,1,1]):=rfl;have T:∀c,Ah ctx 14 c k .ret ⟨129,aC,[(2,true,.d (.bool false))],[⟨150,1,B⟩,⟨300,v,ja w⟩]⟩=R1:=λ_=>Y;rw[ag5,A',ga,alu (T _)];cases VD w
 ·rw[aiO,abN ad8,abN ad8]
 rw[abT rfl,amj,jl,A0,ga,alv (T _)];cases VE w
 ·rw[aiO,abN ad8,abN ad8]
 rw[abT rfl,amj,jl,A1,ga,alw (T _)];cases VF w
 ·rw[aiO,abN ad8,abN ad8]
 rw[abT rfl,amj,jl,alx Y]
end
theorem OD(l:List Vr)(A2:l.length<=64)(A D:AV)(k:Kt)(R1 R2:cd)
 (H:∀v X,k .ret ⟨129,aC,[(2,true,.d (.bool false))],[⟨150,1,.box [A,.d (.list (l.map bx)),D]⟩,⟨300,v,X⟩]⟩=R1)
 (I:∀(b c:AV) v X,k (.exit 0) ⟨129,aC,[(1,true,.ptr 150 1 0),(3,true,b),(19,true,c)],[⟨150,1,.box [A,.d (.list (l.map bx)),D]⟩,⟨300,v,X⟩]⟩=R2):∀(rest pre:List Vr)(v:Nat)(X:ay),l=pre++rest->
 aN ctx 14 (.loop (fK [1,1,0,1,0,0])) ⟨129,aC,[(1,true,.ptr 150 1 0),(3,true,.d (.int .i64 pre.length))],[⟨150,1,.box [A,.d (.list (l.map bx)),D]⟩,⟨300,v,X⟩]⟩ k=if rest.all dQ=true then R2 else R1
 |[],pre,v,X,E=>by
  have A3:pre.length=l.length:=by rw[E];simp
  rw[A3,ag];simp[fK,f14,I]
 |x::rest,pre,v,X,E=>by
  have A4:pre.length<l.length:=by rw[E];simp
  have A5:l[pre.length]=x:=by simp[E]
  have J:=λ(v:Nat) (a b:AV) (k:Kt)=>ag7 (w:=x) (v:=v) (a:=a) (b:=b) (k:=k) (B:=.box [A,.d (.list (l.map bx)),D]) rfl;have ih:∀v X,aN ctx 14 (.loop (fK [1,1,0,1,0,0])) ⟨129,aC,[(1,true,.ptr 150 1 0),(3,true,.d (.int .i64 (pre.length+1)))],[⟨150,1,.box [A,.d (.list (l.map bx)),D]⟩,⟨300,v,X⟩]⟩ k=if rest.all dQ=true then R2 else R1:=λv X=>by
   have:=OD l A2 A D k R1 R2 H I rest (pre++[x]) v X (by simp[E]);simpa using this
  have A6:IntKind.i64.wrap ((pre.length:Int)+1)=(pre.length:Int)+1:=aH (by unfold aI;omega);rw[aia];generalize dQ x=N at*;generalize rest.all dQ=M at*;rw[ag];simp[fK,f14]at J ih⊢;simp[A4,A5,bx,dK];simp[J];cases N<;>simp[H,A6,ih]
theorem ag8{p:Pg}(J:p.body.length<100000000)(A7:ke p.body):ah ctx 14 [.d (.agg [.str p.name,.list (p.vars.map bx),.list (p.body.map cK)])] []=some (.ret (.d (.bool (nC p))),[]):=by
 have U:=eH p.name;have Z:=Yo J A7;unfold KS at Z;rw[akT (by simp)];unfold nC;generalize dn p.name=N at*;generalize eh p.body=M at*;cases N with
 |false=>simp[f14,U]
 |true=>
  by_cases q:64<p.vars.length
  ·have V:(64:Int)<p.vars.length:=by omega
   have O:¬p.vars.length<=64:=by omega
   simp[f14,U,q,V,O]
  ·have V:¬(64:Int)<p.vars.length:=by omega
   have O:p.vars.length<=64:=by omega
   have y:=λA D k R1 R2 H I v X=>OD p.vars O A D k R1 R2 H I p.vars [] v X rfl;generalize p.vars.all dQ=Q at*;simp[fK,f14]at y;simp[f14,U,q,V,O];rw[y _ _ _ (some (.ret (.d (.bool false)),[])) (some (.ret (.d (.bool M)),[]))]
   ·cases Q<;>simp
   ·intro v X;simp
   ·intro b c v X;simp[Z]
def SE(l:List Ex):Prop:=∀most:Int,∃n d:Int,ah ctx 108 [.d (.list (l.map bL)),.d (.int .i64 most)] []=some (.ret (.bY [.d (.int .i64 n),.d (.int .i64 d)]),[])
theorem OE(l:List Ex)(E:l.length<100000000)(J:∀x∈l,SE (cV x))(most:Int)(k:Kt)(Q:cd->Prop)
 (H:∀(n d:Int)(b c:AV),Q (k (.exit 0) ⟨44,aC,[(0,true,.d (.list (l.map bL))),(1,true,.d (.int .i64 most)),(6,true,.d (.int .i64 n)),(7,true,.d (.int .i64 d)),(8,true,b),(19,true,c)],[]⟩)):∀(rest pre:List Ex)(n d:Int),l=pre++rest->
 Q (aN ctx 108 (.loop (Code.at (bq f108) [1,1,0,1,0,0])) ⟨44,aC,[(0,true,.d (.list (l.map bL))),(1,true,.d (.int .i64 most)),(6,true,.d (.int .i64 n)),(7,true,.d (.int .i64 d)),(8,true,.d (.int .i64 pre.length))],[]⟩ k)
 |[],pre,n,d,D=>by
  have O:pre.length=l.length:=by rw[D];simp
  rw[O,ag];simp[f108,H]
 |x::rest,pre,n,d,D=>by
  have M:pre.length<l.length:=by rw[D];simp
  have T:l[pre.length]=x:=by simp[D]
  obtain⟨m,V,hm⟩:=J x (by rw[D];simp) (IntKind.i64.wrap (most-n));have ih:∀n d,Q (aN ctx 108 (.loop (Code.at (bq f108) [1,1,0,1,0,0])) ⟨44,aC,[(0,true,.d (.list (l.map bL))),(1,true,.d (.int .i64 most)),(6,true,.d (.int .i64 n)),(7,true,.d (.int .i64 d)),(8,true,.d (.int .i64 (pre.length+1)))],[]⟩ k):=λn d=>by
   have:=OE l E J most k Q H rest (pre++[x]) n d (by simp[D]);simpa using this
  have U:IntKind.i64.wrap ((pre.length:Int)+1)=(pre.length:Int)+1:=aH (by unfold aI;omega);rw[ag];by_cases N:n<=most
  ·simp[f108]at ih⊢;simp[M,T,N,au,hm,U,ih]
  ·simp[f108];simp[M,N,H]
theorem aha{l:List Ex}(E:l.length<100000000)(J:∀x∈l,SE (cV x)):SE l:=by
 intro most;have h:=λk Q H=>OE l E J most k Q H l [] 0 0 rfl;rw[afL (by simp)];simp[f108]at h⊢;apply h _ (λA=>∃n d:Int,A=some (.ret (.bY [.d (.int .i64 n),.d (.int .i64 d)]),[]));intro n d b c;simp
mutual
theorem asr:∀x:Ex,wQ x->SE (cV x)
 | .mk op nn name field sub line,h=>by
  simp only[wQ]at h;exact aha h.1.2.2 (Sl sub h.2)
theorem Sl:∀l:List Ex,pv l->∀x∈l,SE (cV x)
 |[],_,x,I=>by simp at I
 |y::r,h,x,I=>by
  simp only[pv]at h;rcases abV.1 I with e|I
  ·rw[e];exact asr y h.1
  ·exact Sl r h.2 x I
end
theorem VH{l:List Ex}(E:l.length<100000000)(h:pv l):SE l:=aha E (Sl l h)
@[reducible] noncomputable def lg(p:List Nat):Code:=Code.at (bq f65) p
def SS(l:List Sm):Prop:=∀most:Int,∃n d:Int,ah ctx 65 [.d (.list (l.map cK)),.d (.int .i64 most)] []=some (.ret (.bY [.d (.int .i64 n),.d (.int .i64 d)]),[])
section
variable {x:Sm} {v:Nat} {k:Kt} {Q:cd->Prop} {a b:AV} {most:Int}
theorem ssA(A:SE [eB x,dc x])(D:SE (bJ x))(n d:Int)
 (E:∀(n d:Int)(I J M N:AV),Q (k .normal ⟨136,aC,[(0,true,a),(1,true,.d (.int .i64 most)),(6,true,.d (.int .i64 n)),(7,true,.d (.int .i64 d)),(8,true,b),(9,true,.ptr 550 v 0),(42,true,I),(43,true,J),(44,true,M),(45,true,N)],[⟨550,v,bm x⟩]⟩)):
 Q (aN ctx 65 (lg [1,1,0,1,0,0,1,0,0,1,1,0]) ⟨136,aC,[(0,true,a),(1,true,.d (.int .i64 most)),(6,true,.d (.int .i64 n)),(7,true,.d (.int .i64 d)),(8,true,b),(9,true,.ptr 550 v 0)],[⟨550,v,bm x⟩]⟩ k):=by
 unfold SE at A D;simp[au]at A;have H:IntKind.i64.wrap 1=1:=by decide
 have O:IntKind.i64.wrap 2=2:=by decide
 have T:List.range' 0 2=[0,1]:=rfl;simp only[bm]at E;obtain⟨m,Y,hm⟩:=A (IntKind.i64.wrap (most-n));simp[lg,f65,T];rw[ag];simp[hm,H];generalize IntKind.i64.wrap (n+m)=U;obtain⟨Z,d2,V⟩:=D (IntKind.i64.wrap (most-U));rw[ag];simp[V,H,O];rw[ag];simp[E]
end
section
variable {x:Sm} {v:Nat} {k:Kt} {Q:cd->Prop} {a b:AV} {most:Int}
theorem ssB(n d:Int)(I J A3 A4:AV)
 (D:∀(n:Int),Q (k .normal ⟨136,aC,[(0,true,a),(1,true,.d (.int .i64 most)),(6,true,.d (.int .i64 n)),(7,true,.d (.int .i64 d)),(8,true,b),(9,true,.ptr 550 v 0)],[⟨550,v,bm x⟩]⟩)):
 Q (aN ctx 65 (lg [1,1,0,1,0,0,1,0,0,1,1,1,0]) ⟨136,aC,[(0,true,a),(1,true,.d (.int .i64 most)),(6,true,.d (.int .i64 n)),(7,true,.d (.int .i64 d)),(8,true,b),(9,true,.ptr 550 v 0),(42,true,I),(43,true,J),(44,true,A3),(45,true,A4)],[⟨550,v,bm x⟩]⟩ k):=by
 simp only[bm]at D;simp[lg,f65];apply D
theorem JN(U:(cM x).length<100000000)(d:Int)
 (D:∀(n:Int)(I J:AV),Q (k (.exit 4) ⟨136,aC,[(0,true,a),(1,true,.d (.int .i64 most)),(6,true,.d (.int .i64 n)),(7,true,.d (.int .i64 d)),(8,true,b),(9,true,.ptr 550 v 0),(14,true,I),(88,true,J)],[⟨550,v,bm x⟩]⟩)):∀(rest pre:List (List Int))(n:Int),cM x=pre++rest->
 Q (aN ctx 65 (.loop (lg [1,1,0,1,0,0,1,0,0,1,1,1,1,0,1,0,0])) ⟨136,aC,[(0,true,a),(1,true,.d (.int .i64 most)),(6,true,.d (.int .i64 n)),(7,true,.d (.int .i64 d)),(8,true,b),(9,true,.ptr 550 v 0),(14,true,.d (.int .i64 pre.length))],[⟨550,v,bm x⟩]⟩ k)
 |[],pre,n,E=>by
  have Z:pre.length=(cM x).length:=by rw[E];simp
  simp only[bm]at D;rw[Z,ag];simp[lg,f65,D]
 |c::rest,pre,n,E=>by
  have O:pre.length<(cM x).length:=by rw[E];simp
  have q:(cM x)[pre.length]=c:=by simp[E]
  have ih:=λn=>JN U d D rest (pre++[c]) n (by simp[E]);have A':IntKind.i64.wrap ((pre.length:Int)+1)=(pre.length:Int)+1:=aH (by unfold aI;omega);simp only[bm]at D;rw[ag];by_cases T:n<=most
  ·simp[lg,f65]at ih⊢;simp[O,q,T,il,A'];apply ih
  ·simp[lg,f65];simp[O,T,D]
theorem JO(U:(aQ x).length<100000000)(M:∀c∈aQ x,SS c)
 (D:∀(n d:Int)(I J:AV),Q (k (.exit 6) ⟨136,aC,[(0,true,a),(1,true,.d (.int .i64 most)),(6,true,.d (.int .i64 n)),(7,true,.d (.int .i64 d)),(8,true,b),(9,true,.ptr 550 v 0),(15,true,I),(111,true,J)],[⟨550,v,bm x⟩]⟩)):∀(rest pre:List (List Sm))(n d:Int),aQ x=pre++rest->
 Q (aN ctx 65 (.loop (lg [1,1,0,1,0,0,1,0,0,1,1,1,1,1,1,0,0])) ⟨136,aC,[(0,true,a),(1,true,.d (.int .i64 most)),(6,true,.d (.int .i64 n)),(7,true,.d (.int .i64 d)),(8,true,b),(9,true,.ptr 550 v 0),(15,true,.d (.int .i64 pre.length))],[⟨550,v,bm x⟩]⟩ k)
 |[],pre,n,d,E=>by
  have Z:pre.length=(aQ x).length:=by rw[E];simp
  simp only[bm]at D;rw[Z,ag];simp[lg,f65,D]
 |c::rest,pre,n,d,E=>by
  have O:pre.length<(aQ x).length:=by rw[E];simp
  have q:(aQ x)[pre.length]=c:=by simp[E]
  have ih:=λn d=>JO U M D rest (pre++[c]) n d (by simp[E]);obtain⟨m,AF,hm⟩:=M c (by rw[E];simp) (IntKind.i64.wrap (most-n));have A':IntKind.i64.wrap ((pre.length:Int)+1)=(pre.length:Int)+1:=aH (by unfold aI;omega);simp only[bm]at D;rw[ag];by_cases T:n<=most
  ·simp[lg,f65]at ih⊢;simp[O,q,T,lS,hm,A'];apply ih
  ·simp[lg,f65];simp[O,T,D]
theorem ahb(H:uW x)(M:∀c∈aQ x,SS c)(n d:Int)
 (D:∀(n d:Int)(I J:AV),Q (k .normal ⟨136,aC,[(0,true,a),(1,true,.d (.int .i64 most)),(6,true,.d (.int .i64 n)),(7,true,.d (.int .i64 d)),(8,true,b),(9,true,.ptr 550 v 0),(15,true,I),(111,true,J)],[⟨550,v,bm x⟩]⟩)):
 Q (aN ctx 65 (lg [1,1,0,1,0,0,1,0,0,1,1]) ⟨136,aC,[(0,true,a),(1,true,.d (.int .i64 most)),(6,true,.d (.int .i64 n)),(7,true,.d (.int .i64 d)),(8,true,b),(9,true,.ptr 550 v 0)],[⟨550,v,bm x⟩]⟩ k):=by
 obtain⟨A7,A8,⟨V,A9⟩,⟨AA,AG⟩,AH,AB⟩:=H;have AC:lg [1,1,0,1,0,0,1,0,0,1,1]=Code.seq (lg [1,1,0,1,0,0,1,0,0,1,1,0]) (lg [1,1,0,1,0,0,1,0,0,1,1,1]):=rfl;have AD:lg [1,1,0,1,0,0,1,0,0,1,1,1]=Code.seq (lg [1,1,0,1,0,0,1,0,0,1,1,1,0]) (lg [1,1,0,1,0,0,1,0,0,1,1,1,1]):=rfl;rw[AC,ga];apply ssA (VH (l:=[eB x,dc x]) (by simp) ⟨A7,A8,trivial⟩) (VH V A9);intro n d I J A3 A4;rw[jl,AD,ga];apply ssB;intro n;rw[jl];have A5:=λk Q D=>JN (a:=a) (b:=b) (v:=v) (most:=most) (k:=k) (Q:=Q) AA d D (cM x) [] n rfl;simp[lg,f65]at A5⊢;apply A5;intro n I J;have A6:=λk Q D=>JO (a:=a) (b:=b) (v:=v) (most:=most) (k:=k) (Q:=Q) AB M D (aQ x) [] n d rfl;simp[lg,f65]at A6⊢;apply A6;intro n d I J;simp only[bm]at D;simp[D]
end
theorem OF(l:List Sm)(A0:l.length<100000000)(A1:∀x∈l,uW x)(M:∀x∈l,∀c∈aQ x,SS c)(most:Int)(k:Kt)(Q:cd->Prop)
 (N:∀(n d:Int)(b c:AV) v X,Q (k (.exit 0) ⟨136,aC,[(0,true,.d (.list (l.map cK))),(1,true,.d (.int .i64 most)),(6,true,.d (.int .i64 n)),(7,true,.d (.int .i64 d)),(8,true,b),(26,true,c)],[⟨550,v,X⟩]⟩)):∀(rest pre:List Sm)(n d:Int)(v:Nat)(X:ay),l=pre++rest->
 Q (aN ctx 65 (.loop (lg [1,1,0,1,0,0])) ⟨136,aC,[(0,true,.d (.list (l.map cK))),(1,true,.d (.int .i64 most)),(6,true,.d (.int .i64 n)),(7,true,.d (.int .i64 d)),(8,true,.d (.int .i64 pre.length))],[⟨550,v,X⟩]⟩ k)
 |[],pre,n,d,v,X,E=>by
  have Z:pre.length=l.length:=by rw[E];simp
  rw[Z,ag];simp[lg,f65,N]
 |x::rest,pre,n,d,v,X,E=>by
  have O:pre.length<l.length:=by rw[E];simp
  have q:l[pre.length]=x:=by simp[E]
  have hm:x∈l:=by rw[E];simp
  have Y:=λ(v:Nat) (a b:AV) (k:Kt) (Q:cd->Prop) (n d:Int)=>ahb (v:=v) (a:=a) (b:=b) (most:=most) (k:=k) (Q:=Q) (A1 x hm) (M x hm) n d;have ih:=λn d v X=>OF l A0 A1 M most k Q N rest (pre++[x]) n d v X (by simp[E]);have A':IntKind.i64.wrap ((pre.length:Int)+1)=(pre.length:Int)+1:=aH (by unfold aI;omega);rw[ag];by_cases T:n<=most
  ·simp[lg,f65]at Y ih⊢;simp[O,q,T,cG];apply Y;intro n d I J;simp[A',ih]
  ·simp[lg,f65];simp[O,T,N]
theorem ahc{l:List Sm}(A0:l.length<100000000)(A1:∀x∈l,uW x)(M:∀x∈l,∀c∈aQ x,SS c):SS l:=by
 intro most;have h:=λk Q N v X=>OF l A0 A1 M most k Q N l [] 0 0 v X rfl;rw[alc (by simp)];simp[lg,f65]at h⊢;apply h _ (λA=>∃n d:Int,A=some (.ret (.bY [.d (.int .i64 n),.d (.int .i64 d)]),[]));intro n d b c v X;simp
mutual
theorem ass:∀x:Sm,yO x->uW x/\∀c∈aQ x,SS c
 | .mk op name to val AI AJ fields AE line,h=>by
  have h:=(Sk _).1 h;exact⟨h.1,abP AE h.2⟩
theorem HG:∀l:List Sm,ke l->∀x∈l,uW x/\∀c∈aQ x,SS c
 |[],_,x,H=>by simp at H
 |y::r,h,x,H=>by
  simp only[ke]at h;have A2:=ass y h.1;have N:=HG r h.2;rcases abV.1 H with e|H
  ·rw[e];exact A2
  ·exact N x H
theorem abP:∀l:List (List Sm),l9 l->∀c∈l,SS c
 |[],_,c,V=>by simp at V
 |b::r,h,c,V=>by
  simp only[l9]at h;have A2:=HG b h.1.2;have N:=abP r h.2;rcases abV.1 V with e|V
  ·rw[e];exact ahc h.1.1 (λx H=>(A2 x H).1) (λx H=>(A2 x H).2)
  ·exact N c V
end
theorem ahd{l:List Sm}(A0:l.length<100000000)(h:ke l):SS l:=
 ahc A0 (λx H=>(HG l h x H).1) (λx H=>(HG l h x H).2)
theorem ahe{p:Pg}(Y:p.body.length<100000000)(U:ke p.body)(most:Int):∃n d:Int,ah ctx 34 [.d (.agg [.str p.name,.list (p.vars.map bx),.list (p.body.map cK)]),.d (.int .i64 most)] []=some (.ret (.bY [.d (.int .i64 n),.d (.int .i64 d)]),[]):=by
 obtain⟨n,d,h⟩:=ahd Y U most;rw[akY (by simp)];simp[f34,h]
theorem acM{p:Pg}(Y:p.body.length<100000000)(U:ke p.body):∃B:Bool,ah ctx 13 [.d (.agg [.str p.name,.list (p.vars.map bx),.list (p.body.map cK)])] []=some (.ret (.d (.bool B)),[]):=by
 obtain⟨n,d,h⟩:=ahe Y U 2000;rw[akS (by simp)];simp[f13,h]
end Go.Am
end
section
namespace Go.Am
open Go Go.ChangeShapes Go.WideShapes Go.RowKit
def Bl(P:Program)(ok:TypeId->Bool):List Field->Nat->Nat->Bool
 |[],o,M=>o == M
 |f::r,o,M=>f.offset == o&&ok f.type&&Bl P ok r (o+P.cellsOf f.type) M
def typed(P:Program):Nat->TypeId->D->Prop
 |0,_,_=>False
 |n+1,t,d=>match P.underlying t with
  |some .bool=>∃b,d=.bool b
  |some (.int k)=>∃z,d=.int k z/\(Lit.int k z).wf=true
  |some .string=>∃s,d=.str s/\s.length<=maxLen
  |some (.slice e)=>∃xs,d=.list xs/\xs.length<=maxLen/\∀x∈xs,typed P n e x
  |some (.struct T)=>∃N:List D,d=.agg (N.flatMap D.cells)/\N.length=T.size/\∀(i:Nat)(f:Field)(y:D),T[i]?=some f->N[i]?=some y->typed P n f.type y
  |_=>False
def Reads(w:World)(F:Nat->Prop)(d:D)(cs:List Value):Prop:=
 d.cells.length=cs.length/\(∀u∈cs,cA u=true)/\∀(i:Nat) c u,d.cells[i]?=some c->cs[i]?=some u->aO w F c u/\c.flat=true
theorem Reads.one{w F d v}(h:aO w F d v)(O:d.flat=true)(E:d.cells=[d]):Reads w F d [v]:=by
 refine⟨by rw[E];rfl,λu hu=>?_,λi c u A I=>?_⟩
 ·simp at hu;subst hu;exact h.one O
 ·rw[E]at A;cases i with
  |zero=>simp at A I;subst A;subst I;exact⟨h,O⟩
  |succ i=>simp at A
def shaped(d:D)(cs:List Value):Value:=
 match d with
 | .agg _=>.agg cs.toArray
 |_=>cs.headD undef
theorem Reads.rel{w F d cs}(h:Reads w F d cs):aO w F d (shaped d cs):=by
 obtain⟨A,I,J⟩:=h;have key:d.flat=true->d.cells=[d]->aO w F d (cs.headD undef):=by
  intro O E;rw[E]at A J;match cs,A with
  |[u],_=>exact (J 0 d u rfl rfl).1
 cases d with
 |agg U=>exact aO.oy A I (λi c v E V=>(J i c v E V).1)
 |_=>exact key rfl rfl
theorem Reads.JP{w F d cs}(h:Reads w F d cs):(shaped d cs).cells.toList=cs:=by
 obtain⟨A,I,J⟩:=h;have key:d.cells=[d]->(cs.headD undef).cells.toList=cs:=by
  intro E;rw[E]at A;match cs,A,I with
  |[u],_,I=>simp only[List.headD];rw[dW (I u (by simp))]
 cases d with
 |agg U=>simp[shaped,Value.cells]
 |_=>exact key rfl
theorem EC{w:World}{base:Nat}{a:Addr}{n:Nat}{cs:List Value}(h:w.cells? base a n=some cs):cs.length=n/\∀j,j<n->w.cell? (a.add j)=cs[j]?:=by
 unfold World.cells? at h;split at h
 ·exact⟨by simpa using mapM_some_length h,λj Y=>mapM_some_get h j j (by simp[Y])⟩
 ·cases h
theorem add_add{b off n j:Nat}:(Addr.add (Addr.add ⟨b,off,none⟩ n) j)=⟨b,off+n+j,none⟩:=by
 unfold Addr.add;split<;>split<;>simp_all
theorem CT{w:World}{a:Addr}{c:Value}(h:w.cell? a=some c):a.block<w.heap.size/\a.spot=none:=by
 unfold World.cell? at h;split at h
 ·rename_i hh;refine⟨(ad1.1 hh).1,?_⟩;split at h
  ·cases h
  ·rename_i Z;simpa using Z
 ·cases h
section
variable {H:Type} {enc:TypeId×Value->H} {P:Program} {w:World} {base:Nat} {sp:Nat->Bool} {held:Bool}
end
section
variable {H:Type} {enc:TypeId×Value->H} {P:Program} {w:World} {base:Nat} {sp:Nat->Bool} {held:Bool}
theorem yP(T:laidOutB P=true){W V:World}(A:Below W.heap.size W V):∀{A3:List TypeId}{vs:List Value}{E:List (DataW H)}{ps:List MemPlace},DataW.TrodAll enc P W 0 (λ_=>true) true A3 vs E ps->
 (∀t∈A3,P.readableRec t=true/\t<P.types.size)->(∀x∈ps,x.block<W.heap.size)->DataW.TrodAll enc P V 0 (λb=>decide (b<W.heap.size)) true A3 vs E ps
 |[],[],[],_,h,_,_=>h
 |t::A3,v::vs,d::E,ps,h,A4,A8=>by
  obtain⟨p,q,J,Y,rfl⟩:=h;exact⟨p,q,Below.trod T (A4 t (by simp)).1 (A4 t (by simp)).2 J A (λx M=>A8 x (by simp[M])),yP T A Y (λt I=>A4 t (by simp[I])) (λx M=>A8 x (by simp[M])),rfl⟩
 |[],_::_,_,_,h,_,_=>by cases h
 |[],[],_::_,_,h,_,_=>by cases h
 |_::_,[],_,_,h,_,_=>by cases h
 |_::_,_::_,[],_,h,_,_=>by cases h
end
section
variable {P:Program} {n:Nat} {t:TypeId} {d:D}
def Bm(P:Program)(n:Nat):List Field->List D->Prop
 |[],E=>E=[]
 |f::r,E=>∃y A9,typed P n f.type y/\Bm P n r A9/\E=y.cells++A9
theorem ED:∀{O:List Field}{U:List D},U.length=O.length->(∀(i:Nat)(f:Field)(y:D),O[i]?=some f->U[i]?=some y->typed P n f.type y)->Bm P n O (U.flatMap D.cells)
 |[],[],_,_=>rfl
 |f::O,y::U,h,AA=>⟨y,U.flatMap D.cells,AA 0 f y rfl rfl,ED (by simpa using h) (λi f y J Y=>AA (i+1) f y (by simpa using J) (by simpa using Y)),by simp⟩
theorem VI{k:IntKind}(I:P.underlying t=some (.int k))(h:typed P (n+1) t d):∃z,d=.int k z/\(Lit.int k z).wf=true:=by simpa only[typed,I]using h
theorem Sn(I:P.underlying t=some .bool)(h:typed P (n+1) t d):∃b,d=.bool b:=by simpa only[typed,I]using h
theorem JQ(I:P.underlying t=some .string)(h:typed P (n+1) t d):∃s,d=.str s/\s.length<=maxLen:=by simpa only[typed,I]using h
theorem Lv{e:TypeId}(I:P.underlying t=some (.slice e))(h:typed P (n+1) t d):∃xs,d=.list xs/\xs.length<=maxLen/\∀x∈xs,typed P n e x:=by simpa only[typed,I]using h
theorem JR{O:Array Field}(I:P.underlying t=some (.struct O))(h:typed P (n+1) t d):∃E,d=.agg E/\Bm P n O.toList E:=by
 simp only[typed,I]at h;obtain⟨U,rfl,J,Y⟩:=h;exact⟨_,rfl,ED (by simpa using J) (λi f y AC AD=>Y i f y (by simpa using AC) AD)⟩
end
def ahg(X:Ctx):Bool:=
 (List.range X.P.funcs.size).all (λg=>match X.P.funcs[g]? with|some fn=>fn.name != "runtime.NumGoroutine" &&(match fn.body with|some c=>ek X g fn.ntmps c|none=>true)|none=>true)&&X.P.follows .mixedOrders&&X.ov.isNone
def qM(X:Ctx)(g:FuncId)(h:List AV->Option AV):Prop:=gE X.P g=true/\∀(Z:List AV)(a:AV),h Z=some a->∀(φ:bN)(F:Nat->Prop)(w:World)(vs:Array Value),eG w F X.gl->(∀b,F b->b<w.heap.size)->Z.length=vs.size->
 (∀(i:Nat) x v,Z[i]?=some x->vs[i]?=some v->aB φ w F x v)->Calls X.P g vs w λe w'=>∃v,e=.returned v/\Below w.heap.size w w'/\aB φ w' F a v
theorem qM.lift{X:Ctx}{g:FuncId}{h:List D->Option D}(hh:gE X.P g=true/\∀(E:List D) (d:D),h E=some d->∀(F:Nat->Prop) (w:World) (vs:Array Value),eG w F X.gl->(∀b,F b->b<w.heap.size)->E.length=vs.size->
 (∀(i:Nat) x v,E[i]?=some x->vs[i]?=some v->aO w F x v)->Calls X.P g vs w λe w'=>∃v,e=.returned v/\Below w.heap.size w w'/\aO w' F d v):qM X g (n9 h):=by
 refine⟨hh.1,λZ a A' φ F w vs AE AF T A5=>?_⟩;unfold n9 at A';cases A6:toDs Z with
 |none=>rw[A6]at A';cases A'
 |some E=>
  rw[A6]at A';obtain⟨d,A7,rfl⟩:=abS.1 A';have he:=toDs_eq A6;subst he;refine (hh.2 E d A7 F w vs AE AF (by simpa using T) (λi x v M A0=>?_)).mono ?_
  ·have:=A5 i (.d x) v (by simp[M]) A0;cases this with|d _ _ h=>exact h
  ·rintro e w' ⟨v,rfl,A,A0⟩;exact⟨v,rfl,A,.d _ _ A0⟩
theorem jU.of{X:Ctx}(h:ahg X=true)(A1:∀g h,X.wm g=some h->qM X g h):jU X:=by
 simp only[ahg,Ds,ab2,adF]at h;have key:∀(g:FuncId)(fn:Func),X.P.funcs[g]?=some fn->fn.name≠ "runtime.NumGoroutine" /\(match fn.body with|some c=>ek X g fn.ntmps c|none=>true)=true:=by
  intro g fn N;have J:=h.1.1 g (ad1.1 N).1;rw[N]at J;simpa using J
 refine⟨by simpa using h.2,λg fn N=>(key g fn N).1,λg fn c N A=>?_,h.1.2,A1⟩;have:=(key g fn N).2;rw[A]at this;exact this
theorem vN{α:Type}{f:α->D}:∀{xs:List D},(∀x∈xs,∃r,x=f r)->∃rs:List α,xs=rs.map f
 |[],_=>⟨[],rfl⟩
 |x::xs,h=>by
  obtain⟨r,rfl⟩:=h x (by simp);obtain⟨rs,rfl⟩:=vN (xs:=xs) (λy AG=>h y (by simp[AG]));exact⟨r::rs,rfl⟩
def fr0:Fr:=⟨λ_=>False,[]⟩
theorem VJ{X:Ctx}(AH:jU X){f:FuncId}{b:Bool}{xs:List D}(AI:ah X f (xs.map .d) []=some (.ret (.d (.bool b)),[])){W:World}{args:Array Value}(T:xs.length=args.size)
 (A5:∀(i:Nat) x v,xs[i]?=some x->args[i]?=some v->aO W (λ_=>False) x v) (N:eG W (λ_=>False) X.gl):
 Calls X.P f args W λe V=>e=.returned (.bool b)/\Below W.heap.size W V:=by
 have h:=(Xl AH f _ _ _ _ AI).2;have AB:∀b,Fo fr0 (λ_=>none) (dN 0 []) b->False:=by
  intro b A;rcases A with A|⟨e,he,_⟩
  ·exact A
  ·simp[dN]at he
 refine (h (λ_=>none) fr0 W args ⟨by simp[dN],λk L AJ=>by simp at AJ,λe he=>by simp[dN]at he,λe he=>by simp[dN]at he,λb ⟨e,he,_⟩=>by simp[dN]at he,λb A=>A.elim⟩
  (N.mono (λ_ _ _=>rfl) (abO _) (λb _ A=>AB b A)) (by simpa using T) (λi x v M A0=>?_)).mono ?_
 ·simp only[adK,abS]at M;obtain⟨d,A7,rfl⟩:=M;exact .d d v ((A5 i d v A7 A0).mono (λ_ _ _=>rfl) (abO _) (λb _ A=>AB b A))
 ·rintro e V ⟨φ',m',out,⟨rfl,rfl⟩,hm,A2,A1⟩;refine⟨?_,A2.os,A2.tape,A2.output,A2.size,λk AK=>A2.yW k AK (λ⟨e,he,_⟩=>by simp[dN]at he)⟩;cases e with
  |returned v=>
   simp only[nI]at A1;cases A1 with
   |d x v h=>cases h;rfl
  |_=>exact A1.elim
section
variable {H:Type} {enc:TypeId×Value->H}
end
def AD(P:Program)(L:List TypeId):Bool:=L.all λt=>match P.underlying t with
 |some .bool|some (.int _)|some .string=>P.cellsOf t == 1
 |some (.slice e)=>P.cellsOf t == 1&&L.contains e&&decide (1<=P.cellsOf e)
 |some (.struct A)=>Bl P (λt=>L.contains t) A.toList 0 (P.cellsOf t)
 |_=>false
theorem G2{P:Program}{L:List TypeId}{t:TypeId}(h:AD P L=true)(D:L.contains t=true):(match P.underlying t with
 |some .bool|some (.int _)|some .string=>P.cellsOf t == 1
 |some (.slice e)=>P.cellsOf t == 1&&L.contains e&&decide (1<=P.cellsOf e)
 |some (.struct A)=>Bl P (λt=>L.contains t) A.toList 0 (P.cellsOf t)
 |_=>false)=true:=ab2.1 h t (by simpa using D)
section
variable {H:Type} {enc:TypeId×Value->H} {P:Program} {w:World} {base:Nat} {sp:Nat->Bool} {held:Bool}
end
section
variable {H:Type} {enc:TypeId×Value->H}
end
mutual
def fh:D->Nat
 | .str s=>s.length+1
 | .list xs=>db xs+1
 | .agg cs=>db cs+1
 |_=>1
def db:List D->Nat
 |[]=>0
 |x::r=>fh x+db r
end
mutual
def ic{H:Type}:DataW H->Nat
 | .lit (.string bytes)=>bytes.length+1
 | .slice elems _=>gj elems+1
 | .agg parts=>gj parts+1
 |_=>1
def gj{H:Type}:List (DataW H)->Nat
 |[]=>0
 |d::r=>ic d+gj r
end
theorem yj:∀l r:List D,db (l++r)=db l+db r
 |[],r=>by simp[db]
 |x::l,r=>by simp[db,yj l r,adN]
theorem So(x:D):db x.cells<=fh x:=by
 cases x<;>simp[D.cells,db,fh]
theorem ahh(x:D):1<=fh x:=by cases x<;>simp[fh]
theorem ot:∀l:List D,l.length<=db l
 |[]=>by simp
 |x::r=>by have:=ot r;have:=ahh x;simp only[db,ach];omega
theorem JS:∀{l:List D}{x:D},x∈l->fh x<=db l
 |y::r,x,h=>by
  rcases abV.1 h with rfl|h
  ·simp only[db];omega
  ·have:=JS h;simp only[db];omega
theorem OG{H:Type}:∀(l:List D)(M:List (DataW H)),l.length=M.length->(∀(i:Nat) x d,l[i]?=some x->M[i]?=some d->fh x<=ic d)->db l<=gj M
 |[],[],_,_=>abO _
 |x::l,d::M,h,hi=>by
  have N:=hi 0 x d rfl rfl;have A0:=OG l M (by simpa using h) (λi y e T he=>hi (i+1) y e (by simpa using T) (by simpa using he));simp only[db,gj];omega
 |[],_::_,h,_=>by simp at h
 |_::_,[],h,_=>by simp at h
theorem yQ{H:Type}{P:Program}{w:World}{F:Nat->Prop}{n:Nat}{cs:List Value}{ok:TypeId->Bool}:∀(A1:List Field)(ws:List (DataW H))(o:Nat),Bl P ok A1 o cs.length=true->ws.length=A1.length->
 (∀(i:Nat) f e,A1[i]?=some f->ws[i]?=some e->ok f.type=true->∃d,typed P n f.type d/\Reads w F d ((cs.drop f.offset).take (P.cellsOf f.type))/\d.cells.length=P.cellsOf f.type/\fh d<=ic e)->
 ∃V:List D,V.length=A1.length/\(∀(i:Nat)(f:Field)(y:D),A1[i]?=some f->V[i]?=some y->typed P n f.type y)/\o<=cs.length/\Reads w F (.agg (V.flatMap D.cells)) (cs.drop o)/\db (V.flatMap D.cells)<=gj ws
 |[],[],o,A,_,_=>by
  simp only[Bl,beq_iff_eq]at A;subst A;exact⟨[],rfl,λi f y Z=>by simp at Z,abO _,⟨by simp[D.cells],by simp,λi c u N=>by simp[D.cells]at N⟩,by simp[db,gj]⟩
 |f::r,e::ws,o,A,hw,Z=>by
  simp only[Bl,Ds,beq_iff_eq]at A;obtain⟨⟨rfl,AG⟩,AH⟩:=A;obtain⟨V,N,A0,O,J,A2⟩:=yQ r ws _ AH (by simpa using hw) (λi AI e' hi he=>Z (i+1) AI e' (by simpa using hi) (by simpa using he));obtain⟨d,Y,A5,A3,A8⟩:=Z 0 f e rfl rfl AG;refine⟨d::V,by simp[N],λi AI y hi T=>?_,by omega,?_,?_⟩
  ·cases i with
   |zero=>simp at hi T;subst hi;subst T;exact Y
   |succ i=>simp at hi T;exact A0 i AI y hi T
  ·have Ad:cs.drop f.offset=(cs.drop f.offset).take (P.cellsOf f.type)++cs.drop (f.offset+P.cellsOf f.type):=by
    rw[<-amw,amz]
   obtain⟨AU,a2,a3⟩:=A5;obtain⟨Ae,Af,Ag⟩:=J;have Ah:(D.agg ((d::V).flatMap D.cells)).cells=d.cells++(D.agg (V.flatMap D.cells)).cells:=by simp[D.cells]
   rw[Ad];unfold Reads;rw[Ah];refine⟨by simp only[acg,AU,Ae],λu hu=>?_,λi c u A4 hu=>?_⟩
   ·rcases ab3.1 hu with hu|hu
    ·exact a2 u hu
    ·exact Af u hu
   ·by_cases hi:i<d.cells.length
    ·rw[abW hi]at A4;rw[abW (by omega)]at hu;exact a3 i c u A4 hu
    ·rw[ab1 (by omega)]at A4;rw[ab1 (by omega)]at hu;rw[<-AU]at hu;exact Ag _ c u A4 hu
  ·have A4:=So d;simp only[List.flatMap_cons,yj,gj];omega
 |[],_::_,_,_,h,_=>by simp at h
 |_::_,[],_,_,h,_=>by simp at h
section
variable {H:Type} {enc:TypeId×Value->H} {P:Program} {w:World} {base:Nat} {sp:Nat->Bool} {held:Bool}
theorem yk{L:List TypeId}(A':AD P L=true):∀(m:Nat)(t:TypeId)(cs:List Value)(x:DataW H×List MemPlace),L.contains t=true->DataW.trod enc P w base sp held m t cs=some x->
 ∃d,typed P (m+1) t d/\Reads w (λ_=>False) d cs/\d.cells.length=P.cellsOf t/\fh d<=ic x.1
 |m,t,cs,x,E,I=>by
  have E:=G2 A' E;simp only[typed];cases A:P.underlying t with
  |none=>rw[A]at E;cases E
  |some u=>
   rw[A]at E;cases u with
   |bool=>
    obtain⟨b,rfl,rfl⟩:=DataW.trod_bool A I;exact⟨.bool b,⟨b,rfl⟩,Reads.one (.bool b) rfl rfl,by simp at E;simp[D.cells,E],by simp[fh,ic]⟩
   |int k=>
    obtain⟨z,rfl,rfl,hw⟩:=DataW.trod_int A I;exact⟨.int k z,⟨z,rfl,hw⟩,Reads.one (.int k z) rfl rfl,by simp at E;simp[D.cells,E],by simp[fh,ic]⟩
   |string=>
    obtain⟨s,rfl,rfl,hw⟩:=DataW.trod_string A I;exact⟨.str s.data.toList,⟨_,rfl,by simpa using hw⟩,Reads.one (.str s _ rfl) rfl rfl,by simp at E;simp[D.cells,E],by simp[fh,ic]⟩
   |slice e=>
    simp only[Ds,beq_iff_eq,abQ]at E;obtain⟨⟨N,A0⟩,O⟩:=E;rcases DataW.trod_slice A I with ⟨rfl,rfl⟩|⟨a,len,cap,elems,rest,m',rfl,rfl,rfl,AJ,Ai,B3,B4,AB,_⟩
    ·exact⟨.list [],⟨[],rfl,by simp,by simp⟩,Reads.one (.nil none 0 (λ_=>rfl)) rfl rfl,by simp[D.cells,N],by simp[fh,db,ic]⟩
    ·have A6:∀i,∃p:D×Value,i<len->typed P (m'+1) e p.1/\aO w (λ_=>False) p.1 p.2/\p.1.size=P.cellsOf e/\a.block<w.heap.size/\a.spot=none/\
      (∀j c,p.2.cells[j]?=some c->w.cell? ⟨a.block,a.off+i*P.cellsOf e+j,none⟩=some c)/\∀q,elems[i]?=some q->fh p.1<=ic q.1:=by
      intro i;by_cases hi:i<len
      ·have J:=AB i hi;have A2:∃y,elems[i]?=some y:=⟨elems[i]'(by omega),by simp[show i<elems.length by omega]⟩
       obtain⟨y,T⟩:=A2;rw[T]at J;simp only[aml]at J;obtain⟨AK,Aj,Ak⟩:=J;obtain⟨d,Y,A5,A3,A8⟩:=yk A' m' e AK y A0 Ak;obtain⟨g1,g2⟩:=EC Aj;have g3:a.block<w.heap.size/\a.spot=none:=by
        have AL:∃i0,i0<len/\i0=0:=⟨0,by omega,rfl⟩;have AM:=AB 0 (by omega);have Al:∃y,elems[0]?=some y:=⟨elems[0]'(by omega),by simp[show 0<elems.length by omega]⟩
        obtain⟨B5,An⟩:=Al;rw[An]at AM;simp only[aml]at AM;obtain⟨AN,Ao,_⟩:=AM;obtain⟨B6,Ap⟩:=EC Ao;have AC:=Ap 0 (by omega);have AE:∃c,AN[0]?=some c:=⟨AN[0]'(by omega),by simp[show 0<AN.length by omega]⟩
        obtain⟨c,A4⟩:=AE;rw[A4]at AC;have AF:=CT AC;simpa [Addr.add]using AF
       refine⟨⟨d,shaped d AK⟩,λ_=>⟨Y,A5.rel,by rw[<-D.fR];exact A3,g3.1,g3.2,λj c A9=>?_,λq A6=>by rw[T]at A6;cases A6;exact A8⟩⟩;have AC:=A5.JP;have AE:AK[j]?=some c:=by rw[<-AC];simpa using A9
       have Aq:j<P.cellsOf e:=by
        have:=(abM.1 AE).1;omega
       have AF:=g2 j Aq;obtain⟨AV,ao,AO⟩:=a;obtain rfl:AO=none:=g3.2;rw[add_add]at AF;rw[AF];exact AE
      ·exact⟨⟨.bool false,undef⟩,λh=>absurd h hi⟩
     obtain⟨f,Z⟩:=Classical.axiomOfChoice A6;refine⟨.list ((List.range len).map λi=>(f i).1),⟨_,rfl,by simp;omega,λx I=>?_⟩,Reads.one ?_ rfl rfl,by simp[D.cells,N],?_⟩
     ·simp only[ab4,adF]at I;obtain⟨i,hi,rfl⟩:=I;exact (Z i hi).1
     ·by_cases A3:len=0
      ·subst A3;exact .nil (some a) cap (λh=>by cases h)
      ·have AL:=Z 0 (by omega);obtain⟨AV,ao,AO⟩:=a;obtain rfl:AO=none:=AL.2.2.2.2.1;have AA:((List.range len).map λi=>(f i).1).length=len:=by simp
       have:=aO.list (w:=w) (F:=λ_=>False) ((List.range len).map λi=>(f i).1) AV ao cap (P.cellsOf e) (λi=>(f i).2) (by rw[AA];exact Ai) AL.2.2.2.1 (λh=>h)
        (λd Y=>by
         simp only[ab4,adF]at Y;obtain⟨i,hi,rfl⟩:=Y;exact (Z i hi).2.2.1)
        (λi d Y=>by
         simp only[adK,abS]at Y;obtain⟨B7,Ar,rfl⟩:=Y;have:=abM.1 Ar;obtain⟨AW,AX⟩:=this;simp at AW AX;subst AX;exact (Z _ AW).2.1)
        (λi j c hi A9=>by
         rw[AA]at hi;exact (Z i hi).2.2.2.2.2.1 j c A9)
       rw[AA]at this;exact this
     ·simp only[fh,ic];refine Nat.succ_le_succ (OG _ _ (by simp;omega) λi x d I Y=>?_);simp only[adK,abS]at I Y;obtain⟨j,A9,rfl⟩:=I;obtain⟨q,A6,rfl⟩:=Y;obtain⟨AY,AZ⟩:=abM.1 A9;simp at AY AZ;subst AZ;exact (Z i AY).2.2.2.2.2.2 q A6
   |struct A1=>
    obtain⟨xs,m',rfl,rfl,A3,As,AB⟩:=DataW.trod_struct A I;simp only at E;rw[<-A3]at E;obtain⟨V,N,A0,_,J,A2⟩:=yQ (n:=m'+1) (w:=w) (F:=λ_=>False) A1.toList (xs.map (·.1)) 0 E (by simpa using As) (λi f e hi he AG=>by
     simp only[adK,abS]at he;obtain⟨y,T,rfl⟩:=he;have A2:=AB i f (by simpa using hi);rw[T]at A2;exact yk A' m' f.type _ y AG A2)
    refine⟨.agg (V.flatMap D.cells),⟨V,rfl,by simpa using N,λi f y hi T=>A0 i f y (by simpa using hi) T⟩,by simpa using J,?_,?_⟩
    ·have:=J.1;rw[this];simpa using A3
    ·simp only[fh,ic];omega
   |_=>cases E
theorem Yp{L:List TypeId}(A':AD P L=true){t:TypeId}{v:Value}{d:DataW H}{ps:List MemPlace}{b0:Nat}(E:L.contains t=true)(U:Value.okWide P w .any b0 t v)(h:DataW.Trod enc P w base sp held t v d ps):
 ∃n x,typed P n t x/\aO w (λ_=>False) x v/\fh x<=ic d:=by
 obtain⟨m,hm⟩:=h;obtain⟨x,I,A5,_,A8⟩:=yk A' m t _ _ E hm;refine⟨m+1,x,I,?_,A8⟩;have N:=A5.rel
 ·have E:=G2 A' E;simp only[typed]at I;cases A:P.underlying t with
  |none=>rw[A]at E;cases E
  |some u=>
   rw[A]at E I;cases u with
   |bool=>obtain⟨b,rfl⟩:=okWide_bool A U;obtain⟨y,rfl⟩:=I;exact N
   |int k=>obtain⟨b,rfl⟩:=okWide_int A U;obtain⟨y,rfl,_⟩:=I;exact N
   |string=>obtain⟨b,rfl⟩:=okWide_string A U;obtain⟨y,rfl,_⟩:=I;exact N
   |slice e=>obtain⟨a,len,cap,rfl⟩:=okWide_slice A U;obtain⟨y,rfl,_⟩:=I;exact N
   |struct A1=>
    simp only[Value.okWide,A]at U;obtain⟨cs,rfl,_⟩:=U;obtain⟨V,rfl,_⟩:=I;simpa [shaped,Value.cells]using N
   |_=>cases E
theorem G3{L:List TypeId}(A':AD P L=true){b0:Nat}:∀{A7:List TypeId}{vs:List Value}{M:List (DataW H)}{ps:List MemPlace},DataW.TrodAll enc P w base sp held A7 vs M ps->(∀t∈A7,L.contains t=true)->
 (∀(j:Nat) t v,A7[j]?=some t->vs[j]?=some v->Value.okWide P w .any b0 t v)->
 ∃xs:List D,xs.length=vs.length/\xs.length=A7.length/\(∀(i:Nat) t x,A7[i]?=some t->xs[i]?=some x->∃n,typed P n t x)/\(∀(i:Nat) x v,xs[i]?=some x->vs[i]?=some v->aO w (λ_=>False) x v)/\db xs<=gj M
 |[],[],[],_,_,_,_=>⟨[],rfl,rfl,λi t x h=>by simp at h,λi x v h=>by simp at h,by simp[db,gj]⟩
 |t::A7,v::vs,d::M,ps,h,E,U=>by
  obtain⟨p,q,N,A0,_⟩:=h;obtain⟨n,x,I,AH,A8⟩:=Yp A' (E t (by simp)) (U 0 t v rfl rfl) N;obtain⟨xs,g1,g2,g3,g4,g5⟩:=G3 A' A0 (λt A=>E t (by simp[A])) (λj t v O J=>U (j+1) t v (by simpa using O) (by simpa using J));refine⟨x::xs,by simp[g1],by simp[g2],λi At AP O J=>?_,λi AP Au O J=>?_,by simp only[db,gj];omega⟩
  ·cases i with
   |zero=>simp at O J;subst O;subst J;exact⟨n,I⟩
   |succ i=>simp at O J;exact g3 i At AP O J
  ·cases i with
   |zero=>simp at O J;subst O;subst J;exact AH
   |succ i=>simp at O J;exact g4 i AP Au O J
 |[],_::_,_,_,h,_,_=>by cases h
 |[],[],_::_,_,h,_,_=>by cases h
 |_::_,[],_,_,h,_,_=>by cases h
 |_::_,_::_,[],_,h,_,_=>by cases h
end
section
variable {H:Type} {enc:TypeId×Value->H}
theorem Hq{X:Ctx}(Av:jU X){f:FuncId}{fn:Func}{s:ChangeSpec}{apart fresh handsOn:Bool}{L:List TypeId}{tb:TypeId}(A':AD X.P L=true)
 (Aw:laidOutB X.P=true) (AQ:(fn.params.toList.all λt=>X.P.readableRec t&&decide (t<X.P.types.size)&&L.contains t)=true)
 (Ax:fn.resultTypes=#[tb]) (Ay:X.P.underlying tb=some .bool) (A_:s.vars=[])
 (Az:∀M:List (DataW H),M.length=fn.params.size->s.fn H M={results:=[.lit (.bool true)],args:=M})
 {W:World} {base:Nat} {args:Array Value} {M gs:List (DataW H)} {before:List MemPlace}
 (B':∀(j:Nat) t v,fn.params[j]?=some t->args[j]?=some v->Value.okWide X.P W .any base t v)
 (Aa:DataW.Whole enc X.P fn.params.toList s.vars apart W args.toList M gs before) (B0:eG W (λ_=>False) X.gl)
 (B1:∀xs:List D,xs.length=fn.params.size->(∀(i:Nat) t x,fn.params[i]?=some t->xs[i]?=some x->∃n,typed X.P n t x)->db xs<=gj M->ah X f (xs.map .d) []=some (.ret (.d (.bool true)),[])):
 Calls X.P f args W λe Ab=>∃v,e=.returned v/\s.post enc X.P fn apart fresh handsOn false W args v Ab:=by
 have Ac:=Aa;obtain⟨p,q,AR,AS,rfl,B8,B9⟩:=Aa;rw[A_]at AS;obtain⟨rfl,rfl⟩:gs=[]/\q=[]:=by
  cases gs with
  |nil=>exact⟨rfl,AS⟩
  |cons g r=>exact absurd AS (by intro h;cases h)
 simp only[ab2,Ds,abQ]at AQ;obtain⟨xs,N,A0,O,J,A2⟩:=G3 A' (b0:=base) AR (λt A=>(AQ t A).2) (λj t v A U=>B' j t v (by simpa using A) (by simpa using U));have AA:=trodAll_length AR;refine (VJ Av (B1 xs (by simpa using A0) (λi t x A I=>O i t x (by simpa using A) I) A2) (by simpa using N) (λi x v I U=>J i x v I (by simpa using U)) B0).mono ?_;rintro e Ab ⟨rfl,AJ⟩;have B2:∀x∈p,x.block<W.heap.size:=λx I=>by simpa using Ac.lt x (by simpa using I)
 have AT:s.fn H (M++[])={results:=[.lit (.bool true)],args:=M}:=by
  rw[aeP];exact Az M (by simpa using AA.2)
 refine⟨_,rfl,M,[],p++[],[],p,[],Ac,?_,?_,?_,AJ.frame _,λh=>by cases h⟩
 ·rw[AT,Ax];exact trodAll_mk1 (shut_bool Ay true)
 ·rw[AT];exact yP Aw AJ AR (λt A=>(AQ t A).1) B2
 ·rw[AT,A_];rfl
end
end Go.Am
end
section
namespace Go.Am
open Go
theorem JU(l:List Ex):(j8 l).length=l.length:=by rw[sU];simp
theorem EE(x:Ex):fh (bL x)=db (Eo x)+1:=by rw[HE];rfl
mutual
theorem JV:∀x:Ex,fh (bL x)<100000000->wQ x
 | .mk op n name field sub line,h=>by
  simp only[bL,fh,db]at h;have A:=ot (j8 sub);rw[JU]at A;simp only[wQ];exact⟨⟨by omega,by omega,by omega⟩,FN sub (by omega)⟩
theorem FN:∀l:List Ex,db (j8 l)<100000000->pv l
 |[],_=>by simp only[pv]
 |x::r,h=>by
  simp only[j8,db]at h;simp only[pv];exact⟨JV x (by omega),FN r (by omega)⟩
end
theorem CU{α:Type}(f:α->D)(l:List α):l.length<=db (l.map f):=by
 have:=ot (l.map f);simpa using this
theorem alA(l:List Int):l.length<=fh (il l):=by
 have:=CU (λn=>D.int .i64 n) l;simp only[il,fh];omega
theorem Yq(l:List (List Sm)):(rY l).length=l.length:=by rw[Bf];simp
theorem JW(l:List Sm):(qt l).length=l.length:=by rw[wI];simp
mutual
theorem ahk:∀x:Sm,fh (cK x)<100000000->yO x/\OC x<=fh (cK x)
 | .mk op name to val I M fields J line,h=>by
  simp only[cK,fh,db,yj]at h⊢;have U:=EE to;have V:=EE val;have A:=ot (j8 I);rw[JU]at A;have Y:=CU il M;have Z:=CU D.str fields;have N:=ot (rY J);rw[Yq]at N;have O:=OH J (by omega);simp only[yO,OC];refine⟨⟨⟨JV to (by omega),JV val (by omega),⟨by omega,FN I (by omega)⟩,⟨by omega,λl T=>?_⟩,by omega,by omega⟩,O.1⟩,by omega⟩;have q:=JS (ab7 (f:=il) T);have y:=alA l;omega
theorem FO:∀l:List Sm,db (qt l)<100000000->ke l/\rZ l<=db (qt l)
 |[],_=>by simp only[ke,rZ];exact⟨trivial,ang _⟩
 |x::r,h=>by
  simp only[qt,db]at h⊢;have E:=ahk x (by omega);have A:=FO r (by omega);simp only[ke,rZ];exact⟨⟨E.1,A.1⟩,by omega⟩
theorem OH:∀l:List (List Sm),db (rY l)<100000000->l9 l/\vM l<=db (rY l)
 |[],_=>by simp only[l9,vM];exact⟨trivial,ang _⟩
 |b::r,h=>by
  simp only[rY,db,fh]at h⊢;have H:=ot (qt b);rw[JW]at H;have E:=FO b (by omega);have A:=OH r (by omega);simp only[l9,vM];exact⟨⟨⟨by omega,E.1⟩,A.1⟩,by omega⟩
end
theorem yl{p:Pg}(h:fh (.agg [.str p.name,.list (p.vars.map bx),.list (p.body.map cK)])<50000000):p.body.length<100000000/\ke p.body/\rZ p.body<50000000:=by
 simp only[fh,db]at h;rw[<-wI]at h;have H:=ot (qt p.body);rw[JW]at H;have E:=FO p.body (by omega);exact⟨by omega,E.1,by omega⟩
mutual
def cO:Ex->Bool
 | .mk _ n _ _ sub _=>decide (-9223372036854775808<=n/\n<=9223372036854775807)&&cQ sub
def cQ:List Ex->Bool
 |[]=>true
 |x::r=>cO x&&cQ r
end
def ym(n:Int):Bool:=decide (-9223372036854775808<=n/\n<=9223372036854775807)
mutual
def iq:Sm->Bool
 | .mk _ _ to val A D _ E _=>cO to&&(cO val&&(cQ A&&(D.all (λl=>l.all ym)&&eK E)))
def gm:List Sm->Bool
 |[]=>true
 |x::r=>iq x&&gm r
def eK:List (List Sm)->Bool
 |[]=>true
 |b::r=>gm b&&eK r
end
end Go.Am
end
section
namespace Go.Am
open Go Go.Proofs
variable [Inhabited bI]
set_option maxRecDepth 20000
theorem rN{P:Program}{n:Nat}{t:TypeId}{d:D}(h:typed P n t d):∃m,n=m+1:=by
 cases n with
 |zero=>exact h.elim
 |succ m=>exact⟨m,rfl⟩
theorem kX{P:Program}{n:Nat}{t:TypeId}{d:D}(I:P.underlying t=some (.int .i64))(h:typed P n t d):∃z,d=.int .i64 z/\ym z=true:=by
 obtain⟨m,rfl⟩:=rN h;obtain⟨z,rfl,hw⟩:=VI I h;refine⟨z,rfl,?_⟩;have H:aI z:=by
  simp[Lit.wf]at hw;unfold aI;have A8:IntKind.i64.min= -9223372036854775808:=by decide
  have A9:IntKind.i64.max=9223372036854775807:=by decide
  simp only[A8,A9]at hw;omega
 unfold aI at H;unfold ym;simp only[abQ];exact H
theorem acN{P:Program}{n:Nat}{t:TypeId}{d:D}(I:P.underlying t=some .bool)(h:typed P n t d):∃b,d=.bool b:=by
 obtain⟨m,rfl⟩:=rN h;exact Sn I h
theorem oN{P:Program}{n:Nat}{t:TypeId}{d:D}(I:P.underlying t=some .string)(h:typed P n t d):∃s,d=.str s:=by
 obtain⟨m,rfl⟩:=rN h;obtain⟨s,rfl,_⟩:=JQ I h;exact⟨s,rfl⟩
theorem lJ{P:Program}{n:Nat}{t e:TypeId}{d:D}(I:P.underlying t=some (.slice e))(h:typed P n t d):∃xs m,m<n/\d=.list xs/\∀x∈xs,typed P m e x:=by
 obtain⟨m,rfl⟩:=rN h;obtain⟨xs,rfl,_,A⟩:=Lv I h;exact⟨xs,m,by omega,rfl,A⟩
theorem uX{P:Program}{n:Nat}{t:TypeId}{d:D}{A3:Array Field}(I:P.underlying t=some (.struct A3))(h:typed P n t d):∃J m,m<n/\d=.agg J/\Bm P m A3.toList J:=by
 obtain⟨m,rfl⟩:=rN h;obtain⟨J,rfl,AA⟩:=JR I h;exact⟨J,m,by omega,rfl,AA⟩
theorem ir{α:Type}{f:α->D}{Q:α->Prop}:∀{xs:List D},(∀x∈xs,∃r,x=f r/\Q r)->∃rs:List α,xs=rs.map f/\∀r∈rs,Q r
 |[],_=>⟨[],rfl,λr h=>by cases h⟩
 |x::xs,h=>by
  obtain⟨r,rfl,AB⟩:=h x (by simp);obtain⟨rs,rfl,AC⟩:=ir (xs:=xs) (λy E=>h y (by simp[E]));exact⟨r::rs,rfl,λy E=>by
   rcases abV.1 E with rfl|E
   ·exact AB
   ·exact AC y E⟩
theorem CV:∀{l:List Ex},(∀x∈l,cO x=true)->cQ l=true
 |[],_=>by simp[cQ]
 |x::r,h=>by simp only[cQ,Ds];exact⟨h x (by simp),CV λy E=>h y (by simp[E])⟩
theorem CW:∀{l:List Sm},(∀x∈l,iq x=true)->gm l=true
 |[],_=>by simp[gm]
 |x::r,h=>by simp only[gm,Ds];exact⟨h x (by simp),CW λy E=>h y (by simp[E])⟩
theorem JX:∀{l:List (List Sm)},(∀x∈l,gm x=true)->eK l=true
 |[],_=>by simp[eK]
 |x::r,h=>by simp only[eK,Ds];exact⟨h x (by simp),JX λy E=>h y (by simp[E])⟩
theorem CX:∀(n:Nat)(x:D),typed Tryz.prog n 114 x->∃e:Ex,x=bL e/\cO e=true:=by
 intro n;induction n using Nat.strongRecOn with
 |ind n ih=>
 intro x h;obtain⟨J,m,hm,rfl,Z,d0,M,⟨A',d1,N,⟨A0,d2,H,⟨A4,d3,O,⟨A5,d4,T,⟨A6,d5,U,rfl,rfl⟩,rfl⟩,rfl⟩,rfl⟩,rfl⟩,rfl⟩:=uX Tryz.underlying114 h;obtain⟨op,rfl,_⟩:=kX Tryz.underlying3 M;obtain⟨k,rfl,AD⟩:=kX Tryz.underlying2 N;obtain⟨name,rfl⟩:=oN Tryz.underlying9 H;obtain⟨field,rfl⟩:=oN Tryz.underlying9 O;obtain⟨xs,q,A7,rfl,V⟩:=lJ Tryz.underlying112 T;obtain⟨line,rfl,_⟩:=kX Tryz.underlying3 U;obtain⟨l,rfl,Y⟩:=ir (f:=bL) (Q:=λe=>cO e=true) (λx A=>ih q (by omega) x (V x A));exact⟨.mk op k name field l line,by rw[HE];simp[Eo,sU,D.cells],by
  simp only[cO,Ds];exact⟨AD,CV Y⟩⟩
theorem EG{n:Nat}{x:D}(h:typed Tryz.prog n 26 x):∃l:List Int,x=il l/\l.all ym=true:=by
 obtain⟨xs,q,A7,rfl,V⟩:=lJ Tryz.underlying26 h;obtain⟨l,rfl,Y⟩:=ir (f:=λn=>D.int .i64 n) (Q:=λe=>ym e=true) (λx A=>kX Tryz.underlying2 (V x A));exact⟨l,rfl,ab2.2 Y⟩
theorem Yr:∀(n:Nat)(x:D),typed Tryz.prog n 119 x->∃e:Sm,x=cK e/\iq e=true:=by
 intro n;induction n using Nat.strongRecOn with
 |ind n ih=>
 intro x h;obtain⟨J,m,hm,rfl,Z,d0,M,⟨A',d1,N,⟨A0,d2,H,⟨A4,d3,O,⟨A5,d4,T,⟨A6,d5,U,⟨AE,d6,A1,⟨AF,d7,A2,⟨AW,d8,AG,rfl,rfl⟩,rfl⟩,rfl⟩,rfl⟩,rfl⟩,rfl⟩,rfl⟩,rfl⟩,rfl⟩:=uX Tryz.underlying119 h;obtain⟨op,rfl,_⟩:=kX Tryz.underlying3 M;obtain⟨name,rfl⟩:=oN Tryz.underlying9 N;obtain⟨to,rfl,AH⟩:=CX _ _ H;obtain⟨val,rfl,AI⟩:=CX _ _ O;obtain⟨AX,AY,AZ,rfl,AJ⟩:=lJ Tryz.underlying112 T;obtain⟨A_,Aa,Ab,rfl,AK⟩:=lJ Tryz.underlying115 U;obtain⟨Ac,Ad,Ae,rfl,AL⟩:=lJ Tryz.underlying116 A1;obtain⟨Af,Ag,Ah,rfl,AM⟩:=lJ Tryz.underlying117 A2;obtain⟨line,rfl,_⟩:=kX Tryz.underlying3 AG;obtain⟨AN,rfl,AO⟩:=ir (f:=bL) (Q:=λe=>cO e=true) (λx A=>CX _ _ (AJ x A));obtain⟨AP,rfl,AQ⟩:=ir (f:=il) (Q:=λl=>l.all ym=true) (λx A=>EG (AK x A));obtain⟨fields,rfl⟩:=vN (f:=D.str) (λx A=>oN Tryz.underlying9 (AL x A));obtain⟨AR,rfl,AS⟩:=ir (f:=λb:List Sm=>D.list (b.map cK)) (Q:=λb=>gm b=true) (λx A=>by
  obtain⟨xs,q,A7,rfl,V⟩:=lJ Tryz.underlying23 (AM x A);obtain⟨l,rfl,Y⟩:=ir (f:=cK) (Q:=λe=>iq e=true) (λx A=>ih q (by omega) x (V x A));exact⟨l,rfl,CW Y⟩)
 refine⟨.mk op name to val AN AP fields AR line,?_,?_⟩
 ·simp[cK,sU,Bf,D.cells,HE]
 ·simp only[iq,Ds];exact⟨AH,AI,CV AO,ab2.2 AQ,JX AS⟩
theorem Ys{n:Nat}{x:D}(h:typed Tryz.prog n 64 x):∃v:Vr,x=bx v:=by
 obtain⟨J,m,hm,rfl,Z,d0,M,⟨A',d1,N,⟨A0,d2,H,⟨A4,d3,O,⟨A5,d4,T,⟨A6,d5,U,⟨AE,d6,A1,⟨AF,d7,A2,rfl,rfl⟩,rfl⟩,rfl⟩,rfl⟩,rfl⟩,rfl⟩,rfl⟩,rfl⟩:=uX Tryz.underlying64 h;obtain⟨name,rfl⟩:=oN Tryz.underlying9 M;obtain⟨ty,rfl,_⟩:=kX Tryz.underlying3 N;obtain⟨sec,rfl,_⟩:=kX Tryz.underlying3 H;obtain⟨arr,rfl⟩:=acN Tryz.underlying4 O;obtain⟨lo,rfl,_⟩:=kX Tryz.underlying2 T;obtain⟨hi,rfl,_⟩:=kX Tryz.underlying2 U;obtain⟨init,rfl,_⟩:=kX Tryz.underlying2 A1;obtain⟨line,rfl,_⟩:=kX Tryz.underlying3 A2;exact⟨⟨name,ty,sec,arr,lo,hi,init,line⟩,rfl⟩
theorem Yt{n:Nat}{x:D}(h:typed Tryz.prog n 25 x):∃p:Pg,x=.agg [.str p.name,.list (p.vars.map bx),.list (p.body.map cK)]/\gm p.body=true:=by
 obtain⟨J,m,hm,rfl,Z,d0,M,⟨A',d1,N,⟨A0,d2,H,rfl,rfl⟩,rfl⟩,rfl⟩:=uX Tryz.underlying25 h;obtain⟨name,rfl⟩:=oN Tryz.underlying9 M;obtain⟨Ai,q1,Aj,rfl,AT⟩:=lJ Tryz.underlying22 N;obtain⟨Ak,q2,Al,rfl,AU⟩:=lJ Tryz.underlying23 H;obtain⟨vars,rfl⟩:=vN (f:=bx) (λx A=>Ys (AT x A));obtain⟨body,rfl,AV⟩:=ir (f:=cK) (Q:=λe=>iq e=true) (λx A=>Yr _ _ (AU x A));exact⟨⟨name,vars,body⟩,rfl,CW AV⟩
end Go.Am
end
section
namespace Go.Am
open Go
def uY(n:Int):Int:=IntKind.i64.wrap (-n)
def iu(x:Ex):Option (Int×Bool):=
 if bO x=1 then some (fW x,false)
 else if bO x=2 then some (fW x,true)
 else if bO x=6 then (match cV x with
  |[y]=>if bO y=1 then some (uY (fW y),false)else none
  |_=>none)
 else none
def m9:List Ex->Option (List (Int×Bool))
 |[]=>some []
 |x::r=>match iu x with
  |some p=>(match m9 r with
   |some l=>some (p::l)
   |none=>none)
  |none=>none
def kq(n:Int)(t:Bool)(line:Int):Ex:=
 if t=true then .mk 2 n [] [] [] line
 else if 0<=n then .mk 1 n [] [] [] line
 else .mk 6 0 [] [] [.mk 1 (uY n) [] [] [] line] line
def AE(op:Int):List (Int×Bool)->Option (Int×Bool×Int)
 |[a]=>some (kh op a.1 a.2)
 |[a,b]=>if a.2=b.2 then some (ik op a.1 b.1 a.2)else none
 |_=>none
def jX(x:Ex):Ex:=
 if bO x<6\/(iu x).isSome then x
 else match m9 (cV x)with
  |none=>x
  |some l=>match AE (bO x) l with
   |none=>x
   |some r=>if r.2.2≠0\/(r.2.1=false/\r.1= -9223372036854775808)then x else kq r.1 r.2.1 (jq x)
mutual
def cS:Ex->Ex
 | .mk op n name field sub line=>jX (.mk op n name field (cf sub) line)
def cf:List Ex->List Ex
 |[]=>[]
 |x::r=>cS x::cf r
end
theorem iI:∀l:List Ex,cf l=l.map cS
 |[]=>rfl
 |x::r=>by simp[cf,iI r]
mutual
def pQ:Sm->Sm
 | .mk op name to val A D fields E line=>.mk op name (cS to) (cS val) (cf A) D fields (gd E) line
def iW:List Sm->List Sm
 |[]=>[]
 |x::r=>pQ x::iW r
def gd:List (List Sm)->List (List Sm)
 |[]=>[]
 |b::r=>iW b::gd r
end
def B3(p:Pg):Pg:=⟨p.name,p.vars,iW p.body⟩
def vr0:Vr:=⟨[],0,0,false,0,0,0,0⟩
def EH:List Vr->Tx->Int->Int×Vr
 |[],_,_=>(0,vr0)
 |v::r,s,n=>if v.name=s then (n,v)else EH r s (n+cq v)
def dP(vs:List Vr)(s:Tx):Int×Vr:=EH vs s 0
def eF:List Vr->Int
 |[]=>0
 |v::r=>cq v+eF r
def CY:List Pn->Tx->Nat->Option (Nat×Pn)
 |[],_,_=>none
 |p::r,s,i=>if p.name=s then some (i,p)else CY r s (i+1)
def ahm:Pn:=⟨[],0,false⟩
def lK(vs:List Vr)(s f:Tx):Int×Pn:=
 if (bz vs s).isSome=true/\2<(dP vs s).2.ty/\f≠[]then
  (match CY (bC (dP vs s).2.ty) f 0 with
   |some (i,p)=>((dP vs s).1+i,p)
   |none=>(0,ahm))
 else (0,ahm)
def px(k:Nat)(x:aV):aV:=if (x.op=9\/x.op=10)/\0<=x.a then {x with a:=x.a+k} else x
def pR(k:Nat)(l:List aV):List aV:=l.map (px k)
def jn(a b:List aV):List aV:=a++pR a.length b
def OI(to:Int)(x:aV):aV:=if x.op=9/\x.a= -1 then {x with a:=to} else x
def rtI(to:Int)(x:aV):aV:=if x.op=9/\x.a= -2 then {x with a:=to} else x
def ins(op a b n m:Int):aV:=⟨op,a,b,n,m⟩
def ml:List (List aV)->List (List aV)->List aV
 |_,[]=>[]
 |[],b::r=>if r=[]then b else jn (b++[ins 9 (b.length+1+(ml [] r).length) 0 0 0]) (ml [] r)
 |t::A,b::r=>
  let out:=ml A r
  let part:=if r=[]then b else b++[ins 9 (b.length+1+out.length) 0 0 0]
  jn (t++[ins 10 (t.length+1+part.length) 0 0 0]++pR (t.length+1) part) out
def FP(l:List aV):List aV:=l.map (OI l.length)
@[simp] theorem auF(k:Nat)(l:List aV):(pR k l).length=l.length:=by simp[pR]
@[simp] theorem asu(l:List aV):(FP l).length=l.length:=by simp[FP]
theorem VK(a b:List aV):(jn a b).length=a.length+b.length:=by simp[jn]
theorem JZ(k:Nat)(x:aV):(px k x).op=x.op:=by unfold px;split<;>rfl
theorem wR{n:Int}(h: -9223372036854775808<n/\n<=9223372036854775807):uY n= -n:=by
 unfold uY;simp only[IntKind.wrap,IntKind.bits,IntKind.signed];simp;omega
theorem ahn(b:Bool):dk b=0\/dk b=1:=by cases b<;>simp[dk]
def OJ(r:Int×Bool×Int)(t:Bool):Prop:=r.2.2=0->r.2.1=t/\(t=true->r.1=0\/r.1=1)/\(-9223372036854775808<=r.1/\r.1<=9223372036854775807)
theorem wS(t:Bool):OJ jC t:=λh=>by simp[jC]at h
theorem kY(b:Bool):OJ (dk b,true,0) true:=λ_=>by rcases ahn b with h|h<;>simp[h]
theorem Bn(z:Int):OJ (qp (jo z)) false:=by
 intro h;unfold qp jo at h⊢;split<;>simp_all;all_goals omega
theorem aho{a b:Int}(A: -9223372036854775808<=a/\a<=9223372036854775807)(h:¬(a= -9223372036854775808/\b= -1)): -9223372036854775808<=a.tdiv b/\a.tdiv b<=9223372036854775807:=by
 have I:(a.tdiv b).natAbs<=a.natAbs:=by rw[Int.natAbs_tdiv];exact Nat.div_le_self _ _
 by_cases hm:a= -9223372036854775808
 ·by_cases D:b=1
  ·subst D;simp only[Int.tdiv_one];omega
  ·by_cases J:b=0
   ·subst J;simp
   ·have H:2<=b.natAbs:=by omega
    have M:(a.tdiv b).natAbs<=a.natAbs/2:=by rw[Int.natAbs_tdiv];exact Nat.div_le_div_left H (by omega)
    omega
 ·omega
theorem ahp{a b:Int}(A: -9223372036854775808<=a/\a<=9223372036854775807): -9223372036854775808<=a.tmod b/\a.tmod b<=9223372036854775807:=by
 have I:(a.tmod b).natAbs<=a.natAbs:=by rw[Int.natAbs_tmod];exact Nat.mod_le _ _
 have H:0<=a->0<=a.tmod b:=λh=>Int.tmod_nonneg _ h;have M:a<=0->a.tmod b<=0:=λh=>by
  have:=Int.tmod_nonneg (a:= -a) b (by omega);rw[Int.neg_tmod]at this;omega
 omega
theorem acO{a b:Int}(A: -9223372036854775808<=a/\a<=9223372036854775807):OJ (oq (vJ a b)) false:=by
 intro h;by_cases D:b=0
 ·simp[oq,vJ,D]at h
 ·by_cases hm:a= -9223372036854775808/\b= -1
  ·simp[oq,vJ,hm]at h
  ·have:=aho A hm;simp[oq,vJ,D,hm,this]
theorem acP{a b:Int}(A: -9223372036854775808<=a/\a<=9223372036854775807):OJ (oq (xX a b)) false:=by
 intro h;by_cases D:b=0
 ·simp[oq,xX,D]at h
 ·have:=ahp (b:=b) A;simp[oq,xX,D,this]
def ahq(op:Int):Prop:=op=6\/(8<=op/\op<=12)\/(15<=op/\op<=18)
instance (op:Int):Decidable (ahq op):=inferInstanceAs (Decidable (_\/_))
theorem VL{op:Int}{l:List (Int×Bool)}{r:Int×Bool×Int}(h:AE op l=some r)(E:∀p∈l, -9223372036854775808<=p.1/\p.1<=9223372036854775807):
 OJ r (!decide (op=6\/(8<=op/\op<=12))):=by
 unfold AE at h;split at h
 ·rename_i a;cases h;have A:=E a (by simp);unfold kh;split
  ·split
   ·exact wS _
   ·split
    ·rename_i N;subst N;exact kY _
    ·exact wS _
  ·split
   ·rename_i O;subst O;exact Bn _
   ·exact wS _
 ·rename_i a b;have A:=E a (by simp);have D:=E b (by simp);split at h
  ·cases h;unfold ik;split
   ·split
    ·exact wS _
    ·unfold CM;split
     ·rename_i e;subst e;exact kY _
     ·split
      ·rename_i e;have:(!decide (op=6\/(8<=op/\op<=12)))=true:=by simp;omega
       rw[this];exact kY _
      ·split
       ·rename_i e;subst e;exact kY _
       ·split
        ·rename_i e;subst e;exact kY _
        ·exact wS _
   ·unfold Ao;split
    ·rename_i e;subst e;exact Bn _
    ·split
     ·rename_i e;subst e;exact Bn _
     ·split
      ·rename_i e;subst e;exact Bn _
      ·split
       ·rename_i e;subst e;exact acO A
       ·split
        ·rename_i e;subst e;exact acP A
        ·split
         ·rename_i e;subst e;exact kY _
         ·split
          ·rename_i e;subst e;exact kY _
          ·split
           ·rename_i e;subst e;exact kY _
           ·split
            ·rename_i e;subst e;exact kY _
            ·split
             ·rename_i e;subst e;exact kY _
             ·split
              ·rename_i e;subst e;exact kY _
              ·exact wS _
  ·cases h
 ·cases h
def Kp(vs:List Vr)(x y:Ex):Prop:=bH y=true/\cO y=true/\aL vs y=aL vs x/\jq y=jq x
theorem VM{vs:List Vr}{y:Ex}{p:Int×Bool}(h:iu y=some p)(H:bH y=true)(E:cO y=true)(he:(aL vs y).e=0):
 aL vs y=gv (if p.2=true then 2 else 1)/\(-9223372036854775808<=p.1/\p.1<=9223372036854775807):=by
 obtain⟨op,n,name,field,sub,line⟩:=y;simp only[cO,Ds,abQ]at E;by_cases I:op=1
 ·simp only[iu,iP,rH,I,aes,abX]at h;subst h;simp[aL,I,E.1]
 ·by_cases O:op=2
  ·simp only[iu,iP,rH,I,O,ad0,aes,abX,Int.reduceEq]at h;subst h;simp[aL,O,E.1]
  ·by_cases T:op=6
   ·simp only[iu,iP,rH,mO,T,ad0,aes,Int.reduceEq]at h;split at h
    ·rename_i z;split at h
     ·rename_i Z;cases h;obtain⟨AD,A',AE,AF,AG,AH⟩:=z;simp only[iP]at Z;subst Z T;simp only[cQ,cO,Bool.and_true,Ds,abQ]at E;have A5:0<=A':=by
       simp[bH,bG,eT]at H;omega
      have J:=wR (n:=A') ⟨by omega,by omega⟩;refine⟨?_,?_⟩
      ·simp[aL,Aw,cj,gv,gW,jE]
      ·simp only[rH,J];omega
     ·cases h
    ·cases h
   ·simp only[iu,iP,I,O,T,ad0]at h;cases h
theorem Bo:∀{l:List Ex}{ps:List (Int×Bool)},m9 l=some ps->ps.length=l.length/\∀(i:Nat) y p,l[i]?=some y->ps[i]?=some p->iu y=some p
 |[],ps,h=>by simp only[m9]at h;cases h;exact⟨rfl,λi y p h=>by simp at h⟩
 |x::r,ps,h=>by
  simp only[m9]at h;split at h
  ·rename_i p U;split at h
   ·rename_i l E;cases h;obtain⟨i1,i2⟩:=Bo E;refine⟨by simp[i1],λi y q A M=>?_⟩;cases i with
    |zero=>simp at A M;subst A M;exact U
    |succ i=>simp at A M;exact i2 i y q A M
   ·cases h
  ·cases h
theorem acQ(vs:List Vr){n:Int}{t:Bool}{line:Int}(h:t=true->n=0\/n=1)(hi: -9223372036854775808<=n/\n<=9223372036854775807)(hm:¬(t=false/\n= -9223372036854775808)):
 bH (kq n t line)=true/\cO (kq n t line)=true/\aL vs (kq n t line)=gv (if t=true then 2 else 1)/\jq (kq n t line)=line:=by
 unfold kq;cases t with
 |true=>
  have:=h rfl;refine⟨?_,?_,?_,?_⟩
  ·simp[bH,bG,eT];omega
  ·simp[cO,cQ];omega
  ·simp[aL]
  ·simp
 |false=>
  simp only[ahG,ad0];split
  ·rename_i A6;refine⟨?_,?_,?_,?_⟩
   ·simp[bH,bG,eT];omega
   ·simp[cO,cQ];omega
   ·simp[aL]
   ·simp
  ·rename_i A6;have A5:n≠ -9223372036854775808:=λe=>hm ⟨rfl,e⟩;have J:=wR (n:=n) ⟨by omega,by omega⟩;refine⟨?_,?_,?_,?_⟩
   ·simp[bH,bG,eT,J];omega
   ·simp[cO,cQ,J];omega
   ·simp[aL,Aw,cj,gv,gW,jE]
   ·simp
theorem ahr{vs:List Vr}{x:Ex}(H:bH x=true)(E:cO x=true)(he:(aL vs x).e=0):Kp vs x (jX x):=by
 have self:Kp vs x x:=⟨H,E,rfl,rfl⟩;unfold jX;split
 ·exact self
 ·rename_i A0;split
  ·exact self
  ·rename_i l A1;split
   ·exact self
   ·rename_i r A2;split
    ·exact self
    ·rename_i V;simp only[amr,Int.not_lt]at A0 V;obtain⟨op,n,name,field,sub,line⟩:=x;simp only[iP,mO,Jv]at A0 A1 A2⊢;obtain⟨AI,A7⟩:=Bo A1;have A3:=H;simp only[bH,Ds,abQ]at A3;obtain⟨_,D,_,_,A8⟩:=A3;have A4:=E;simp only[cO,Ds]at A4;have A9:∀y∈sub,cO y=true:=by
      have:∀l:List Ex,cQ l=true->∀y∈l,cO y=true:=by
       intro l;induction l with
       |nil=>intro _ y A;simp at A
       |cons z l ih=>
        intro h y A;simp only[cQ,Ds]at h;rcases abV.1 A with rfl|A
        ·exact h.1
        ·exact ih h.2 y A
      exact this sub A4.2
     have Y:aL vs (.mk op n name field sub line)=Aw vs op line sub:=by
      unfold aL;rw[abN (by omega),abN (by omega)]
     have AA:∀y∈sub,bH y=true:=(im sub).1 A8;have AB:∀y∈sub,(aL vs y).e=0:=by
      rw[Y]at he;intro y A;match sub,A,he,D with
      |[a],A,he,_=>
       simp at A;subst A;exact (kT he).1
      |[a,b],A,he,_=>
       simp at A;rcases A with rfl|rfl
       ·exact (kT he).1
       ·exact (kT he).2.1
      |a::b::c::d,A,he,D=>
       exfalso;simp only[eT]at D;split at D
       ·simp at D
       ·split at D<;>simp at D
     have AC:∀p∈l, -9223372036854775808<=p.1/\p.1<=9223372036854775807:=by
      intro p U;obtain⟨i,hi⟩:=anj U;have AJ:=(abM.1 hi).1;have A:∃y,sub[i]?=some y:=⟨sub[i]'(by omega),by simp[show i<sub.length by omega]⟩
      obtain⟨y,A⟩:=A;have hm:=abU A;exact (VM (A7 i y p A hi) (AA y hm) (A9 y hm) (AB y hm)).2
     obtain⟨q1,q2,q3⟩:=VL A2 AC (by simpa using V.1);have N:=acQ vs (n:=r.1) (t:=r.2.1) (line:=line) (by rw[q1];exact q2) q3 (λh=>V.2 h);refine⟨N.1,N.2.1,?_,by rw[N.2.2.2];rfl⟩;rw[N.2.2.1,q1,Y];rw[Y]at he;have key:Aw vs op line sub=gv (jE op):=by
      match sub,he,D with
      |[a],he,_=>exact (kT he).2.2.2.2
      |[a,b],he,_=>exact (kT he).2.2.2.2
      |[],he,D=>
       exfalso;simp only[eT,aeI]at D;split at D
       ·simp at D
       ·split at D
        ·simp at D
        ·omega
      |a::b::c::d,he,D=>
       exfalso;simp only[eT]at D;split at D
       ·simp at D
       ·split at D<;>simp at D
     rw[key];unfold jE;by_cases h:op=6\/(8<=op/\op<=12)<;>simp[h]
theorem sV{op n:Int}{name field:Tx}{sub:List Ex}{line:Int}(h:bH (.mk op n name field sub line)=true):sub.length=eT op/\bG sub=true:=by
 simp only[bH,Ds,abQ]at h;exact⟨h.2.1,h.2.2.2.2⟩
theorem Bp{vs:List Vr}{op n:Int}{name field:Tx}{sub:List Ex}{line:Int}(E:bH (.mk op n name field sub line)=true)(he:(aL vs (.mk op n name field sub line)).e=0):∀y∈sub,(aL vs y).e=0:=by
 obtain⟨D,_⟩:=sV E;intro y A;unfold aL at he;by_cases T:op=1\/op=2
 ·have J:sub=[]:=ab8 (by rw[D];unfold eT;rcases T with h|h<;>subst h<;>decide);subst J;simp at A
 ·rw[abN T]at he;by_cases U:op=3\/op=4\/op=5
  ·rw[abT U]at he;by_cases Z:op=4
   ·subst Z;obtain⟨z,rfl⟩:∃z,sub=[z]:=by
     match sub,D with
     |[z],_=>exact⟨z,rfl⟩
     |[],h=>simp[eT]at h
     |_::_::_,h=>simp[eT]at h
    simp at A;subst A;split at he
    ·simp[df]at he
    ·rw[abN (by decide)]at he;split at he
     ·simp[df]at he
     ·rw[abT rfl]at he;simp only[Ey]at he;by_cases H:(aL vs y).e=0
      ·exact H
      ·rw[abT H]at he;exact absurd he H
   ·have J:sub=[]:=ab8 (by rw[D];unfold eT;rw[abN (by omega),abN (by omega)]);subst J;simp at A
  ·rw[abN U]at he;match sub,A,he,D with
   |[a],A,he,_=>
    simp at A;subst A;exact (kT he).1
   |[a,b],A,he,_=>
    simp at A;rcases A with rfl|rfl
    ·exact (kT he).1
    ·exact (kT he).2.1
   |a::b::c::d,A,he,D=>
    exfalso;simp only[eT]at D;split at D
    ·simp at D
    ·split at D<;>simp at D
theorem wT{op n:Int}{name field:Tx}{sub:List Ex}{line:Int}(h:cO (.mk op n name field sub line)=true):(-9223372036854775808<=n/\n<=9223372036854775807)/\cQ sub=true:=by
 simp only[cO,Ds,abQ]at h;exact h
theorem lh:∀l:List Ex,cQ l=true↔∀x∈l,cO x=true
 |[]=>by simp[cQ]
 |x::r=>by simp[cQ,lh r]
section
variable {vs:List Vr}
theorem acR{op n:Int}{name field:Tx}{sub I:List Ex}{line:Int}(N:I.length=sub.length)(h:∀(i:Nat) x y,sub[i]?=some x->I[i]?=some y->aL vs y=aL vs x/\jq y=jq x):
 aL vs (.mk op n name field I line)=aL vs (.mk op n name field sub line):=by
 unfold aL;have A':∀t,Ey vs t I=Ey vs t sub:=by
  intro t;match sub,I,N,h with
  |[],[],_,_=>rfl
  |x::r,y::q,_,h=>
   obtain⟨M,O⟩:=h 0 x y rfl rfl;simp only[Ey,M,O]
 have A0:Aw vs op line I=Aw vs op line sub:=by
  match sub,I,N,h with
  |[],[],_,_=>rfl
  |[x],[y],_,h=>
   obtain⟨M,O⟩:=h 0 x y rfl rfl;simp only[Aw,M]
  |x::A1::r,y::A2::q,_,h=>
   obtain⟨M,_⟩:=h 0 x y rfl rfl;obtain⟨O,_⟩:=h 1 A1 A2 rfl rfl;simp only[Aw,M,O]
 rw[A0];simp only[A']
theorem Bq:∀x:Ex,bH x=true->cO x=true->(aL vs x).e=0->Kp vs x (cS x)
 | .mk op n name field sub line,E,N,he=>by
  obtain⟨f1,f2⟩:=sV E;obtain⟨A3,A4⟩:=wT N;have J:=Bp E he;have ih:∀y∈sub,Kp vs y (cS y):=λy A=>Bq y ((im sub).1 f2 y A) ((lh sub).1 A4 y A) (J y A);have D:(cf sub).length=sub.length:=by rw[iI];simp
  have A5:bH (.mk op n name field (cf sub) line)=true:=by
   have A6:bG (cf sub)=true:=by
    rw[im,iI];intro y A;obtain⟨z,H,rfl⟩:=ab4.1 A;exact (ih z H).1
   simp only[bH,Ds]at E⊢;refine⟨E.1,?_,E.2.2.1,E.2.2.2.1,A6⟩;rw[D];exact E.2.1
  have A7:cO (.mk op n name field (cf sub) line)=true:=by
   simp only[cO,Ds,abQ];refine⟨A3,?_⟩;rw[lh,iI];intro y A;obtain⟨z,H,rfl⟩:=ab4.1 A;exact (ih z H).2.1
  have V:aL vs (.mk op n name field (cf sub) line)=aL vs (.mk op n name field sub line):=by
   refine acR D λi x y Y A=>?_;rw[iI,adK,Y]at A;cases A;have:=ih x (abU Y);exact this.2.2
  have:=ahr (vs:=vs) A5 A7 (by rw[V];exact he);obtain⟨A8,A9,AA,AB⟩:=this;exact⟨A8,A9,AA.trans V,AB⟩
termination_by x=>SizeOf.sizeOf x
decreasing_by all_goals (simp_wf;have:=List.sizeOf_lt_of_mem A;omega)
end
theorem cu{a b:EL}:(eU a b).1=0↔a.1=0/\b.1=0:=by
 unfold eU;by_cases h:a.1=0
 ·rw[abN (λJ=>J h)];simp[h]
 ·rw[abT h];simp[h]
theorem OK{vs:List Vr}{x:Ex}{t:Int}:(dz vs x t).1=0↔(aL vs x).e=0/\(aL vs x).t=t:=by
 unfold dz;by_cases h:(aL vs x).e=0
 ·rw[abN (λJ=>J h)];by_cases D:(aL vs x).t=t
  ·rw[abN (λJ=>J D)];simp[h,D]
  ·rw[abT D];simp[D]
 ·rw[abT h];simp[h]
theorem OL{x:Ex}(h:dL x=true):cS x=x:=by
 obtain⟨op,n,name,field,sub,line⟩:=x;simp only[dL,iP,rH,Ew,Ju,mO,Ds]at h;obtain⟨E,D,I⟩:=h;have E:op=0:=ad7 E;have I:=ad7 I;have V:sub=[]:=ab8 (by omega);subst E V;simp[cS,cf,jX]
theorem aht{op n:Int}{name field:Tx}{sub:List Ex}{line:Int}(h:op<6):cS (.mk op n name field sub line)=.mk op n name field (cf sub) line:=by
 show jX _=_;unfold jX;rw[abT (.inl (by simpa using h))]
section
variable {vs:List Vr}
theorem sW{x:Ex}{t:Int}(H:bH x=true)(A:cO x=true)(h:(dz vs x t).1=0):bH (cS x)=true/\cO (cS x)=true/\(dz vs (cS x) t).1=0:=by
 obtain⟨E,D⟩:=OK.1 h;obtain⟨A',A0,A1,_⟩:=Bq x H A E;exact⟨A',A0,OK.2 (by rw[A1];exact⟨E,D⟩)⟩
theorem J1{t:Int}:∀l:List Ex,bG l=true->cQ l=true->(kV vs t l).1=0->bG (cf l)=true/\cQ (cf l)=true/\(kV vs t (cf l)).1=0
 |[],_,_,_=>⟨rfl,rfl,rfl⟩
 |x::r,H,A,h=>by
  simp only[bG,cQ,Ds]at H A;obtain⟨E,D⟩:=cu.1 h;obtain⟨M,a2,a3⟩:=sW H.1 A.1 E;obtain⟨N,O,T⟩:=J1 r H.2 A.2 D;simp only[cf,bG,cQ,Ds];exact⟨⟨M,N⟩,⟨a2,O⟩,cu.2 ⟨a3,T⟩⟩
theorem OM{k line:Int}:∀(U:List Tx)(xs:List Ex)(p:List Tx),xs.length=U.length->bG xs=true->cQ xs=true->(ib vs k line U xs p).1=0->bG (cf xs)=true/\cQ (cf xs)=true/\(ib vs k line U (cf xs) p).1=0
 |[],[],p,_,_,_,_=>⟨rfl,rfl,rfl⟩
 |f::U,x::xs,p,A2,H,A,h=>by
  simp only[bG,cQ,Ds]at H A;unfold ib at h;simp only[cf,bG,cQ,Ds];unfold ib;cases Y:l7 k f with
  |none=>rw[Y]at h;simp at h
  |some q=>
   rw[Y]at h;simp only at h⊢;split at h
   ·simp at h
   ·rename_i E;split at h
    ·simp at h
    ·rename_i D;obtain⟨I,A3⟩:=cu.1 h;obtain⟨M,a2,a3⟩:=sW H.1 A.1 I;obtain⟨N,O,T⟩:=OM U xs (p++[f]) (by simpa using A2) H.2 A.2 A3;rw[abN E,abN D];exact⟨⟨M,N⟩,⟨a2,O⟩,cu.2 ⟨a3,T⟩⟩
 |[],_::_,_,A,_,_,_=>by simp at A
 |_::_,[],_,A,_,_,_=>by simp at A
theorem J2:∀l:List (List Sm),(gd l).length=l.length
 |[]=>rfl
 |b::r=>by simp[gd,J2 r]
theorem Yu(l:List Ex):(cf l).length=l.length:=by rw[iI];simp
theorem Yv{x:Ex}(h:bH x=true):dL x=false:=by
 obtain⟨op,n,name,field,sub,line⟩:=x;simp only[bH,Ds,ahy,aeB]at h;have:op≠0:=by
  intro e;apply h.1;omega
 simp[dL,this]
theorem alC{to val:Ex}{line:Int}(I:bO to=3\/bO to=4)(f1:bH to=true)(f2:bH val=true)(A4:cO to=true)(A5:cO val=true)(h:(JD vs to val line).1=0):
 (bH (cS to)=true/\bH (cS val)=true)/\(cO (cS to)=true/\cO (cS val)=true)/\(JD vs (cS to) (cS val) line).1=0/\bO (cS to)=bO to:=by
 have Z:cS to=.mk (bO to) (fW to) (dS to) (eS to) (cf (cV to)) (jq to):=by
  obtain⟨op,n,name,field,sub,l⟩:=to;simp only[iP]at I;exact aht (by omega)
 have A6:dS (cS to)=dS to:=by rw[Z];rfl
 have A7:bO (cS to)=bO to:=by rw[Z];rfl
 unfold JD at h⊢;rw[A6];cases y:bz vs (dS to)with
 |none=>rw[y]at h;simp at h
 |some v=>
  rw[y]at h;simp only at h⊢;split at h
  ·simp at h
  ·rename_i V;rw[abN V];obtain⟨q1,q2⟩:=cu.1 h;obtain⟨q2,q3⟩:=cu.1 q2;obtain⟨M,a2,a3,_⟩:=Bq to f1 A4 q1;obtain⟨N,O,T,_⟩:=Bq val f2 A5 q2;refine⟨⟨M,N⟩,⟨a2,O⟩,?_,A7⟩;rw[a3,T];exact h
end
section
variable {vs:List Vr}
mutual
theorem ahu(I:Bool):∀s:Sm,jF s=true->iq s=true->(kW vs I s).1=0->jF (pQ s)=true/\iq (pQ s)=true/\(kW vs I (pQ s)).1=0
 | .mk op name to val J U fields H line,M,E,h=>by
  simp only[jF,Ds,abQ]at M;obtain⟨AJ,AK,A0,A2,AB,q,AL,AM,A4⟩:=M;simp only[iq,Ds]at E;obtain⟨AI,A5,AC,AN,A6⟩:=E
  --Ab Ac to be shown,from Ad parts
  have fin:(if op=1 then decide (bO (cS to)=3\/bO (cS to)=4)&&bH (cS to)else dL (cS to))=true->
   (if op=1\/op=3\/op=5\/op=6 then !dL (cS val)&&bH (cS val)else dL (cS val))=true->bG (cf J)=true->cH (gd H)=true->
   cO (cS to)=true->cO (cS val)=true->cQ (cf J)=true->eK (gd H)=true->
   (kW vs I (.mk op name (cS to) (cS val) (cf J) U fields (gd H) line)).1=0->
   jF (pQ (.mk op name to val J U fields H line))=true/\iq (pQ (.mk op name to val J U fields H line))=true/\(kW vs I (pQ (.mk op name to val J U fields H line))).1=0:=by
   intro y a2 a3 a4 a5 AO AP AQ a9;simp only[pQ,jF,iq,Ds,abQ,Yu,J2];exact⟨⟨AJ,AK,y,a2,a3,q,AL,AM,a4⟩,⟨a5,AO,AP,AN,AQ⟩,a9⟩
  have AR:¬op=1->(if op=1 then decide (bO (cS to)=3\/bO (cS to)=4)&&bH (cS to)else dL (cS to))=true/\cO (cS to)=true:=by
   intro D;rw[abN D]at A0⊢;rw[OL A0];exact⟨A0,AI⟩
  have AD:¬(op=1\/op=3\/op=5\/op=6)->(if op=1\/op=3\/op=5\/op=6 then !dL (cS val)&&bH (cS val)else dL (cS val))=true/\cO (cS val)=true:=by
   intro D;rw[abN D]at A2⊢;rw[OL A2];exact⟨A2,A5⟩
  have vv:(op=1\/op=3\/op=5\/op=6)->bH (cS val)=true->(if op=1\/op=3\/op=5\/op=6 then !dL (cS val)&&bH (cS val)else dL (cS val))=true:=by
   intro D N;rw[abT D,Yv N,N];rfl
  have A9:(op=1\/op=3\/op=5\/op=6)->bH val=true:=by
   intro D;rw[abT D]at A2;simp only[Ds]at A2;exact A2.2
  unfold kW at h;by_cases D:op=1
  ·subst D;rw[abT rfl]at h;have A:dq 1 J.length U.length fields.length H.length=true:=q;simp[dq]at A;obtain⟨rfl,_,_,rfl⟩:=A;rw[abT rfl]at A0;simp only[Ds,abQ]at A0;obtain⟨⟨AS,AT⟩,⟨AU,AV⟩,AW,AX⟩:=alC A0.1 A0.2 (A9 (.inl rfl)) AI A5 h;refine fin (by rw[abT rfl,AX,AS];simp[A0.1]) (vv (.inl rfl) AT) rfl rfl AU AV rfl rfl ?_;unfold kW;rw[abT rfl];exact AW
  ·rw[abN D]at h;obtain⟨t1,t2⟩:=AR D;by_cases N:op=2
   ·subst N;rw[abT rfl]at h;have A:dq 2 J.length U.length fields.length H.length=true:=q;simp[dq]at A;obtain⟨v1,v2⟩:=AD (by decide);obtain⟨V,Y,O,T,AE⟩:=EI I J H AB AC A4 A6 (by omega) h;refine fin t1 v1 V O t2 v2 Y T ?_;unfold kW;rw[abN D,abT rfl];exact AE
   ·rw[abN N]at h;by_cases A':op=3
    ·subst A';rw[abT rfl]at h;have A:dq 3 J.length U.length fields.length H.length=true:=q;simp[dq]at A;obtain⟨rfl,_⟩:=A;obtain⟨q1,q2⟩:=cu.1 h;obtain⟨v1,v2,v3⟩:=sW (A9 (.inr (.inl rfl))) A5 q1;obtain⟨V,Y,O,T,AE⟩:=EI I [] H rfl rfl A4 A6 (by simp) q2;refine fin t1 (vv (.inr (.inl rfl)) v1) rfl O t2 v2 rfl T ?_;unfold kW;rw[abN D,abN N,abT rfl];exact cu.2 ⟨v3,AE⟩
    ·rw[abN A']at h;by_cases A3:op=4
     ·subst A3;rw[abT rfl]at h;have A:dq 4 J.length U.length fields.length H.length=true:=q;simp[dq]at A;obtain⟨_,_,_,A7⟩:=A;obtain⟨v1,v2⟩:=AD (by decide);cases A1:bz vs name with
      |none=>rw[A1]at h;simp at h
      |some v=>
       rw[A1]at h;simp only at h;split at h
       ·simp at h
       ·rename_i g1;split at h
        ·simp at h
        ·rename_i g2;obtain⟨q1,q2⟩:=cu.1 h;obtain⟨V,Y,AF⟩:=J1 J AB AC q1;obtain⟨O,T,Z⟩:=J3 H A4 A6 A7 q2;refine fin t1 v1 V O t2 v2 Y T ?_;unfold kW;rw[abN D,abN N,abN A',abT rfl,A1];simp only
         rw[abN g1,abN g2];exact cu.2 ⟨AF,Z⟩
     ·rw[abN A3]at h;by_cases A8:op=5
      ·subst A8;rw[abT rfl]at h;have A:dq 5 J.length U.length fields.length H.length=true:=q;simp[dq]at A;obtain⟨rfl,_,_,A7⟩:=A;obtain⟨q1,q2⟩:=cu.1 h;obtain⟨v1,v2,v3⟩:=sW (A9 (.inr (.inr (.inl rfl)))) A5 q1;obtain⟨O,T,Z⟩:=J3 H A4 A6 A7 q2;refine fin t1 (vv (.inr (.inr (.inl rfl))) v1) rfl O t2 v2 rfl T ?_;unfold kW;rw[abN D,abN N,abN A',abN A3,abT rfl];exact cu.2 ⟨v3,Z⟩
      ·rw[abN A8]at h;by_cases AA:op=6
       ·subst AA;rw[abT rfl]at h;have A:dq 6 J.length U.length fields.length H.length=true:=q;simp[dq]at A;obtain⟨rfl,_,_,A7⟩:=A;obtain⟨q1,q2⟩:=cu.1 h;obtain⟨v1,v2,v3⟩:=sW (A9 (.inr (.inr (.inr rfl)))) A5 q2;obtain⟨O,T,Z⟩:=J3 H A4 A6 A7 q1;refine fin t1 (vv (.inr (.inr (.inr rfl))) v1) rfl O t2 v2 rfl T ?_;unfold kW;rw[abN D,abN N,abN A',abN A3,abN A8,abT rfl];exact cu.2 ⟨Z,v3⟩
       ·rw[abN AA]at h;obtain⟨v1,v2⟩:=AD (by omega);by_cases AG:op=7
        ·subst AG;rw[abT rfl]at h;have A:dq 7 J.length U.length fields.length H.length=true:=q;simp[dq]at A;obtain⟨rfl,_,_,rfl⟩:=A;refine fin t1 v1 rfl rfl t2 v2 rfl rfl ?_;unfold kW;rw[abN D,abN N,abN A',abN A3,abN A8,abN AA,abT rfl];exact h
        ·rw[abN AG]at h;by_cases AY:op=9
         ·subst AY;rw[abT rfl]at h;have A:dq 9 J.length U.length fields.length H.length=true:=q;simp[dq]at A;obtain⟨AZ,_,rfl⟩:=A;cases A1:bz vs name with
          |none=>rw[A1]at h;simp at h
          |some v=>
           rw[A1]at h;simp only at h;split at h
           ·simp at h
           ·rename_i g1;obtain⟨V,Y,AF⟩:=OM fields J [] AZ AB AC h;refine fin t1 v1 V rfl t2 v2 Y rfl ?_;unfold kW;rw[abN D,abN N,abN A',abN A3,abN A8,abN AA,abN AG,abT rfl,A1];simp only
            rw[abN g1];exact AF
         ·have A_:op=8:=by omega
          subst A_;have A:dq 8 J.length U.length fields.length H.length=true:=q;simp[dq]at A;obtain⟨rfl,_,_,rfl⟩:=A;refine fin t1 v1 rfl rfl t2 v2 rfl rfl ?_;unfold kW;simp
theorem wV(I:Bool):∀l:List Sm,eh l=true->gm l=true->(ep vs I l).1=0->eh (iW l)=true/\gm (iW l)=true/\(ep vs I (iW l)).1=0
 |[],_,_,_=>⟨rfl,rfl,rfl⟩
 |x::r,M,E,h=>by
  simp only[eh,gm,Ds]at M E;obtain⟨D,N⟩:=cu.1 h;obtain⟨y,a2,a3⟩:=ahu I x M.1 E.1 D;obtain⟨O,T,Z⟩:=wV I r M.2 E.2 N;simp only[iW,eh,gm,Ds];exact⟨⟨y,O⟩,⟨a2,T⟩,cu.2 ⟨a3,Z⟩⟩
theorem EI(I:Bool):∀(cs:List Ex)(l:List (List Sm)),bG cs=true->cQ cs=true->cH l=true->eK l=true->cs.length<=l.length->(eN vs I cs l).1=0->
 bG (cf cs)=true/\cQ (cf cs)=true/\cH (gd l)=true/\eK (gd l)=true/\(eN vs I (cf cs) (gd l)).1=0
 |[],[],_,_,_,_,_,_=>⟨rfl,rfl,rfl,rfl,rfl⟩
 |[],b::r,V,Y,M,E,_,h=>by
  simp only[cH,eK,Ds]at M E;obtain⟨D,N⟩:=cu.1 h;obtain⟨y,a2,a3⟩:=wV I b M.1 E.1 D;obtain⟨_,_,O,T,Z⟩:=EI I [] r rfl rfl M.2 E.2 (by simp) N;simp only[cf,gd,bG,cQ,cH,eK,Ds];exact⟨trivial,trivial,⟨y,O⟩,⟨a2,T⟩,cu.2 ⟨a3,Z⟩⟩
 |c::cs,b::r,V,Y,M,E,AH,h=>by
  simp only[cH,eK,Ds]at M E;simp only[bG,cQ,Ds]at V Y;obtain⟨Aa,A'⟩:=cu.1 h;obtain⟨D,N⟩:=cu.1 A';obtain⟨q1,q2,q3⟩:=sW V.1 Y.1 Aa;obtain⟨y,a2,a3⟩:=wV I b M.1 E.1 D;obtain⟨d1,d2,O,T,Z⟩:=EI I cs r V.2 Y.2 M.2 E.2 (by simpa using AH) N;simp only[cf,gd,bG,cQ,cH,eK,Ds];exact⟨⟨q1,d1⟩,⟨q2,d2⟩,⟨y,O⟩,⟨a2,T⟩,cu.2 ⟨q3,cu.2 ⟨a3,Z⟩⟩⟩
 |_::_,[],_,_,_,_,AH,_=>by simp at AH
theorem J3:∀(l:List (List Sm)),cH l=true->eK l=true->l.length=1->(rJ vs l).1=0->cH (gd l)=true/\eK (gd l)=true/\(rJ vs (gd l)).1=0
 |[b],M,E,_,h=>by
  simp only[cH,eK,Bool.and_true]at M E;obtain⟨y,a2,a3⟩:=wV true b M E h;simp only[gd,cH,eK,Bool.and_true];exact⟨y,a2,a3⟩
 |[],_,_,E,_=>by simp at E
 |_::_::_,_,_,E,_=>by simp at E
end
end
inductive MC(vs:List Vr)(lp:Bool):Sm->Prop
 |asg {to val:Ex} {line:Int} {v:Vr} (A:bO to=3\/bO to=4) (N:bz vs (dS to)=some v) (V:¬v.sec=1) (ft:bH to=true) (AF:(aL vs to).e=0) (A2:bH val=true) (AG:(aL vs val).e=0) (h:(aL vs val).t=(aL vs to).t):MC vs lp (.mk 1 [] to val [] [] [] [] line)
 |cnd {to val:Ex} {O:List Ex} {T:List (List Sm)} {line:Int} (A:dL to=true) (D:dL val=true) (A5:bG O=true) (M:1<=O.length) (H:O.length<=T.length) (E:T.length<=O.length+1) (A0:cH T=true) (h:(eN vs lp O T).1=0):MC vs lp (.mk 2 [] to val O [] [] T line)
 |cas {to val:Ex} {A':List (List Int)} {T:List (List Sm)} {line:Int} (A:dL to=true) (A2:bH val=true) (A4:(dz vs val 1).1=0) (H:A'.length<=T.length) (E:T.length<=A'.length+1) (AH:A'.all Az=true) (A0:cH T=true) (h:(eN vs lp [] T).1=0):MC vs lp (.mk 3 [] to val [] A' [] T line)
 |cnt {name:Tx} {to val x y z:Ex} {b:List Sm} {line:Int} {v:Vr} (A6:dn name=true) (A:dL to=true) (D:dL val=true) (N:bz vs name=some v) (V:¬v.sec=1) (Z:v.arr=false) (A1:v.ty=1) (AI:bH x=true) (AJ:(dz vs x 1).1=0) (AK:bH y=true) (AL:(dz vs y 1).1=0) (AM:bH z=true) (AN:(dz vs z 1).1=0) (A0:eh b=true) (h:(ep vs true b).1=0):MC vs lp (.mk 4 name to val [x,y,z] [] [] [b] line)
 |whl {to val:Ex} {b:List Sm} {line:Int} (A:dL to=true) (A2:bH val=true) (A4:(dz vs val 2).1=0) (A0:eh b=true) (h:(ep vs true b).1=0):MC vs lp (.mk 5 [] to val [] [] [] [b] line)
 |rep {to val:Ex} {b:List Sm} {line:Int} (A:dL to=true) (A2:bH val=true) (A4:(dz vs val 2).1=0) (A0:eh b=true) (h:(ep vs true b).1=0):MC vs lp (.mk 6 [] to val [] [] [] [b] line)
 |ext {to val:Ex} {line:Int} (A:dL to=true) (D:dL val=true) (h:lp=true):MC vs lp (.mk 7 [] to val [] [] [] [] line)
 |ret {to val:Ex} {line:Int} (A:dL to=true) (D:dL val=true):MC vs lp (.mk 8 [] to val [] [] [] [] line)
 |cal {name:Tx} {to val:Ex} {O:List Ex} {fields:List Tx} {line:Int} {v:Vr} (A6:dn name=true) (A:dL to=true) (D:dL val=true) (N:bz vs name=some v) (A1:2<v.ty) (A5:bG O=true) (AO:O.length=fields.length) (A3:fields.all dn=true) (h:(ib vs v.ty line fields O []).1=0):MC vs lp (.mk 9 name to val O [] fields [] line)
theorem Yw{α:Type}{l:List α}(h:l.length=0):l=[]:=ab8 h
theorem FQ{α:Type}{l:List α}(h:l.length=1):∃a,l=[a]:=by
 match l,h with
 |[a],_=>exact⟨a,rfl⟩
theorem asv{α:Type}{l:List α}(h:l.length=3):∃a b c,l=[a,b,c]:=by
 match l,h with
 |[a,b,c],_=>exact⟨a,b,c,rfl⟩
theorem Sp{vs:List Vr}{b:List Sm}(h:(rJ vs [b]).1=0):(ep vs true b).1=0:=by simpa [rJ]using h
theorem FR{vs:List Vr}{lp:Bool}{x:Sm}(A3:jF x=true)(h:(kW vs lp x).1=0):MC vs lp x:=by
 obtain⟨op,name,to,val,O,A',fields,T,line⟩:=x;simp only[jF,Ds]at A3;obtain⟨A7,I,A,D,q,J,A8,A9,Y⟩:=A3;simp only[abQ]at A7;unfold kW at h;have AA:op=1\/op=2\/op=3\/op=4\/op=5\/op=6\/op=7\/op=8\/op=9:=by omega
 rcases AA with rfl|rfl|rfl|rfl|rfl|rfl|rfl|rfl|rfl
 ·simp[dq]at I A D J h;obtain⟨rfl,rfl,rfl,rfl⟩:=J;subst I;unfold JD at h;cases N:bz vs (dS to)with
  |none=>rw[N]at h;simp at h
  |some v=>
   rw[N]at h;simp only at h;by_cases V:v.sec=1
   ·simp[V]at h
   ·rw[abN V]at h;obtain⟨M,H⟩:=cu.1 h;obtain⟨H,E⟩:=cu.1 H;refine .asg A.1 N V A.2 M D.2 H ?_;apply Classical.byContradiction;intro hh;rw[abT hh]at E;simp at E
 ·simp[dq]at I A D J h;obtain⟨M,H,E,U,AB⟩:=J;subst I H E;exact .cnd A D q (by omega) (by omega) (by omega) Y h
 ·simp[dq]at I A D J h;obtain⟨M,E,U,AB⟩:=J;subst I M E;obtain⟨g1,g2⟩:=cu.1 h;exact .cas A D.2 g1 (by omega) (by omega) A9 Y g2
 ·simp[dq]at I A D J h;obtain⟨M,H,E,U⟩:=J;obtain⟨x,y,z,rfl⟩:=asv M;obtain⟨b,rfl⟩:=FQ U;subst H E;cases N:bz vs name with
  |none=>rw[N]at h;simp at h
  |some v=>
   rw[N]at h;simp only at h;by_cases V:v.sec=1
   ·simp[V]at h
   ·rw[abN V]at h;by_cases Z:v.arr=true\/¬v.ty=1
    ·rw[abT Z]at h;simp at h
    ·rw[abN Z]at h;simp only[amr,Bool.not_eq_true,amx]at Z;obtain⟨g1,g2⟩:=cu.1 h;simp only[kV]at g1;obtain⟨AC,g1⟩:=cu.1 g1;obtain⟨AD,g1⟩:=cu.1 g1;obtain⟨AE,g1⟩:=cu.1 g1;simp only[bG,Ds]at q;simp only[cH,Ds]at Y;exact .cnt I A D N V Z.1 Z.2 q.1 AC q.2.1 AD q.2.2.1 AE Y.1 (Sp g2)
 ·simp[dq]at I A D J h;obtain⟨M,H,E,U⟩:=J;obtain⟨b,rfl⟩:=FQ U;subst I M H E;obtain⟨g1,g2⟩:=cu.1 h;simp only[cH,Ds]at Y;exact .whl A D.2 g1 Y.1 (Sp g2)
 ·simp[dq]at I A D J h;obtain⟨M,H,E,U⟩:=J;obtain⟨b,rfl⟩:=FQ U;subst I M H E;obtain⟨g1,g2⟩:=cu.1 h;simp only[cH,Ds]at Y;exact .rep A D.2 g2 Y.1 (Sp g1)
 ·simp[dq]at I A D J h;obtain⟨M,H,E,U⟩:=J;subst I M H E U;refine .ext A D ?_;cases lp with
  |true=>rfl
  |false=>simp at h
 ·simp[dq]at I A D J h;obtain⟨M,H,E,U⟩:=J;subst I M H E U;exact .ret A D
 ·simp[dq]at I A D J h;obtain⟨M,H,E⟩:=J;subst H E;cases N:bz vs name with
  |none=>rw[N]at h;simp at h
  |some v=>
   rw[N]at h;simp only at h;by_cases A1:v.ty<=2
   ·rw[abT A1]at h;simp at h
   ·rw[abN A1]at h;exact .cal I A D N (by omega) q M (ab2.2 (by simpa using A8)) h
end Go.Am
end
section
namespace Go.Am
def Bd(succ:Nat->List Nat):Nat->Nat->Prop
 |0,i=>succ i=[]
 |h+1,i=>∀j∈succ i,Bd succ h j
theorem Bd.succ{succ:Nat->List Nat}:∀{h i:Nat},Bd succ h i->Bd succ (h+1) i
 |0,i,A=>λj D=>by rw[show succ i=[]from A]at D;simp at D
 |h+1,i,A=>λj D=>(A j D).succ
theorem Bd.le{succ:Nat->List Nat}{h E i:Nat}(A:Bd succ h i)(H:h<=E):Bd succ E i:=by
 induction H with
 |refl=>exact A
 |step _ ih=>exact ih.succ
def wW(x:aV):Prop:=x.op=9\/x.op=10
instance (x:aV):Decidable (wW x):=inferInstanceAs (Decidable (_\/_))
structure Good(I:Int->Nat)(cells:Int)(l:List aV)(r:Nat->Nat)(st:Nat->List Bool):Prop where
 len:1<=l.length/\l.length<=4096
 last:∀x,l[l.length-1]?=some x->x.op=15
 form:∀(i:Nat) x,l[i]?=some x->ZT I cells ((l.length:Int)-1) i x=true
 st0:st 0=[]
 mv:∀(i:Nat) x,l[i]?=some x->rF x (st i)=some (st (i+1))
 led:∀(i:Nat) x,l[i]?=some x->wW x->st x.a.toNat=[]
 aBF:∀(i:Nat) x,l[i]?=some x->x.op≠11->∀j∈ajv l i,r j<r i
end Go.Am
end
section
namespace Go.Am
open Go
theorem J4{s:Tx}{v:Vr}:∀{l:List Vr}{n:Int},bz l s=some v->(EH l s n).2=v
 |x::r,n,h=>by
  unfold bz at h;unfold EH;split at h
  ·rename_i e;cases h;rw[abT e]
  ·rename_i e;rw[abN e];exact J4 h
theorem ou{vs:List Vr}{s:Tx}{v:Vr}(h:bz vs s=some v):(dP vs s).2=v:=J4 h
theorem G4{s:Tx}{v:Vr}:∀{l:List Vr}{n:Int},(∀v∈l,0<=cq v)->bz l s=some v->n<=(EH l s n).1/\(EH l s n).1+cq v<=n+eF l
 |x::r,n,H,h=>by
  have U:=H x (by simp);have V:0<=eF r:=by
   have:∀l:List Vr,(∀v∈l,0<=cq v)->0<=eF l:=by
    intro l;induction l with
    |nil=>intro _;simp[eF]
    |cons y l ih=>intro h;have:=ih (λv D=>h v (by simp[D]));have:=h y (by simp);simp only[eF];omega
   exact this r (λv D=>H v (by simp[D]))
  unfold bz at h;unfold EH;simp only[eF];split at h
  ·rename_i e;cases h;rw[abT e];simp only;omega
  ·rename_i e;rw[abN e];have:=G4 (n:=n+cq x) (λv D=>H v (by simp[D])) h;omega
theorem uZ{vs:List Vr}{s:Tx}{v:Vr}(H:∀v∈vs,0<=cq v)(h:bz vs s=some v):0<=(dP vs s).1/\(dP vs s).1+cq v<=eF vs:=by
 have:=G4 (n:=0) H h;simp only[Int.zero_add]at this;exact this
theorem J5{f:Tx}{p:Pn}:∀{l:List Pn}{i:Nat},yf l f=some p->f≠[]/\p∈l/\∃j,CY l f i=some (j,p)/\i<=j/\j<i+l.length
 |q::r,i,h=>by
  unfold yf at h;unfold CY;split at h
  ·rename_i e;cases h;exact⟨e.2,by simp,i,by rw[abT e.1],by omega,by simp⟩
  ·rename_i e;obtain⟨E,A,j,I,Y,M⟩:=J5 (i:=i+1) h;exact⟨E,by simp[A],j,by rw[abN (λe'=>e ⟨e',E⟩)];exact I,by omega,by simp;omega⟩
theorem ON{vs:List Vr}{s f:Tx}{v:Vr}{p:Pn}(D:bz vs s=some v)(N:2<v.ty)(O:l7 v.ty f=some p):
 (lK vs s f).2=p/\p∈bC v.ty/\∃j:Nat,(lK vs s f).1=(dP vs s).1+j/\j<(bC v.ty).length:=by
 obtain⟨E,A,j,I,_,M⟩:=J5 (i:=0) O;have T:=ou D;unfold lK;rw[D,T,abT ⟨rfl,N,E⟩,I];exact⟨rfl,A,j,rfl,by omega⟩
def ma:List aV->List Bool->Option (List Bool)
 |[],S=>some S
 |x::r,S=>(rF x S).bind (ma r)
theorem yn:∀(a b:List aV)(S:List Bool),ma (a++b) S=(ma a S).bind (ma b)
 |[],b,S=>rfl
 |x::a,b,S=>by
  simp only[List.cons_append,ma];cases rF x S with
  |none=>rfl
  |some J=>exact yn a b J
theorem VN{f:aV->aV}(h:∀x,f x=x\/((x.op=9\/x.op=10)/\(f x).op=x.op))(x:aV)(S:List Bool):rF (f x) S=rF x S:=by
 rcases h x with e|⟨E,A⟩
 ·rw[e]
 ·rcases E with e|e
  ·have A:(f x).op=9:=by rw[A,e]
   simp[rF,A,e]
  ·have A:(f x).op=10:=by rw[A,e]
   simp[rF,A,e]
theorem J6{f:aV->aV}(h:∀x,f x=x\/((x.op=9\/x.op=10)/\(f x).op=x.op)):∀(l:List aV)(S:List Bool),ma (l.map f) S=ma l S
 |[],S=>rfl
 |x::r,S=>by
  simp only[aeC,ma,VN h];cases rF x S with
  |none=>rfl
  |some J=>exact J6 h r J
theorem VO(k:Nat)(x:aV):px k x=x\/((x.op=9\/x.op=10)/\(px k x).op=x.op):=by
 unfold px;split
 ·rename_i h;exact .inr ⟨h.1,rfl⟩
 ·exact .inl rfl
theorem OO(k:Nat)(l:List aV)(S:List Bool):ma (pR k l) S=ma l S:=J6 (VO k) l S
inductive XC(vs:List Vr):Ex->Prop
 |num {n:Int} {line:Int} (h:0<=n):XC vs (.mk 1 n [] [] [] line)
 |ru {n:Int} {line:Int} (h:n=0\/n=1):XC vs (.mk 2 n [] [] [] line)
 |var {name:Tx} {line:Int} {v:Vr} (D:bz vs name=some v) (A4:v.arr=false) (J:v.ty<=2):XC vs (.mk 3 0 name [] [] line)
 |idx {name:Tx} {line:Int} {v:Vr} {y:Ex} (D:bz vs name=some v) (A4:v.arr=true) (J:v.ty<=2) (Z:bH y=true) (A':(aL vs y).e=0) (ty:(aL vs y).t=1):XC vs (.mk 4 0 name [] [y] line)
 |VP {name field:Tx} {line:Int} {v:Vr} {q:Pn} (D:bz vs name=some v) (J:2<v.ty) (T:l7 v.ty field=some q) (U:dn field=true):XC vs (.mk 5 0 name field [] line)
 |one {op line:Int} {y:Ex} (A5:op=6\/op=7) (Z:bH y=true) (A':(aL vs y).e=0) (ty:(aL vs y).t=gW op (aL vs y).t):XC vs (.mk op 0 [] [] [y] line)
 |two {op line:Int} {y z:Ex} (A5:8<=op/\op<=21) (Z:bH y=true) (A':(aL vs y).e=0) (AD:bH z=true) (AE:(aL vs z).e=0) (ty:(aL vs y).t=gW op (aL vs y).t) (AF:(aL vs z).t=gW op (aL vs y).t):XC vs (.mk op 0 [] [] [y,z] line)
theorem Bt{vs:List Vr}{x:Ex}(U:bH x=true)(he:(aL vs x).e=0):XC vs x:=by
 obtain⟨op,n,name,field,sub,line⟩:=x;simp only[bH,Ds,abQ,ahy,aeB]at U;obtain⟨A0,I,E,A,H⟩:=U;simp only[amr,not_and]at A0;obtain⟨A6,A7,A8,AG,AH⟩:=A0;unfold aL at he;by_cases V:op=1\/op=2
 ·rw[abN (by omega)]at E A;simp only[abQ]at E A;subst E A;have M:sub=[]:=Yw (by rw[I];unfold eT;rcases V with h|h<;>subst h<;>decide);subst M;rcases V with h|h
  ·subst h;exact .num (by have:=A6 rfl;omega)
  ·subst h;have:=A7 rfl;exact .ru (by omega)
 ·rw[abN V]at he;have A9:n=0:=by
   have:=A8 (by omega);simpa using this
  subst A9;by_cases Y:op=3\/op=4\/op=5
  ·rw[abT Y]at he;rw[abT Y]at E;cases D:bz vs name with
   |none=>rw[D]at he;simp[df]at he
   |some v=>
    rw[D]at he;simp only at he;by_cases A1:op=5
    ·subst A1;rw[abT rfl]at he A;by_cases J:v.ty<=2
     ·rw[abT J]at he;simp[df]at he
     ·rw[abN J]at he;have M:sub=[]:=Yw (by rw[I];decide);subst M;cases T:l7 v.ty field with
      |none=>rw[T]at he;simp[df]at he
      |some q=>exact .VP D (by omega) T A
    ·rw[abN A1]at he A;simp only[abQ]at A;subst A;by_cases N:v.arr≠decide (op=4)\/2<v.ty
     ·rw[abT N]at he;simp[df]at he
     ·rw[abN N]at he;simp only[amr,ne_eq,amx]at N;by_cases AA:op=4
      ·subst AA;rw[abT rfl]at he;obtain⟨y,rfl⟩:=FQ (l:=sub) (by rw[I];decide);simp only[bG,Ds]at H;simp only[Ey]at he;by_cases O:(aL vs y).e=0
       ·rw[abN (by simpa using O)]at he;by_cases A2:(aL vs y).t=1
        ·exact .idx D (by simpa using N.1) (by omega) H.1 O A2
        ·rw[abT A2]at he;simp[df]at he
       ·rw[abT O]at he;exact absurd he O
      ·have AB:op=3:=by omega
       subst AB;have M:sub=[]:=Yw (by rw[I];decide);subst M;exact .var D (by simpa using N.1) (by omega)
  ·rw[abN Y]at he E;rw[abN (by omega)]at A;simp only[abQ]at E A;subst E A;by_cases A3:op=6\/op=7
   ·obtain⟨y,rfl⟩:=FQ (l:=sub) (by rw[I];unfold eT;rcases A3 with h|h<;>subst h<;>decide);simp only[bG,Ds]at H;simp only[Aw]at he;obtain⟨g1,g2,g3,g4,g5⟩:=kT he;exact .one A3 H.1 g1 g3
   ·have AC:sub.length=2:=by rw[I];unfold eT;rw[abN (by omega),abT (by omega)]
    match sub,AC with
    |[y,z],_=>
     simp only[bG,Ds]at H;simp only[Aw]at he;obtain⟨g1,g2,g3,g4,g5⟩:=kT he;exact .two (by omega) H.1 g1 H.2.1 g2 g3 g4
def laI(n:Nat)(x:aV):aV:=if x.op=9\/x.op=10 then {x with a:=if 0<=x.a then x.a+n else 0} else x
def B4(n:Nat)(l:List aV):List aV:=l.map (laI n)
@[simp] theorem auH(n:Nat)(l:List aV):(B4 n l).length=l.length:=by simp[B4]
@[simp] theorem auI(n:Nat):B4 n []=[]:=rfl
def Flat(l:List aV):Prop:=∀x∈l,x.op≠9/\x.op≠10
theorem Flat.B4{l:List aV}(h:Flat l)(n:Nat):Am.B4 n l=l:=by
 unfold Am.B4;conv=>rhs;rw[<-List.map_id l]
 refine List.map_congr_left λx D=>?_;have:=h x D;simp[laI,this.1,this.2]
theorem Flat.app{a b:List aV}(H:Flat a)(I:Flat b):Flat (a++b):=λx D=>(ab3.1 D).elim (H x) (I x)
theorem Flat.nil:Flat []:=λ_ h=>by simp at h
theorem Flat.one{x:aV}(h:x.op≠9/\x.op≠10):Flat [x]:=λy A=>by simp at A;subst A;exact h
theorem Flat.cons{x:aV}{l:List aV}(h:x.op≠9/\x.op≠10)(J:Flat l):Flat (x::l):=λy A=>by
 rcases abV.1 A with rfl|A
 ·exact h
 ·exact J y A
def psL(k:Int):Nat->List aV->List Int
 |_,[]=>[]
 |n,x::r=>if x.op=9/\x.a=k then (n:Int)::psL k (n+1) r else psL k (n+1) r
def setAt(l:List aV)(i:Int)(v:Int):List aV:=l.modify i.toNat λx=>{x with a:=v}
def VQ(l:List aV)(ps:List Int)(v:Int):List aV:=ps.foldl (λl i=>setAt l i v) l
@[simp] theorem anp(l:List aV)(i v:Int):(setAt l i v).length=l.length:=by simp[setAt]
@[simp] theorem Sq:∀(ps:List Int)(l:List aV)(v:Int),(VQ l ps v).length=l.length
 |[],l,v=>rfl
 |i::r,l,v=>by
  show (VQ (setAt l i v) r v).length=_;rw[Sq r];simp
def chA(E:Int):Nat->List (List aV)->List (List aV)->List aV
 |_,_,[]=>[]
 |n,[],b::r=>if r=[]then B4 n b else B4 n b++ins 9 E 0 0 0::chA E (n+b.length+1) [] r
 |n,t::M,b::r=>
  if r=[]then t++ins 10 (n+t.length+1+b.length) 0 0 0::B4 (n+t.length+1) b
  else t++ins 10 (n+t.length+2+b.length) 0 0 0::(B4 (n+t.length+1) b++ins 9 E 0 0 0::chA E (n+t.length+2+b.length) M r)
def chP(k:Int):Nat->List (List aV)->List (List aV)->List Int
 |_,_,[]=>[]
 |n,[],b::r=>psL k n b++(if r=[]then []else chP k (n+b.length+1) [] r)
 |n,t::A,b::r=>psL k (n+t.length+1) b++(if r=[]then []else chP k (n+t.length+2+b.length) A r)
def Rm(u:Bool)(a A:EL):Prop:=a.1=0->A.1=if u=true then 9 else 0
theorem Rm.or{I T:Bool}{a A b U:EL}(D:Rm I a A)(J:Rm T b U):Rm (I||T) (eU a b) (eU A U):=by
 intro h;unfold eU at h⊢;by_cases H:a.1=0
 ·rw[abN (λh=>h H)]at h;have D:=D H;have J:=J h;cases I with
  |true=>simp at D;rw[abT (by rw[D];decide),D];simp
  |false=>simp at D;rw[abN (λh=>h D)];simpa using J
 ·rw[abT H]at h;exact absurd h H
theorem Rm.zero:Rm false (0,0) (0,0):=λ_=>rfl
theorem Rm.same{u:Bool}{a A:EL}(hu:u=false)(h:A=a):Rm u a A:=by
 subst hu h;intro h;simpa using h
section
variable {vs M:List Vr} {E:Tx} (N:E≠[]) (O:∀s,bz M s=if s=E then none else bz vs s)
include N O
end
section
variable {vs M:List Vr} {E:Tx} (N:E≠[]) (O:∀s,bz M s=if s=E then none else bz vs s)
include N O
end
theorem u0{v:Vr}(h:dQ v=true):0<=cq v:=by
 simp only[dQ,Ds]at h;obtain⟨_,_,h,_⟩:=h;unfold cq;split
 ·rename_i A;rw[abT A]at h;have:=ad7 h;omega
 ·split<;>omega
def pnN(k:Int):Nat:=(bC k).length
theorem J7{cells a n:Int}(E:0<=a)(H:0<=n)(I:a+n<=cells):ob cells a n=true:=by
 unfold ob;simp only[Ds,abQ];omega
section
variable {vs:List Vr} {cells:Int} (A:∀v∈vs,dQ v=true) (D:eF vs<=cells)
include A D
end
def OP(cells:Int)(x:aV):Prop:=wW x\/(ZT pnN cells 0 0 x=true/\x.op≠15)
structure rO(cells:Int)(ex:Bool)(e:Nat)(l:List aV):Prop where
 le:l.length<=e
 run:ma l []=some []
 ok:∀x∈l,OP cells x
 jmp:∀(i:Nat) x,l[i]?=some x->wW x->0<=x.a->x.a.toNat=e\/(x.a.toNat<=l.length/\ma (l.take x.a.toNat) []=some []/\(i<x.a.toNat\/∃y,l[x.a.toNat]?=some y/\y.op=11))
 out:∀x∈l,wW x->x.a<0->x.op=9/\(x.a= -2\/(ex=true/\x.a= -1))
def Fg(cells:Int)(ex:Bool)(l:List aV):Prop:=rO cells ex l.length l
section
variable {cells:Int} {ex:Bool}
theorem J8{k:Nat}{x:aV}:wW (px k x)↔wW x:=by unfold wW;rw[JZ]
theorem ahx{k:Nat}{x:aV}(h:OP cells x):OP cells (px k x):=by
 rcases VO k x with e|⟨e,_⟩
 ·rw[e];exact h
 ·exact .inl (J8.2 e)
theorem VR{k:Nat}{x:aV}(E:wW x)(h:0<=x.a):(px k x).a=x.a+k:=by
 unfold px;rw[abT ⟨E,h⟩]
theorem VS{k:Nat}{x:aV}(h:x.a<0):(px k x).a=x.a:=by
 unfold px;rw[abN (by rintro ⟨_,A3⟩;omega)]
theorem Yy(k j:Nat)(l:List aV):(pR k l).take j=pR k (l.take j):=by simp[pR]
theorem OQ(k i:Nat)(l:List aV):(pR k l)[i]?=(l[i]?).map (px k):=by simp[pR]
theorem rO.wk{e e':Nat}{l:List aV}(h:rO cells ex e l)(he:e=l.length)(A3:l.length<=e'):rO cells ex e' l:=by
 subst he;refine⟨A3,h.run,h.ok,λi x D E H=>?_,h.out⟩;rcases h.jmp i x D E H with M|M
 ·right;have hi:=(abM.1 D).1;exact⟨by omega,by rw[M,List.take_length];exact h.run,.inl (by omega)⟩
 ·exact .inr M
theorem rO.plain{l:List aV}(O:ma l []=some [])(T:∀x∈l,OP cells x)(E:∀x∈l,¬wW x){e:Nat}(he:l.length<=e):rO cells ex e l:=
 ⟨he,O,T,λ_ x D A0=>absurd A0 (E x (abU D)),λx D A0=>absurd A0 (E x D)⟩
theorem rO.app{e e':Nat}{A B:List aV}(U:rO cells ex e' B)(he:e=A.length+e')(O:ma A []=some [])(T:∀x∈A,OP cells x)
 (E:∀(i:Nat) x,A[i]?=some x->wW x->0<=x.a->x.a.toNat=e\/(x.a.toNat<=A.length+B.length/\ma ((A++pR A.length B).take x.a.toNat) []=some []/\(i<x.a.toNat\/∃y,(A++pR A.length B)[x.a.toNat]?=some y/\y.op=11)))
 (A6:∀x∈A,wW x->x.a<0->x.op=9/\(x.a= -2\/(ex=true/\x.a= -1))):rO cells ex e (A++pR A.length B):=by
 have hle:=U.le;refine⟨by simp;omega,?_,?_,?_,?_⟩
 ·rw[yn,O];show ma (pR _ B) []=_;rw[OO];exact U.run
 ·intro x D;rcases ab3.1 D with D|D
  ·exact T x D
  ·obtain⟨y,I,rfl⟩:=ab4.1 D;exact ahx (U.ok y I)
 ·intro i x D V H;by_cases hi:i<A.length
  ·rw[abW hi]at D;rcases E i x D V H with h|h
   ·exact .inl h
   ·refine .inr ⟨by simp;omega,h.2⟩
  ·rw[ab1 (by omega),OQ]at D;obtain⟨y,I,rfl⟩:=abS.1 D;have Y:=J8.1 V;have Z:0<=y.a:=by
    by_cases h:0<=y.a
    ·exact h
    ·rw[VS (by omega)]at H;exact H
   rw[VR Y Z];have A7:(y.a+(A.length:Int)).toNat=A.length+y.a.toNat:=by omega
   rw[A7];rcases U.jmp _ y I Y Z with h|⟨M,A',J⟩
   ·exact .inl (by omega)
   ·refine .inr ⟨by simp;omega,?_,?_⟩
    ·rw[List.take_append,aej (by omega),yn,O];show ma ((pR _ B).take _) []=_;rw[Yy,OO,Nat.add_sub_cancel_left];exact A'
    ·rcases J with J|⟨z,A8,A9⟩
     ·exact .inl (by omega)
     ·refine .inr ⟨px A.length z,?_,by rw[JZ];exact A9⟩;rw[ab1 (by omega),OQ,Nat.add_sub_cancel_left,A8];rfl
 ·intro x D V H;rcases ab3.1 D with D|D
  ·exact A6 x D V H
  ·obtain⟨y,I,rfl⟩:=ab4.1 D;have Y:=J8.1 V;have Z:y.a<0:=by
    by_cases h:0<=y.a
    ·rw[VR Y h]at H;omega
    ·omega
   rw[VS Z,JZ];exact U.out y I Y Z
theorem rO.jn{e e':Nat}{a b:List aV}(H:rO cells ex e a)(A1:rO cells ex e' b)(he:e=a.length+e'):rO cells ex e (jn a b):=by
 refine A1.app he H.run H.ok ?_ H.out;intro i x D E N;rcases H.jmp i x D E N with h|⟨M,A',J⟩
 ·exact .inl h
 ·refine .inr ⟨by omega,?_,?_⟩
  ·rw[anh M];exact A'
  ·rcases J with J|⟨y,I,A2⟩
   ·exact .inl J
   ·exact .inr ⟨y,by rw[abW (abM.1 I).1];exact I,A2⟩
theorem Fg.jn{a b:List aV}(H:Fg cells ex a)(A1:Fg cells ex b):Fg cells ex (jn a b):=by
 unfold Fg;rw[VK];exact rO.jn (H.wk rfl (by omega)) A1 rfl
theorem rO.tail{e A4:Nat}{l q:List aV}(h:rO cells ex A4 l)(N:A4=e)(O:ma q []=some [])(T:∀x∈q,OP cells x)(A5:∀x∈q,wW x->x.a=0)
 (AA:∃y,(l++q)[0]?=some y/\y.op=11) (AB:(l++q).length<=e):rO cells ex e (l++q):=by
 subst N;refine⟨AB,?_,?_,?_,?_⟩
 ·rw[yn,h.run];exact O
 ·intro x D;rcases ab3.1 D with D|D
  ·exact h.ok x D
  ·exact T x D
 ·intro i x D E N;by_cases hi:i<l.length
  ·rw[abW hi]at D;rcases h.jmp i x D E N with h|⟨M,A',J⟩
   ·exact .inl h
   ·refine .inr ⟨by simp;omega,by rw[anh M];exact A',?_⟩;rcases J with J|⟨y,I,A2⟩
    ·exact .inl J
    ·exact .inr ⟨y,by rw[abW (abM.1 I).1];exact I,A2⟩
  ·rw[ab1 (by omega)]at D;have:=A5 x (abU D) E;rw[this];exact .inr ⟨by simp,rfl,.inr AA⟩
 ·intro x D E N;rcases ab3.1 D with D|D
  ·exact h.out x D E N
  ·have:=A5 x D E;omega
end
section
variable {cells:Int} {ex:Bool}
theorem acT(b:List aV)(r:List (List aV)):ml [] (b::r)=if r=[]then b else jn (b++[ins 9 ((b.length:Int)+1+(ml [] r).length) 0 0 0]) (ml [] r):=by rw[ml]
end
section
variable {vs:List Vr}
end
section
variable {vs:List Vr} {cells:Int} (D:∀v∈vs,dQ v=true) (U:eF vs<=cells)
include D U
theorem Yz{s:Tx}{v:Vr}(h:bz vs s=some v)(E:¬v.arr=true)(M:v.ty<=2):ob cells (dP vs s).1 1=true:=by
 have I:∀v∈vs,0<=cq v:=λv J=>u0 (D v J);have N:=uZ I h;have O:cq v=1:=by unfold cq;rw[abN E,abN (by omega)]
 exact J7 (by omega) (by omega) (by omega)
theorem acU{s:Tx}{v:Vr}(h:bz vs s=some v)(E:v.arr=true):QP cells (ins 7 (dP vs s).1 0 v.lo v.hi)=true:=by
 have I:∀v∈vs,0<=cq v:=λv J=>u0 (D v J);have N:=uZ I h;have H:=D v (rK h).1;simp only[dQ,Ds]at H;have A:=H.2.2.1;rw[abT E]at A;have A:=ad7 A;have O:cq v=v.hi-v.lo+1:=by unfold cq;rw[abT E]
 have V:ob cells (dP vs s).1 (v.hi-v.lo+1)=true:=J7 (by omega) (by omega) (by omega);unfold QP;simp only[Ds];exact⟨⟨⟨amk (show (0:Int)<=v.lo by omega),amk (show v.lo<=v.hi by omega)⟩,amk (show v.hi<=255 by omega)⟩,V⟩
theorem u3{s:Tx}{v:Vr}(h:bz vs s=some v)(M:2<v.ty):0<=(dP vs s).1/\(dP vs s).1+(bC v.ty).length<=cells/\0<(bC v.ty).length:=by
 have I:∀v∈vs,0<=cq v:=λv J=>u0 (D v J);have N:=uZ I h;have H:=D v (rK h).1;have T:qL v.ty=true:=by
  rcases acK H with h|h
  ·omega
  ·exact h.2.2
 simp only[dQ,Ds]at H;have Y:¬v.arr=true:=by
  intro E;have A:=H.2.2.1;rw[abT E]at A;have A:=ad7 A;omega
 have O:cq v=(bC v.ty).length:=by unfold cq;rw[abN Y,abT M]
 refine⟨by omega,by omega,?_⟩;unfold qL at T;have:=ad7 T;omega
end
theorem AG{vs:List Vr}{E:Bool}:∀{cs:List Ex}{l:List (List Sm)},cs.length<=l.length->(eN vs E cs l).1=0->∀x∈cs,(dz vs x 2).1=0
 |c::cs,b::r,A,h,x,D=>by
  obtain⟨H,I⟩:=cu.1 h;obtain⟨_,J⟩:=cu.1 I;rcases abV.1 D with rfl|D
  ·exact H
  ·exact AG (by simpa using A) J x D
 |_::_,[],A,_,_,_=>by simp at A
section
variable {vs:List Vr} {cells:Int} (M:∀v∈vs,dQ v=true) (N:eF vs<=cells)
include M N
end
section
variable {vs:List Vr}
theorem jY{x:Ex}{t:Int}(h:(dz vs x t).1=0):(aL vs x).e=0/\(aL vs x).t=t:=by
 unfold dz at h;split at h
 ·rename_i he;exact absurd h he
 ·rename_i he;split at h
  ·simp at h
  ·rename_i M;exact⟨by simpa using he,by simpa using M⟩
end
def jf(ex:Bool)(x:aV):Prop:=(x.op=10->0<=x.a)/\(x.op=9->0<=x.a\/x.a= -2\/(ex=true/\x.a= -1))
def Jf(ex:Bool)(l:List aV):Prop:=∀x∈l,jf ex x
section
variable {ex:Bool}
theorem Flat.jf{l:List aV}(h:Flat l):Jf ex l:=λx A=>⟨λD=>absurd D (h x A).2,λD=>absurd D (h x A).1⟩
theorem Jf.app{a b:List aV}(H:Jf ex a)(I:Jf ex b):Jf ex (a++b):=λx A=>(ab3.1 A).elim (H x) (I x)
theorem Jf.nil:Jf ex []:=λ_ h=>by simp at h
theorem Jf.one{x:aV}(h:Am.jf ex x):Jf ex [x]:=λy E=>by simp at E;subst E;exact h
theorem Jf.mv{l:List aV}(h:Jf ex l)(k:Nat):Jf ex (pR k l):=by
 intro x A;obtain⟨y,E,rfl⟩:=ab4.1 A;have:=h y E;unfold Am.jf px at*;split
 ·rename_i J;exact⟨λ_=>by simp only;omega,λ_=>.inl (by simp only;omega)⟩
 ·exact this
theorem Jf.jn{a b:List aV}(H:Jf ex a)(I:Jf ex b):Jf ex (jn a b):=H.app (I.mv _)
theorem Jf.out{l:List aV}(h:Jf true l):Jf ex (FP l):=by
 intro x A;obtain⟨y,E,rfl⟩:=ab4.1 A;have:=h y E;unfold Am.jf OI at*;split
 ·exact⟨λ_=>by simp only;omega,λ_=>.inl (by simp only;omega)⟩
 ·rename_i J;refine⟨this.1,λD=>?_⟩;rcases this.2 D with h|h|h
  ·exact .inl h
  ·exact .inr (.inl h)
  ·exact absurd ⟨D,h.2⟩ J
end
end Go.Am
end
section
namespace Go.Am
open Go Go.Proofs
variable [Inhabited bI]
set_option maxRecDepth 20000
@[simp] def r0(x:aV):D:=.agg [.int .i64 x.op,.int .i64 x.a,.int .i64 x.b,.int .i64 x.n,.int .i64 x.m]
@[simp] def aBG(ins:List aV)(vars cells:Int)(x y:AV):ay:=.box [.d (.list (ins.map r0)),.d (.int .i64 vars),.d (.int .i64 cells),x,y]
@[simp] def bD(l:List Bool):List D:=l.map .bool
section
variable (ins:List aV) (vars cells:Int) (s1 A E s2 H I:Nat) (S T:List D)
end
structure Mk where
 out:List aV
 cells:Int
 most:Int
 ex:List (List Int)
 lv:List Int
@[simp] def lj(n:Int):D:=.int .i64 n
@[simp] def G5(l:List Int):List D:=l.map lj
@[simp] def mkB(p:Pg)(m:Mk)(h:Int):ay:=.box [.d (.str p.name),.d (.list (p.vars.map bx)),.d (.list (p.body.map cK)),.vec 1 0 0 m.out.length,.d (.int .i64 m.cells),.d (.int .i64 h),.d (.int .i64 m.most),.vec 2 0 0 m.ex.length,.vec 3 0 0 m.lv.length]
@[simp] def mkC(p:Pg)(m:Mk)(h:Int):List ay:=[mkB p m h,.vec 5 (m.out.map r0),.vv (m.ex.map G5) none,.vec 1 (m.lv.map lj)]
@[simp] def mkR(p:Pg)(m:Mk)(h:Int)(v1 v2 v3:Nat):List (Nat×ay):=[(0,.box [.d (.str p.name),.d (.list (p.vars.map bx)),.d (.list (p.body.map cK)),.vec 1 v1 0 m.out.length,.d (.int .i64 m.cells),.d (.int .i64 h),.d (.int .i64 m.most),.vec 2 v2 0 m.ex.length,.vec 3 v3 0 m.lv.length]),(v1,.vec 5 (m.out.map r0)),(v2,.vv (m.ex.map G5) none),(v3,.vec 1 (m.lv.map lj))]
@[simp] def mkX(p:Pg)(m:Mk)(h:Int)(a b c A E H:Nat):ay:=.box [.d (.str p.name),.d (.list (p.vars.map bx)),.d (.list (p.body.map cK)),.vec a A 0 m.out.length,.d (.int .i64 m.cells),.d (.int .i64 h),.d (.int .i64 m.most),.vec b E 0 m.ex.length,.vec c H 0 m.lv.length]
def Mk.put(m:Mk)(x:aV)(t:Int):Mk:={m with out:=m.out++[x],most:=max m.most t}
def Mk.lead(m:Mk)(at_:Int):Mk:={m with out:=setAt m.out at_ m.out.length}
@[simp] theorem asw(m:Mk)(i:Int):(m.lead i).out.length=m.out.length:=by simp[Mk.lead]
abbrev nV(p:Pg):D:=.agg [.str p.name,.list (p.vars.map bx),.list (p.body.map cK)]
theorem J9(s:Tx):∀(l:List Pn)(n:Nat),(match CY l s n with
 |some (i,q)=>jr (λq:Pn=>decide (q.name=s)) l n=i/\n<=i/\l[i-n]?=some q
 |none=>jr (λq:Pn=>decide (q.name=s)) l n= -1)
 |[],n=>rfl
 |q::l,n=>by
  have ih:=J9 s l (n+1);simp only[CY,jr];by_cases h:q.name=s
  ·rw[abT h];simp[h]
  ·rw[abN h];simp only[h,decide_false,ahG,ad0];cases A:CY l s (n+1)with
   |none=>rw[A]at ih;exact ih
   |some x=>
    obtain⟨i,w⟩:=x;rw[A]at ih;obtain⟨D,H,E⟩:=ih;refine⟨D,by omega,?_⟩;rw[show i-n=(i-(n+1))+1 by omega];simpa using E
end Go.Am
end
section
namespace Go.Am
open Go
def EJ(ex:List (List Int))(a:List Int):List (List Int):=
 match ex.getLast? with
 |some r=>ex.dropLast++[r++a]
 |none=>[]
theorem VW(ex:List (List Int))(r a:List Int):EJ (ex++[r]) a=ex++[r++a]:=by simp[EJ]
@[simp] theorem anq(ex:List (List Int))(a:List Int):(EJ ex a).length=ex.length:=by
 rcases List.eq_nil_or_concat ex with h|⟨l,r,h⟩
 ·subst h;rfl
 ·rw[h,List.concat_eq_append,VW];simp
def EK(m:Mk):Prop:=m.lv.length<=m.out.length/\∀r∈m.ex,r.length<=m.out.length
theorem EK.put{m:Mk}(h:EK m)(x:aV)(t:Int):EK (m.put x t):=
 ⟨by have:=h.1;simp[Mk.put];omega,λr A=>by have:=h.2 r A;simp[Mk.put];omega⟩
theorem EK.lead{m:Mk}(h:EK m)(i:Int):EK (m.lead i):=by
 have e:(m.lead i).out.length=m.out.length:=by simp[Mk.lead]
 exact⟨by rw[e];exact h.1,λr A=>by rw[e];exact h.2 r A⟩
end Go.Am
end
section
namespace Go.Am
open Go Go.Proofs
variable [Inhabited bI]
set_option maxRecDepth 20000
@[simp] def mqM(p:Pg)(m:Mk)(h:Int)(v1 v2 v3:Nat):List cB:=[⟨0,0,.box [.d (.str p.name),.d (.list (p.vars.map bx)),.d (.list (p.body.map cK)),.vec 1 v1 0 m.out.length,.d (.int .i64 m.cells),.d (.int .i64 h),.d (.int .i64 m.most),.vec 2 v2 0 m.ex.length,.vec 3 v3 0 m.lv.length]⟩,⟨1,v1,.vec 5 (m.out.map r0)⟩,⟨2,v2,.vv (m.ex.map G5) none⟩,⟨3,v3,.vec 1 (m.lv.map lj)⟩]
section
variable {p:Pg} (A:p.vars.length<=1000) (D:∀v∈p.vars,dQ v=true)
include A D
end
end Go.Am
end
section
namespace Go.Am
open Go
def cds(A:List (List aV×Int)):List (List aV):=A.map (·.1)
def Mk.tJ(m:Mk)(A:List (List aV×Int))(D:List (List aV))(c t:Int):Mk:=
 ⟨m.out++chA 0 m.out.length (cds A) D,c,max m.most t,EJ m.ex (chP (-1) m.out.length (cds A) D),m.lv++chP (-2) m.out.length (cds A) D⟩
end Go.Am
end
section
namespace Go.Am
open Go Go.Proofs
variable [Inhabited bI]
set_option maxRecDepth 20000
section
variable {p:Pg} (A:p.vars.length<=1000) (D:∀v∈p.vars,dQ v=true)
include A D
end
@[simp] def mqI(p:Pg)(m:Mk)(s:Sm)(E:List Int)(v1 v2 v3 H:Nat):List cB:=[⟨0,0,mkX p m 0 3 4 5 v1 v2 v3⟩,⟨1,0,.box [.ptr 0 0 0]⟩,⟨2,0,bm s⟩,⟨3,v1,.vec 5 (m.out.map r0)⟩,⟨4,v2,.vv (m.ex.map G5) none⟩,⟨5,v3,.vec 1 (m.lv.map lj)⟩,⟨500,H,.vec 1 (E.map lj)⟩]
@[simp] def mqC(p:Pg)(m:Mk)(s:Sm)(q:Int)(E:List Int)(v1 v2 v3 A:Nat):List cB:=[⟨0,0,mkX p m 0 4 5 6 v1 v2 v3⟩,⟨1,0,.box [.ptr 0 0 0]⟩,⟨2,0,bm s⟩,⟨3,0,.box [.d (.int .i64 q)]⟩,⟨4,v1,.vec 5 (m.out.map r0)⟩,⟨5,v2,.vv (m.ex.map G5) none⟩,⟨6,v3,.vec 1 (m.lv.map lj)⟩,⟨500,A,.vec 1 (E.map lj)⟩]
@[simp] theorem auJ:List.range 7=[0,1,2,3,4,5,6]:=rfl
@[simp] theorem auK:List.range 8=[0,1,2,3,4,5,6,7]:=rfl
@[simp] def mqL(p:Pg)(m:Mk)(h:Int)(s:Sm)(q:Int)(v1 v2 v3:Nat):List cB:=[⟨0,0,.box [.ptr 3 0 0]⟩,⟨1,0,bm s⟩,⟨2,0,.box [.d (.int .i64 q)]⟩,⟨3,0,mkX p m h 4 5 6 v1 v2 v3⟩,⟨4,v1,.vec 5 (m.out.map r0)⟩,⟨5,v2,.vv (m.ex.map G5) none⟩,⟨6,v3,.vec 1 (m.lv.map lj)⟩]
def Mk.tE(m:Mk):Mk:={m with ex:=m.ex++[[]]}
theorem EK.tE{m:Mk}(h:EK m):EK m.tE:=
 ⟨h.1,λr A=>by
  rcases ab3.1 A with A|A
  ·exact h.2 r A
  ·simp at A;subst A;simp⟩
section
variable {p:Pg} {x:Sm} {m M:Mk} (A:m.out.length<99999990)
include A
end
@[simp] def mkO(p:Pg)(m:Mk)(h:Int)(pre:List (List Int))(row:List Int):List ay:=[.box [.d (.str p.name),.d (.list (p.vars.map bx)),.d (.list (p.body.map cK)),.vec 1 0 0 m.out.length,.d (.int .i64 m.cells),.d (.int .i64 h),.d (.int .i64 m.most),.vec 2 0 0 (pre.length+1),.vec 3 0 0 m.lv.length],.vec 5 (m.out.map r0),.vv (pre.map G5) (some (.vec 4 0 0 row.length)),.vec 1 (m.lv.map lj),.vec 1 (row.map lj)]
@[simp] def mkP(p:Pg)(m:Mk)(h:Int)(pre:List (List Int))(row:List Int):List (Nat×ay):=[(0,.box [.d (.str p.name),.d (.list (p.vars.map bx)),.d (.list (p.body.map cK)),.vec 1 1 0 m.out.length,.d (.int .i64 m.cells),.d (.int .i64 h),.d (.int .i64 m.most),.vec 2 0 0 (pre.length+1),.vec 3 0 0 m.lv.length]),(1,.vec 5 (m.out.map r0)),(0,.vv (pre.map G5) (some (.vec 4 0 0 row.length))),(0,.vec 1 (m.lv.map lj)),(0,.vec 1 (row.map lj))]
def Mk.ext(m:Mk):Mk:={m with out:=m.out++[ins 9 0 0 0 0],most:=max m.most 0,ex:=EJ m.ex [(m.out.length:Int)]}
def Mk.ret(m:Mk):Mk:={m with out:=m.out++[ins 9 0 0 0 0],most:=max m.most 0,lv:=m.lv++[(m.out.length:Int)]}
end Go.Am
end
section
namespace Go.Am
open Go
inductive Vl where
 |v (n:Int) (t:Bool)
 |f (e:Int)
 deriving DecidableEq
structure Mc where
 cells:List Int
 fuel:Nat
inductive Hw where
 |on
 |lv
 |rt
 |ft (e:Int)
 deriving DecidableEq
abbrev Rr:=Hw×Mc
def bR(q:Rr)(f:Mc->Rr):Rr:=
 match q with
 |(.on,s)=>f s
 |q=>q
def vR(q:Vl)(s:Mc)(f:Int->Rr):Rr:=
 match q with
 | .f e=>(.ft e,s)
 | .v n _=>f n
def vV(q:Vl)(f:Int->Vl):Vl:=
 match q with
 | .f e=>.f e
 | .v n _=>f n
def gk(F:Mc->Rr)(s:Mc):Rr:=if s.fuel=0 then (.ft 4,s)else F ⟨s.cells,s.fuel-1⟩
def jZ(C:List Int)(k:Int):Int:=C[k.toNat]?.getD 0
def EM(C:List Int)(at_ t:Int):Int:=if t=2 then dk (decide (jZ C at_≠0))else jZ C at_
def eI(C:List Int)(k n:Int):List Int:=C.set k.toNat n
def EN(op:Int)(l:List Int)(t:Bool):Int×Bool×Int:=
 match l with
 |[a]=>kh op a t
 |[a,b]=>ik op a b t
 |_=>jC
def py(op:Int)(l:List Int)(t:Bool):Vl:=if (EN op l t).2.2=0 then .v (EN op l t).1 (EN op l t).2.1 else .f (EN op l t).2.2
def Sr(C:List Int)(at_:Int)(v:Vr)(n:Int):Vl:=if n<v.lo\/v.hi<n then .f 3 else .v (EM C (at_+(n-v.lo)) v.ty) (decide (v.ty=2))
mutual
def bV(vs:List Vr)(C:List Int):Ex->Vl
 | .mk op n name field sub _=>
  if op=1 then .v n false
  else if op=2 then .v n true
  else if op=3 then .v (EM C (dP vs name).1 (dP vs name).2.ty) (decide ((dP vs name).2.ty=2))
  else if op=4 then vV (AH vs C sub) λk=>Sr C (dP vs name).1 (dP vs name).2 k
  else if op=5 then .v (EM C (lK vs name field).1 (lK vs name field).2.ty) (decide ((lK vs name field).2.ty=2))
  else
   (match (lL vs C sub false).2 with
    | .v _ t=>py op (lL vs C sub false).1 t
    | .f e=>.f e)
def AH(vs:List Vr)(C:List Int):List Ex->Vl
 |[]=>.f (-2)
 |x::_=>bV vs C x
def lL(vs:List Vr)(C:List Int):List Ex->Bool->List Int×Vl
 |[],t=>([],.v 0 t)
 |x::r,_=>
  (match bV vs C x with
   | .f e=>([],.f e)
   | .v n t=>(n::(lL vs C r t).1,(lL vs C r t).2))
end
def Ka(C:List Int)(fuel:Nat)(at_:Int)(v:Vr)(n x:Int):Rr:=if n<v.lo\/v.hi<n then (.ft 3,⟨C,fuel⟩)else (.on,⟨eI C (at_+(n-v.lo)) x,fuel⟩)
def sl(vs:List Vr)(to val:Ex)(s:Mc):Rr:=
 if bO to=3 then vR (bV vs s.cells val) s λn=>(.on,⟨eI s.cells (dP vs (dS to)).1 n,s.fuel⟩)
 else vR (AH vs s.cells (cV to)) s λk=>vR (bV vs s.cells val) s λn=>Ka s.cells s.fuel (dP vs (dS to)).1 (dP vs (dS to)).2 k n
def ki(vs:List Vr)(name:Tx):List Tx->List Ex->Mc->Rr
 |f::I,x::xs,s=>vR (bV vs s.cells x) s λn=>ki vs name I xs ⟨eI s.cells (lK vs name f).1 n,s.fuel⟩
 |_,_,s=>(.on,s)
def vP(C:List Int)(at_ k:Int):List Int:=C.take at_.toNat++gH k ((C.drop at_.toNat).take (bC k).length)++C.drop (at_.toNat+(bC k).length)
def og(vs:List Vr)(name:Tx)(I:List Tx)(xs:List Ex)(s:Mc):Rr:=bR (ki vs name I xs s) λD=>(.on,⟨vP D.cells (dP vs name).1 (dP vs name).2.ty,D.fuel⟩)
def iG(q:Rr):Rr:=if q.1=.lv then (.on,q.2)else q
def jy(n:Int):List Int->Bool
 |a::b::r=>decide (a<=n/\n<=b)||jy n r
 |_=>false
def AI(c:List Int->Vl)(b:Mc->Rr):Nat->Mc->Rr
 |0,s=>(.ft 4,s)
 |m+1,s=>gk (λs=>vR (c s.cells) s λk=>if k=0 then (.on,s)else bR (b s) λD=>AI c b m D) s
def AJ(c:List Int->Vl)(b:Mc->Rr):Nat->Mc->Rr
 |0,s=>(.ft 4,s)
 |m+1,s=>bR (b s) λs=>gk (λs=>vR (c s.cells) s λk=>if k=0 then AJ c b m s else (.on,s)) s
def VX(n to A:Int):Bool:=decide (0<=A/\to<n)||decide (A<0/\n<to)
def B5(at_ to A:Int)(b:Mc->Rr):Nat->Mc->Rr
 |0,s=>(.ft 4,s)
 |m+1,s=>gk (λs=>if VX (jZ s.cells at_) to A=true then (.on,s)else bR (b s) λs=>vR (py 8 [jZ s.cells at_,A] false) s λn=>B5 at_ to A b m ⟨eI s.cells at_ n,s.fuel⟩) s
def CZ(vs:List Vr)(name:Tx)(E:List Ex)(b:Mc->Rr)(s:Mc):Rr:=
 match E with
 |[x,y,z]=>vR (bV vs s.cells x) s λfrom_=>vR (bV vs s.cells y) s λM=>vR (bV vs s.cells z) s λA=>B5 (dP vs name).1 M A b (s.fuel+1) ⟨eI s.cells (dP vs name).1 from_,s.fuel⟩
 |_=>(.on,s)
mutual
def ju(vs:List Vr):Sm->Mc->Rr
 | .mk op name to val E N fields H _,s=>gk (λs=>
  if op=1 then sl vs to val s
  else if op=2 then iJ vs H E s
  else if op=3 then vR (bV vs s.cells val) s λn=>iK vs H n N s
  else if op=4 then iG (CZ vs name E (λq=>ll vs H q) s)
  else if op=5 then iG (AI (λC=>bV vs C val) (λq=>ll vs H q) (s.fuel+1) s)
  else if op=6 then iG (AJ (λC=>bV vs C val) (λq=>ll vs H q) (s.fuel+1) s)
  else if op=7 then (.lv,s)
  else if op=8 then (.rt,s)
  else og vs name fields E s) s
def cD(vs:List Vr):List Sm->Mc->Rr
 |[],s=>(.on,s)
 |x::r,s=>bR (ju vs x s) λD=>cD vs r D
def iJ(vs:List Vr):List (List Sm)->List Ex->Mc->Rr
 |[],_,s=>(.on,s)
 |b::_,[],s=>cD vs b s
 |b::J,c::cs,s=>vR (bV vs s.cells c) s λn=>if n=0 then iJ vs J cs s else cD vs b s
def iK(vs:List Vr):List (List Sm)->Int->List (List Int)->Mc->Rr
 |[],_,_,s=>(.on,s)
 |b::_,_,[],s=>cD vs b s
 |b::J,n,l::ls,s=>if jy n l=true then cD vs b s else iK vs J n ls s
def ll(vs:List Vr):List (List Sm)->Mc->Rr
 |[],s=>(.on,s)
 |b::_,s=>cD vs b s
end
def mm(p:Pg)(C:List Int)(fuel:Nat):List Int×Int×Nat:=
 match cD p.vars p.body ⟨C,fuel⟩with
 |(.ft e,s)=>(s.cells,e,s.fuel)
 |(_,s)=>(s.cells,0,s.fuel)
section
variable {vs:List Vr} {C:List Int}
theorem rP(x:Ex)(r:List Ex)(t0:Bool):lL vs C (x::r) t0=(match bV vs C x with
 | .f e=>([],.f e)
 | .v n t=>(n::(lL vs C r t).1,(lL vs C r t).2)):=by rw[lL]<;>cases bV vs C x<;>rfl
theorem G6:∀(l U:List Ex)(t:Bool),l.length=U.length->(∀(i:Nat)(x y:Ex),l[i]?=some x->U[i]?=some y->bV vs C x=bV vs C y)->lL vs C l t=lL vs C U t
 |[],[],_,_,_=>rfl
 |x::r,y::A1,t,A,h=>by
  have H:=h 0 x y rfl rfl;have ih:=λt=>G6 r A1 t (by simpa using A) (λi a b A2 A3=>h (i+1) a b (by simpa using A2) (by simpa using A3));rw[rP,rP,H];cases bV vs C y with
  |f e=>rfl
  |v n t=>simp only[ih]
 |[],_::_,_,h,_=>by simp at h
 |_::_,[],_,h,_=>by simp at h
theorem OR{k:Int}(h:0<=k/\k<=9223372036854775807):py 6 [k] false=.v (uY k) false:=by
 rw[wR (by omega)];unfold py EN kh;simp only[ahG,ad0,aes];have e:jo (0-k)=(0-k,true):=by
  unfold jo;rw[abT (by omega)]
 rw[e];simp[qp]
theorem G7{y:Ex}{p:Int×Bool}(h:iu y=some p):(bO y=1/\p=(fW y,false))\/(bO y=2/\p=(fW y,true))\/(bO y=6/\∃z,cV y=[z]/\bO z=1/\p=(uY (fW z),false)):=by
 unfold iu at h;by_cases D:bO y=1
 ·rw[abT D]at h;cases h;exact .inl ⟨D,rfl⟩
 ·rw[abN D]at h;by_cases I:bO y=2
  ·rw[abT I]at h;cases h;exact .inr (.inl ⟨I,rfl⟩)
  ·rw[abN I]at h;by_cases V:bO y=6
   ·rw[abT V]at h;refine .inr (.inr ⟨V,?_⟩);generalize cV y=l at*;match l,h with
    |[z],h=>
     by_cases J:bO z=1
     ·simp only[abT J,abX]at h;exact⟨z,rfl,J,h.symm⟩
     ·simp[abN J]at h
    |[],h=>simp at h
    |_::_::_,h=>simp at h
   ·rw[abN V]at h;cases h
theorem VY{y:Ex}(E:bH y=true)(A:cO y=true)(h:bO y=1):0<=fW y/\fW y<=9223372036854775807:=by
 obtain⟨op,n,name,field,sub,line⟩:=y;simp only[iP]at h;subst h;simp only[bH,cO,Ds,abQ,ahy,aeB]at E A;simp only[rH];have D:¬n<0:=λhh=>E.1 (.inl ⟨trivial,hh⟩);omega
theorem FT{y:Ex}{p:Int×Bool}(h:iu y=some p)(E:bH y=true)(A:cO y=true):bV vs C y=.v p.1 p.2:=by
 obtain⟨D,rfl⟩|⟨D,rfl⟩|⟨D,z,J,I,rfl⟩:=G7 h<;>obtain⟨op,n,name,field,sub,line⟩:=y<;>simp only[iP]at D<;>subst D
 ·simp[bV]
 ·simp[bV]
 ·simp only[mO]at J;subst J;simp only[bH,bG,Ds]at E;simp only[cO,cQ,Ds]at A;have e:=OR (VY E.2.2.2.2.1 A.2.1 I);obtain⟨ik,k,AH,AI,AJ,AK⟩:=z;simp only[iP]at I;subst I;simp only[rH]at e⊢;simp[bV,lL,e]
theorem ahB{y:Ex}{p:Int×Bool}(h:iu y=some p)(E:bH y=true)(A:cO y=true): -9223372036854775808<=p.1/\p.1<=9223372036854775807:=by
 obtain⟨D,rfl⟩|⟨D,rfl⟩|⟨D,z,J,I,rfl⟩:=G7 h<;>obtain⟨op,n,name,field,sub,line⟩:=y<;>simp only[iP]at D<;>subst D
 ·simp only[cO,Ds,abQ]at A;exact A.1
 ·simp only[cO,Ds,abQ]at A;exact A.1
 ·simp only[mO]at J;subst J;simp only[bH,bG,Ds]at E;simp only[cO,cQ,Ds]at A;have:=VY E.2.2.2.2.1 A.2.1 I;simp only
  rw[wR (by omega)];omega
theorem YA{n:Int}{t:Bool}{line:Int}(h:t=false-> -9223372036854775807<=n/\n<=9223372036854775807):bV vs C (kq n t line)=.v n t:=by
 unfold kq;cases t with
 |true=>rw[abT rfl];simp[bV]
 |false=>
  have h:=h rfl;rw[abN (by decide)];by_cases H:0<=n
  ·rw[abT H];simp[bV]
  ·rw[abN H];have e:=wR (n:=n) (by omega);have N:py 6 [uY n] false=.v (uY (uY n)) false:=OR (by omega);have A4:uY (uY n)=n:=by rw[wR (n:=uY n) (by omega)];omega
   simp[bV,lL,N,A4]
theorem YB:∀{l:List Ex}{ps:List (Int×Bool)},m9 l=some ps->(∀y∈l,bH y=true/\cO y=true)->∀op,AE op ps≠none->
 ∃t,lL vs C l false=(ps.map (·.1),.v 0 t)/\AE op ps=some (EN op (ps.map (·.1)) t):=by
 intro l ps h M op Y;obtain⟨q,O⟩:=Bo h;match ps,l,q with
 |[a],[x],_=>
  have e:=FT (vs:=vs) (C:=C) (O 0 x a rfl rfl) (M x (by simp)).1 (M x (by simp)).2;exact⟨a.2,by rw[rP,e];simp[lL],rfl⟩
 |[a,b],[x,y],_=>
  have e:=FT (vs:=vs) (C:=C) (O 0 x a rfl rfl) (M x (by simp)).1 (M x (by simp)).2;have N:=FT (vs:=vs) (C:=C) (O 1 y b rfl rfl) (M y (by simp)).1 (M y (by simp)).2;have A5:a.2=b.2:=by
   apply Classical.byContradiction;intro A6;exact Y (by simp[AE,A6])
  refine⟨b.2,?_,?_⟩
  ·rw[rP,e];simp only[rP,N];simp[lL]
  ·simp[AE,A5,EN]
 |[],[],_=>exact absurd rfl Y
 |a::b::c::r,l,_=>exact absurd rfl Y
theorem acV{x:Ex}(E:bH x=true)(A:cO x=true):bV vs C (jX x)=bV vs C x:=by
 unfold jX;split
 ·rfl
 ·rename_i A7;split
  ·rfl
  ·rename_i l Z;split
   ·rfl
   ·rename_i r T;split
    ·rfl
    ·rename_i A';obtain⟨op,n,name,field,sub,line⟩:=x;simp only[amr,Int.not_lt,iP,mO,Jv]at A7 Z T A'⊢;obtain⟨f1,f2⟩:=sV E;obtain⟨AL,A8⟩:=wT A;have A0:∀y∈sub,bH y=true/\cO y=true:=λy M=>⟨(im sub).1 f2 y M,(lh sub).1 A8 y M⟩;obtain⟨t,A9,N⟩:=YB (vs:=vs) (C:=C) Z A0 op (by rw[T];simp);rw[T]at N;cases N;have AA:bV vs C (.mk op n name field sub line)=py op (l.map (·.1)) t:=by
      rw[bV];rw[abN (by omega),abN (by omega),abN (by omega),abN (by omega),abN (by omega),A9]
     rw[AA];have AB:∀p∈l, -9223372036854775808<=p.1/\p.1<=9223372036854775807:=by
      intro p AC;obtain⟨q,O⟩:=Bo Z;obtain⟨i,hi,rfl⟩:=List.getElem_of_mem AC;have AD:i<sub.length:=by omega
      have H:=O i (sub[i]) (l[i]) (by simp[AD]) (by simp[hi]);have hm:=A0 sub[i] (by simp);exact ahB H hm.1 hm.2
     have AF:=VL T AB;have H:(EN op (l.map (·.1)) t).2.2=0:=by omega
     obtain⟨_,_,g3⟩:=AF H;unfold py;rw[abT H];refine YA λAG=>?_;have:=A'.2;rw[AG]at this;simp only[true_and]at this;omega
end
section
variable {vs:List Vr}
theorem oO{x:Ex}{t:Int}(h:(dz vs x t).1=0):(aL vs x).e=0/\(aL vs x).t=t:=by
 unfold dz at h;split at h
 ·exact absurd h (by assumption)
 ·rename_i A6;split at h
  ·simp at h
  ·rename_i H;exact⟨by simpa using A6,by simpa using H⟩
theorem mR(C:List Int):∀x:Ex,bH x=true->cO x=true->(aL vs x).e=0->bV vs C (cS x)=bV vs C x
 | .mk op n name field sub line,A,D,he=>by
  obtain⟨f1,f2⟩:=sV A;obtain⟨AL,AB⟩:=wT D;have A2:=Bp A he;have AC:∀y∈sub,Kp vs y (cS y):=λy E=>Bq y ((im sub).1 f2 y E) ((lh sub).1 AB y E) (A2 y E);have ih:∀y∈sub,bV vs C (cS y)=bV vs C y:=λy E=>mR C y ((im sub).1 f2 y E) ((lh sub).1 AB y E) (A2 y E);have AD:(cf sub).length=sub.length:=by rw[iI];simp
  have AM:bH (.mk op n name field (cf sub) line)=true:=by
   have AN:bG (cf sub)=true:=by
    rw[im,iI];intro y E;obtain⟨z,A7,rfl⟩:=ab4.1 E;exact (AC z A7).1
   simp only[bH,Ds]at A⊢;refine⟨A.1,?_,A.2.2.1,A.2.2.2.1,AN⟩;rw[AD];exact A.2.1
  have AO:cO (.mk op n name field (cf sub) line)=true:=by
   simp only[cO,Ds,abQ];refine⟨AL,?_⟩;rw[lh,iI];intro y E;obtain⟨z,A7,rfl⟩:=ab4.1 E;exact (AC z A7).2.1
  rw[cS,acV AM AO,bV,bV];have H:AH vs C (cf sub)=AH vs C sub:=by
   cases sub with
   |nil=>rfl
   |cons y r=>simp only[cf,AH];exact ih y (by simp)
  have I:lL vs C (cf sub) false=lL vs C sub false:=by
   refine G6 _ _ _ AD λi x y A3 E=>?_;rw[iI,adK,E]at A3;cases A3;exact ih y (abU E)
  rw[H,I]
termination_by x=>SizeOf.sizeOf x
decreasing_by all_goals (simp_wf;have:=List.sizeOf_lt_of_mem E;omega)
theorem acW{x:Ex}(h:bO x<6):cS x=.mk (bO x) (fW x) (dS x) (eS x) (cf (cV x)) (jq x):=by
 obtain⟨op,n,name,field,sub,line⟩:=x;simp only[iP]at h;simp[cS,jX,h]
theorem VZ(name:Tx):∀(J:List Tx)(xs:List Ex),bG xs=true->cQ xs=true->(∀x∈xs,(aL vs x).e=0)->∀s,ki vs name J (cf xs) s=ki vs name J xs s
 |[],xs,_,_,_,s=>by cases xs<;>rfl
 |f::J,[],_,_,_,s=>rfl
 |f::J,x::xs,A,D,U,s=>by
  simp only[bG,cQ,Ds]at A D;simp only[cf,ki];rw[mR _ x A.1 D.1 (U x (by simp))];congr 1;funext n;exact VZ name J xs A.2 D.2 (λy E=>U y (by simp[E])) _
theorem Bu{k line:Int}:∀(J:List Tx)(xs:List Ex)(p:List Tx),xs.length=J.length->(ib vs k line J xs p).1=0->∀x∈xs,(aL vs x).e=0
 |[],[],_,_,_,x,A3=>by simp at A3
 |f::J,x::xs,p,D,h,y,E=>by
  simp only[ib]at h;cases AE:l7 k f with
  |none=>rw[AE]at h;simp at h
  |some q=>
   rw[AE]at h;simp only at h;split at h
   ·simp at h
   ·split at h
    ·simp at h
    ·obtain⟨H,I⟩:=cu.1 h;rcases abV.1 E with rfl|E
     ·exact (oO H).1
     ·exact Bu J xs _ (by simpa using D) I y E
 |[],_::_,_,h,_,_,_=>by simp at h
 |_::_,[],_,h,_,_,_=>by simp at h
theorem V0{x:Ex}(h:cO x=true):cQ (cV x)=true:=by
 obtain⟨op,n,name,field,sub,line⟩:=x;exact (wT h).2
theorem V1{x:Ex}(h:bH x=true):bG (cV x)=true:=by
 obtain⟨op,n,name,field,sub,line⟩:=x;exact (sV h).2
theorem YC{x:Ex}(A:bH x=true)(h:(aL vs x).e=0):∀y∈cV x,(aL vs y).e=0:=by
 obtain⟨op,n,name,field,sub,line⟩:=x;exact Bp A h
theorem acX(C:List Int){l:List Ex}(A:bG l=true)(D:cQ l=true)(U:∀y∈l,(aL vs y).e=0):AH vs C (cf l)=AH vs C l:=by
 cases l with
 |nil=>rfl
 |cons y r=>
  simp only[bG,cQ,Ds]at A D;simp only[cf,AH];exact mR C y A.1 D.1 (U y (by simp))
theorem ahC{to val:Ex}(O:bO to=3\/bO to=4)(ft:bH to=true)(lt:cO to=true)(A8:(aL vs to).e=0)(M:bH val=true)(lv:cO val=true)(A9:(aL vs val).e=0)(s:Mc):sl vs (cS to) (cS val) s=sl vs to val s:=by
 rw[acW (by omega)];unfold sl;simp only[iP,Ew,mO];rw[mR _ val M lv A9,acX _ (V1 ft) (V0 lt) (YC ft A8)];rfl
mutual
theorem acY(lp:Bool):∀x:Sm,jF x=true->iq x=true->(kW vs lp x).1=0->∀s,ju vs (pQ x) s=ju vs x s
 | .mk op name to val Y AP fields AF line,A,D,h,s=>by
  have AG:=Kb AF;have AA:=acZ AF;simp only[iq,Ds]at D;obtain⟨AQ,A4,V,A_,Z⟩:=D;have A5:=FR A h;rw[pQ,ju,ju];congr 1;funext s;cases A5 with
  |asg O AI A2 ft A8 M A9 h=>exact ahC O ft AQ A8 M A4 A9 _
  |cnd O AJ T H I AR N h=>exact AG.1 lp Y T V N Z h s
  |cas O M A' I AR Aa N h=>
   rw[mR _ val M A4 (oO A').1];show vR _ _ _=vR _ _ _;congr 1;funext n;exact AG.2 lp AP n N Z h _
  |cnt AS O AJ AI A2 Ab U AT AU AV AW AX AY N A0=>
   simp only[cQ,Ds]at V;have A1:=AA (by simp[cH,N]) Z (by simpa [rJ]using A0);simp only[cf,show ¬((4:Int)=1) by decide,show ¬((4:Int)=2) by decide,show ¬((4:Int)=3) by decide,ad0,aes];simp only[CZ,A1];rw[mR _ _ AT V.1 (oO AU).1,mR _ _ AV V.2.1 (oO AW).1,mR _ _ AX V.2.2.1 (oO AY).1]
  |whl O M A' N A0=>
   have A1:=AA (by simp[cH,N]) Z (by simpa [rJ]using A0);simp only[show ¬((5:Int)=1) by decide,show ¬((5:Int)=2) by decide,show ¬((5:Int)=3) by decide,show ¬((5:Int)=4) by decide,ad0,aes];simp only[A1,λC=>mR C val M A4 (oO A').1]
  |rep O M A' N A0=>
   have A1:=AA (by simp[cH,N]) Z (by simpa [rJ]using A0);simp only[show ¬((6:Int)=1) by decide,show ¬((6:Int)=2) by decide,show ¬((6:Int)=3) by decide,show ¬((6:Int)=4) by decide,show ¬((6:Int)=5) by decide,ad0,aes];simp only[A1,λC=>mR C val M A4 (oO A').1]
  |ext=>rfl
  |ret=>rfl
  |cal AS O AJ AI U T AZ Ac h=>
   show og vs name fields (cf Y) _=og vs name fields Y _;unfold og;rw[VZ name fields Y T V (Bu fields Y [] AZ h)]
theorem yo(lp:Bool):∀l:List Sm,eh l=true->gm l=true->(ep vs lp l).1=0->∀s,cD vs (iW l) s=cD vs l s
 |[],_,_,_,s=>rfl
 |x::r,A,D,h,s=>by
  simp only[eh,gm,Ds]at A D;obtain⟨H,I⟩:=cu.1 h;have a:=acY lp x A.1 D.1 H s;have b:=yo lp r A.2 D.2 I;rw[iW,cD,cD,a];congr 1;funext s;exact b s
theorem Kb:∀l:List (List Sm),(∀(lp:Bool)(cs:List Ex),bG cs=true->cQ cs=true->cH l=true->eK l=true->(eN vs lp cs l).1=0->∀s,iJ vs (gd l) (cf cs) s=iJ vs l cs s)/\
 (∀(lp:Bool)(ls:List (List Int))(n:Int),cH l=true->eK l=true->(eN vs lp [] l).1=0->∀s,iK vs (gd l) n ls s=iK vs l n ls s)
 |[]=>⟨λ_ _ _ _ _ _ _ s=>rfl,λ_ _ _ _ _ _ s=>rfl⟩
 |b::r=>by
  have AK:=Kb r;have hm:=λlp=>yo lp b;refine⟨λlp cs T lc A D h s=>?_,λlp ls n A D h s=>?_⟩
  ·simp only[cH,eK,Ds]at A D;rw[gd];match cs with
   |[]=>
    simp only[eN]at h;obtain⟨H,I⟩:=cu.1 h;exact hm lp A.1 D.1 H s
   |c::cs=>
    simp only[bG,cQ,Ds]at T lc;simp only[eN]at h;obtain⟨A6,h⟩:=cu.1 h;obtain⟨H,I⟩:=cu.1 h;simp only[cf,iJ];rw[mR _ c T.1 lc.1 (oO A6).1,AK.1 lp cs T.2 lc.2 A.2 D.2 I s,hm lp A.1 D.1 H s]
  ·simp only[cH,eK,Ds]at A D;simp only[eN]at h;obtain⟨H,I⟩:=cu.1 h;rw[gd];match ls with
   |[]=>exact hm lp A.1 D.1 H s
   |l::ls=>
    simp only[iK];rw[AK.2 lp ls n A.2 D.2 I s,hm lp A.1 D.1 H s]
theorem acZ:∀l:List (List Sm),cH l=true->eK l=true->(rJ vs l).1=0->∀s,ll vs (gd l) s=ll vs l s
 |[],_,_,_,s=>rfl
 |b::r,A,D,h,s=>by
  simp only[cH,eK,Ds]at A D;exact yo true b A.1 D.1 h s
end
end
theorem Ss{p:Pg}(A:nC p=true)(D:gm p.body=true)(A5:(mP p).1=0)(C:List Int)(fuel:Nat):mm (B3 p) C fuel=mm p C fuel:=by
 simp only[nC,Ds]at A;unfold mP at A5;unfold mm B3;rw[yo false p.body A.2.2.2 D (cu.1 A5).2]
end Go.Am
end
section
namespace Go.Am
open Go Go.Proofs Go.Proofs.Tryz
variable [Inhabited bI]
set_option maxRecDepth 20000
def nD:List Vr->Int->List Int
 |[],_=>[]
 |v::r,n=>n::nD r (n+cq v)
def C0:List Vr->List Int
 |[]=>[]
 |v::r=>(if v.arr=false/\v.ty<=2 then [v.init]else List.replicate (cq v).toNat 0)++C0 r
@[simp] def ahD(v1 v2 v3:Nat)(A:ay)(S:List Int)(n:Int)(F:List Int):List cB:=[⟨250,1,.box [.vec 251 v1 0 S.length,.d (.int .i64 n),.vec 252 v2 0 F.length]⟩,⟨251,v1,.vec 1 (S.map lj)⟩,⟨252,v2,.vec 1 (F.map lj)⟩,⟨350,v3,A⟩]
theorem Ke(l:List Vr)(T:l.length<=1000)(H:∀v∈l,dQ v=true)(B C:cB)(I:B.key=150)(J:C.key=200)(k:Kt)(Q:List Int->Int->List Int->cd->Prop)
 (O:∀(Y:Env) S n F v1 v2 v3 A,Q S n F (k (.exit 0) ⟨51,aC,(2,true,.ptr 200 1 0)::(3,true,.ptr 250 1 0)::Y,B::C::ahD v1 v2 v3 A S n F⟩)):∀(rest pre:List Vr)(S:List Int)(n:Int)(F:List Int)(v1 v2 v3:Nat)(A:ay),l=pre++rest->0<=n->n<=1000*pre.length->S.length=pre.length->(F.length:Int)=n->
 Q (S++nD rest n) (n+eF rest) (F++C0 rest) (aN ctx 41 (.loop (Code.at (bq f41) [1,1,0,1,0,0])) ⟨51,aC,[(2,true,.ptr 200 1 0),(3,true,.ptr 250 1 0),(8,true,.d (.list (l.map bx))),(9,true,.d (.int .i64 l.length)),(10,true,.d (.int .i64 pre.length))],B::C::ahD v1 v2 v3 A S n F⟩ k)
 |[],pre,S,n,F,v1,v2,v3,A,E,A7,A8,A',A0=>by
  have A9:pre.length=l.length:=by rw[E];simp
  have:=O [(8,true,.d (.list (l.map bx))),(9,true,.d (.int .i64 l.length)),(10,true,.d (.int .i64 l.length)),(11,true,.d (.bool false))] S n F v1 v2 v3 A;simp[nD,eF,C0]at this⊢;rw[A9,ag];simp[f41,this]
 |w::rest,pre,S,n,F,v1,v2,v3,A,E,A7,A8,A',A0=>by
  have A1:pre.length<l.length:=by rw[E];simp
  have A2:l[pre.length]=w:=by simp[E]
  have M:=Ym (H w (by rw[E];simp));have AA:=B1 (H w (by rw[E];simp));have ih:=λF' h v1 v2 v3 A=>Ke l T H B C I J k Q O rest (pre++[w]) (S++[n]) (n+cq w) F' v1 v2 v3 A (by simp[E]) (by omega) (by simp;omega) (by simp[A']) h;have A3:IntKind.i64.wrap ((pre.length:Int)+1)=(pre.length:Int)+1:=aH (by unfold aI;omega);have U:IntKind.i64.wrap (n+cq w)=n+cq w:=aH (by unfold aI;omega);have A4:S.length<=4611686018427387903:=by omega
  have A5:(S.length+1)*8<=140737488355328:=by omega
  rw[ag];simp only[nD,eF,C0];rw[<-Int.add_assoc];by_cases N:w.arr=false/\w.ty<=2
  ·have V:cq w=1:=by unfold cq;rw[abN (by simp[N.1]),abN (by omega)]
   rw[V]at M ih U AA⊢;have ih:=ih (F++[w.init]) (by simp;omega);have Z:F.length<=4611686018427387903:=by omega
   have q:(F.length+1)*8<=140737488355328:=by omega
   have y:IntKind.i64.wrap n=F.length:=by rw[<-A0];exact aH (by unfold aI;omega)
   have AB:(F.map lj++[D.int .i64 0]).set F.length (D.int .i64 w.init)=F.map lj++[D.int .i64 w.init]:=by
    rw[List.set_append_right _ _ (by simp)];simp
   simp[f41,bx,dK,N,lj]at ih M⊢;simp[A1,A2,I,J,bx,dK,N,M,A3,U,A4,A5,Z,q,y,AB,ih,lj]
  ·have ih:=ih (F++List.replicate (cq w).toNat 0) (by simp;omega);have y:0<=cq w/\cq w<=4611686018427387904:=by omega
   have Z:F.length+(cq w).toNat<=4611686018427387904:=by omega
   have q:(F.length+(cq w).toNat)*8<=140737488355328:=by omega
   simp[f41,bx,dK,N,lj]at ih M⊢;simp[A1,A2,I,J,bx,dK,N,M,A3,U,A4,A5,Z,q,y,ih,lj]
theorem OS(p:Pg)(T:p.vars.length<=1000)(H:∀v∈p.vars,dQ v=true):ah ctx 41 [.d (nV p)] []=some (.ret (.d (.agg [.list ((nD p.vars 0).map lj),.int .i64 (eF p.vars),.list ((C0 p.vars).map lj)])),[]):=by
 have A6:=λB C I J k Q O v1 v2 v3 A=>Ke p.vars T H B C I J k Q O p.vars [] [] 0 [] v1 v2 v3 A rfl (by omega) (by simp) rfl rfl;rw[ak5 (by simp)];simp[f41]at A6⊢;refine A6 _ _ ?_ ?_ _ (λS n F r=>S=nD p.vars 0->n=eF p.vars->F=C0 p.vars->r=some (.ret (.d (.agg [.list ((nD p.vars 0).map lj),.int .i64 (eF p.vars),.list ((C0 p.vars).map lj)])),[])) (λY S n F v1 v2 v3 A V AC AD=>?_) _ _ _ _ rfl rfl rfl
 ·rfl
 ·rfl
 ·subst V AC AD;simp
theorem ac0(s:Tx)(v:Vr):ah ctx 281 [.d (bx v),.ptr 0 0 0] [.box [.d (.str s)]]=some (.ret (.d (.bool (decide (v.name=s)))),[(0,.box [.d (.str s)])]):=by
 rw[agC (by simp)];simp[f281,bx,dK]
theorem ac1(s:Tx)(p:Pn):ah ctx 252 [.d (de p),.ptr 0 0 0] [.box [.d (.str s)]]=some (.ret (.d (.bool (decide (p.name=s)))),[(0,.box [.d (.str s)])]):=by
 rw[agv (by simp)];simp[f252,de]
theorem G8(s:Tx):∀(rest pre:List Vr),(pre++rest).length<1000000->∀k:Kt,
 aN ctx 233 (.loop (Code.at (bq f233) [1,0,1,0,0])) ⟨19,aC,[(0,true,.d (.list ((pre++rest).map bx))),(1,true,.fn 281 [.ptr 0 0 0]),(7,true,.d (.int .i64 (pre++rest).length)),(8,true,.d (.int .i64 pre.length))],[⟨0,0,.box [.d (.str s)]⟩]⟩ k=
  if jr (λv:Vr=>decide (v.name=s)) rest pre.length<0 then k (.exit 0) ⟨19,aC,[(0,true,.d (.list ((pre++rest).map bx))),(1,true,.fn 281 [.ptr 0 0 0]),(7,true,.d (.int .i64 (pre++rest).length)),(8,true,.d (.int .i64 (pre++rest).length)),(9,true,.d (.bool false))],[⟨0,0,.box [.d (.str s)]⟩]⟩
  else k .ret ⟨19,aC,[(4,true,.d (.int .i64 (jr (λv:Vr=>decide (v.name=s)) rest pre.length)))],[⟨0,0,.box [.d (.str s)]⟩]⟩
 |[],pre,A,k=>by
  rw[ag];simp[f233,jr]
 |x::rest,pre,A,k=>by
  obtain⟨b,E⟩:∃b,b=(λv:Vr=>decide (v.name=s)) x:=⟨_,rfl⟩;have H:ah ctx 281 [.d (bx x),.ptr 0 0 0] [.box [.d (.str s)]]=some (.ret (.d (.bool b)),[(0,.box [.d (.str s)])]):=by rw[E];exact ac0 s x
  have key:jr (λv:Vr=>decide (v.name=s)) (x::rest) pre.length=if b=true then (pre.length:Int)else jr (λv:Vr=>decide (v.name=s)) rest (pre.length+1):=by rw[E];rfl
  have ih:=G8 s rest (pre++[x]) (by simpa using A) k;have D:(pre.length:Int)<pre.length+(rest.length+1):=by omega
  have I:IntKind.i64.wrap ((pre.length:Int)+1)=pre.length+1:=aH (by unfold aI;simp at A;omega);have J:¬((pre.length:Int)<0):=by omega
  try simp[bx,dK]at H
  rw[ag,key];clear E key;cases b with
  |true=>simp[f233,D,I,J,H,bx,dK]
  |false=>
   simp[f233,bx,dK]at ih⊢;simp[D,I,H,ih,bx,dK]
theorem ac2(s:Tx)(l:List Vr)(A:l.length<1000000):ah ctx 233 [.d (.list (l.map bx)),.fn 281 [.ptr 0 0 0]] [.box [.d (.str s)]]=some (.ret (.d (.int .i64 (jr (λv:Vr=>decide (v.name=s)) l 0))),[(0,.box [.d (.str s)])]):=by
 have h:=λk=>G8 s l [] (by simpa using A) k;rw[agn (by simp)];simp[f233]at h⊢;simp[h];intro h;rcases yi (λv:Vr=>decide (v.name=s)) l 0 with D|D
 ·exact D.symm
 ·omega
theorem G9(s:Tx):∀(rest pre:List Pn),(pre++rest).length<1000000->∀k:Kt,
 aN ctx 241 (.loop (Code.at (bq f241) [1,0,1,0,0])) ⟨19,aC,[(0,true,.d (.list ((pre++rest).map de))),(1,true,.fn 252 [.ptr 0 0 0]),(7,true,.d (.int .i64 (pre++rest).length)),(8,true,.d (.int .i64 pre.length))],[⟨0,0,.box [.d (.str s)]⟩]⟩ k=
  if jr (λq:Pn=>decide (q.name=s)) rest pre.length<0 then k (.exit 0) ⟨19,aC,[(0,true,.d (.list ((pre++rest).map de))),(1,true,.fn 252 [.ptr 0 0 0]),(7,true,.d (.int .i64 (pre++rest).length)),(8,true,.d (.int .i64 (pre++rest).length)),(9,true,.d (.bool false))],[⟨0,0,.box [.d (.str s)]⟩]⟩
  else k .ret ⟨19,aC,[(4,true,.d (.int .i64 (jr (λq:Pn=>decide (q.name=s)) rest pre.length)))],[⟨0,0,.box [.d (.str s)]⟩]⟩
 |[],pre,A,k=>by
  rw[ag];simp[f241,jr]
 |x::rest,pre,A,k=>by
  obtain⟨b,E⟩:∃b,b=(λq:Pn=>decide (q.name=s)) x:=⟨_,rfl⟩;have H:ah ctx 252 [.d (de x),.ptr 0 0 0] [.box [.d (.str s)]]=some (.ret (.d (.bool b)),[(0,.box [.d (.str s)])]):=by rw[E];exact ac1 s x
  have key:jr (λq:Pn=>decide (q.name=s)) (x::rest) pre.length=if b=true then (pre.length:Int)else jr (λq:Pn=>decide (q.name=s)) rest (pre.length+1):=by rw[E];rfl
  have ih:=G9 s rest (pre++[x]) (by simpa using A) k;have D:(pre.length:Int)<pre.length+(rest.length+1):=by omega
  have I:IntKind.i64.wrap ((pre.length:Int)+1)=pre.length+1:=aH (by unfold aI;simp at A;omega);have J:¬((pre.length:Int)<0):=by omega
  try simp[de]at H
  rw[ag,key];clear E key;cases b with
  |true=>simp[f241,D,I,J,H,de]
  |false=>
   simp[f241,de]at ih⊢;simp[D,I,H,ih,de]
theorem ac3(s:Tx)(l:List Pn)(A:l.length<1000000):ah ctx 241 [.d (.list (l.map de)),.fn 252 [.ptr 0 0 0]] [.box [.d (.str s)]]=some (.ret (.d (.int .i64 (jr (λq:Pn=>decide (q.name=s)) l 0))),[(0,.box [.d (.str s)])]):=by
 have h:=λk=>G9 s l [] (by simpa using A) k;rw[ago (by simp)];simp[f241]at h⊢;simp[h];intro h;rcases yi (λq:Pn=>decide (q.name=s)) l 0 with D|D
 ·exact D.symm
 ·omega
end Go.Am
end
section
namespace Go.Am
open Go
section
variable {vs:List Vr}
theorem Su{q:Rr}(f:Mc->Rr)(h:q.1=.on):bR q f=f q.2:=by
 obtain⟨w,s⟩:=q;simp only at h;subst h;rfl
theorem Sv{q:Rr}(f:Mc->Rr)(h:q.1≠.on):bR q f=q:=by
 obtain⟨w,s⟩:=q;cases w with
 |on=>exact absurd rfl h
 |_=>rfl
def Kf(m:Nat)(s:Mc):Mc:=⟨s.cells,s.fuel+m⟩
structure Rl(m f:Nat)(q A:Rr):Prop where
 out:q.1=.ft 4->q.2.fuel=0
 more:q.1≠.ft 4->A=(q.1,Kf m q.2)
 le:q.2.fuel<=f
theorem Rl.bind{m f:Nat}{q A:Rr}(h:Rl m f q A){G H:Mc->Rr}(N:∀s,s.fuel<=f->Rl m s.fuel (G s) (H (Kf m s))):Rl m f (bR q G) (bR A H):=by
 by_cases D:q.1=.on
 ·have e:=h.more (by rw[D];simp);have g:=N q.2 h.le;rw[Su G D,e,Su H (by simpa using D)];exact⟨g.out,g.more,ahI g.le h.le⟩
 ·rw[Sv G D];refine⟨h.out,λI=>?_,h.le⟩;rw[h.more I,Sv H (by simpa using D)]
theorem Rl.ret{m:Nat}{s:Mc}{w:Hw}(h:w≠.ft 4):Rl m s.fuel (w,s) (w,Kf m s):=⟨λe=>absurd e h,λ_=>rfl,abO _⟩
theorem Rl.val{m:Nat}{s:Mc}{v:Vl}(O:∀e,v=.f e->e≠4){F F':Int->Rr}(J:∀n,Rl m s.fuel (F n) (F' n)):Rl m s.fuel (vR v s F) (vR v (Kf m s) F'):=by
 cases v with
 |f e=>exact .ret (by simpa using O e rfl)
 |v n t=>exact J n
theorem Rl.step{m:Nat}{s:Mc}{F F':Mc->Rr}(J:∀f,s.fuel=f+1->Rl m f (F ⟨s.cells,f⟩) (F' (Kf m ⟨s.cells,f⟩))):Rl m s.fuel (gk F s) (gk F' (Kf m s)):=by
 unfold gk Kf;by_cases M:s.fuel=0
 ·rw[abT M];exact⟨λ_=>M,λh=>absurd rfl h,abO _⟩
 ·have h:=J (s.fuel-1) (by omega);rw[abN M,abN (by simp only;omega)];simp only at h⊢;rw[show s.fuel+m-1=s.fuel-1+m by omega];exact⟨h.out,h.more,by have:=h.le;omega⟩
theorem Rl.left{m f:Nat}{q A:Rr}(h:Rl m f q A):Rl m f (iG q) (iG A):=by
 unfold iG;by_cases E:q.1=.lv
 ·have e:=h.more (by rw[E];simp);rw[abT E,e,abT (by simpa using E)];exact⟨λhh=>by simp at hh,λ_=>rfl,h.le⟩
 ·rw[abN E];refine⟨h.out,λI=>?_,h.le⟩;rw[h.more I,abN (by simpa using E)]
end
section
variable {vs:List Vr}
def Qh(lp:Bool)(q:Rr):Prop:=q.1≠.rt/\(lp=false->q.1≠.lv)/\q.1≠.ft 0
theorem Qh.on{lp:Bool}{s:Mc}:Qh lp (.on,s):=⟨by simp,λ_=>by simp,by simp⟩
theorem Qh.ft{lp:Bool}{e:Int}{s:Mc}(h:e≠0):Qh lp (.ft e,s):=⟨by simp,λ_=>by simp,by simpa using h⟩
theorem Qh.bind{lp:Bool}{q:Rr}(h:Qh lp q){G:Mc->Rr}(H:∀s,Qh lp (G s)):Qh lp (bR q G):=by
 by_cases E:q.1=.on
 ·rw[Su G E];exact H _
 ·rw[Sv G E];exact h
theorem Qh.val{lp:Bool}{v:Vl}{s:Mc}{F:Int->Rr}(I:∀e,v=.f e->e≠0)(A:∀n,Qh lp (F n)):Qh lp (vR v s F):=by
 cases v with
 |f e=>exact .ft (I e rfl)
 |v n t=>exact A n
theorem Qh.step{lp:Bool}{s:Mc}{F:Mc->Rr}(A:∀s,Qh lp (F s)):Qh lp (gk F s):=by
 unfold gk;split
 ·exact .ft (by decide)
 ·exact A _
theorem Qh.left{lp J:Bool}{q:Rr}(h:Qh lp q):Qh J (iG q):=by
 unfold iG;by_cases D:q.1=.lv
 ·rw[abT D];exact .on
 ·rw[abN D];exact⟨h.1,λ_=>D,h.2.2⟩
end
theorem alD(b:Int):pnN b=oe b:=by
 unfold pnN;by_cases H:b∈kU
 ·simp only[kU,abV,aed,amt]at H;rcases H with rfl|rfl|rfl|rfl|rfl|rfl|rfl|rfl|rfl|rfl|rfl|rfl|rfl|rfl|rfl|rfl|rfl|rfl|rfl|rfl|rfl<;>decide
 ·rw[yg H];simp[kU]at H;unfold oe;simp[H]
inductive ug(L:List aV):Ms->Ms->Prop
 |refl (s:Ms):ug L s s
 |step (s:Ms) (x:aV) (t:Ms) (M:s.fault=0) (A:L[s.at_.toNat]?=some x) (h:x.op≠15) (A2:ug L (QX x s) t):ug L s t
section
variable {L:List aV}
theorem ug.trans{a b c:Ms}(N:ug L a b)(E:ug L b c):ug L a c:=by
 induction N with
 |refl=>exact E
 |step s x t M A h _ ih=>exact .step _ _ _ M A h (ih E)
end
def mS(K S:List Int)(p f:Nat):Ms:=⟨K,S,p,f,0⟩
theorem ug.one{L:List aV}{K S:List Int}{p f:Nat}{x:aV}{t:Ms}(A:L[p]?=some x)(h:x.op≠15)(A0:QX x (mS K S p f)=t):ug L (mS K S p f) t:=
 .step _ x _ rfl (by simpa [mS]using A) h (A0▸.refl _)
section
variable {K S:List Int} {p f:Nat}
end
def u4(n X R:Nat)(x:aV):aV:=if x.op=9\/x.op=10 then {x with a:=if 0<=x.a then x.a+n else if x.op=9/\x.a= -1 then X else R} else x
def gI(L:List aV)(n X R:Nat)(l:List aV):Prop:=∀(i:Nat)(x:aV),l[i]?=some x->L[n+i]?=some (u4 n X R x)
theorem EO{n X R:Nat}{x:aV}(h:x.op≠9/\x.op≠10):u4 n X R x=x:=by unfold u4;rw[abN (by omega)]
theorem ahE(n X R k:Nat)(x:aV):u4 n X R (px k x)=u4 (n+k) X R x:=by
 obtain⟨op,a,b,c,d⟩:=x;unfold u4 px;by_cases h:op=9\/op=10
 ·by_cases M:0<=a
  ·simp only[h,M,and_self,aes,aV.mk.injEq,true_and,and_true];rw[abT (by omega)];omega
  ·simp only[h,M,and_false,ad0,aes]
 ·simp only[h,false_and,ad0]
theorem ac4(n X R k:Nat)(x:aV):u4 n X R (OI k x)=u4 n (n+k) R x:=by
 obtain⟨op,a,b,c,d⟩:=x;unfold u4 OI;by_cases h:op=9/\a= -1
 ·obtain⟨rfl,rfl⟩:=h;simp;omega
 ·rw[abN h];by_cases E:op=9\/op=10
  ·simp only[E,aes,h,ad0]
  ·simp only[E,ad0]
section
variable {L:List aV} {n X R:Nat}
theorem gI.left{a b:List aV}(h:gI L n X R (a++b)):gI L n X R a:=λi x A=>h i x (by
 rw[abW (abM.1 A).1];exact A)
theorem gI.right{a b:List aV}(h:gI L n X R (a++b))(i:Nat)(x:aV)(A:b[i]?=some x):L[n+a.length+i]?=some (u4 n X R x):=by
 have:=h (a.length+i) x (by rw[ab1 (by omega)];rw[show a.length+i-a.length=i by omega];exact A);rw[show n+a.length+i=n+(a.length+i) by omega];exact this
theorem gI.flat{a b:List aV}(h:gI L n X R (a++b))(H:Flat b):gI L (n+a.length) X R b:=λi x A=>by
 have hm:=H x (abU A);rw[h.right i x A,EO hm,EO hm]
theorem gI.jn1{a b:List aV}(h:gI L n X R (jn a b)):gI L n X R a:=gI.left h
theorem gI.jn2{a b:List aV}(h:gI L n X R (jn a b)):gI L (n+a.length) X R b:=λi x A=>by
 have:=gI.right h i (px a.length x) (by unfold pR;rw[adK,A];rfl);rw[this,ahE]
theorem gI.out{l:List aV}(h:gI L n X R (FP l)):gI L n (n+l.length) R l:=λi x A=>by
 have:=h i (OI l.length x) (by unfold FP;rw[adK,A];rfl);rw[this,ac4]
theorem gI.tail{x:aV}{l:List aV}(h:gI L n X R (x::l))(A1:Flat l):gI L (n+1) X R l:=λi y U=>by
 have hm:=A1 y (abU U);have:=h (i+1) y (by simpa using U);rw[EO hm]at this⊢;rw[show n+1+i=n+(i+1) by omega];exact this
theorem gI.last{a:List aV}{x:aV}(h:gI L n X R (a++[x]))(A:x.op≠9/\x.op≠10):L[n+a.length]?=some x:=by
 have:=h.right 0 x rfl;rw[EO A]at this;exact this
theorem alE{a:Int}{k:Nat}(h:a=k):u4 n X R (ins 9 a 0 0 0)=ins 9 ((n+k:Nat)) 0 0 0:=by
 subst h;simp[u4,ins];omega
theorem ahF{a:Int}{k:Nat}(h:a=k):u4 n X R (ins 10 a 0 0 0)=ins 10 ((n+k:Nat)) 0 0 0:=by
 subst h;simp[u4,ins];omega
theorem gI.ch{t b:List aV}{D r:List (List aV)}{pl:Nat}(T:pl=if r=[]then b.length else b.length+1)(h:gI L n X R (ml (t::D) (b::r))):
 gI L n X R t/\L[n+t.length]?=some (ins 10 ((n+(t.length+1+pl):Nat)) 0 0 0)/\gI L (n+(t.length+1)) X R b/\
 (r≠[]->L[n+(t.length+1+b.length)]?=some (ins 9 ((n+(t.length+1+pl+(ml D r).length):Nat)) 0 0 0))/\gI L (n+(t.length+1+pl)) X R (ml D r)/\
 (ml (t::D) (b::r)).length=t.length+1+pl+(ml D r).length:=by
 have e:ml (t::D) (b::r)=jn (jn (t++[ins 10 ((t.length:Int)+1+(if r=[]then b else b++[ins 9 ((b.length:Int)+1+(ml D r).length) 0 0 0]).length) 0 0 0]) (if r=[]then b else b++[ins 9 ((b.length:Int)+1+(ml D r).length) 0 0 0])) (ml D r):=by
  rw[ml];simp[jn]
 rw[e]at h⊢;have V:(if r=[]then b else b++[ins 9 ((b.length:Int)+1+(ml D r).length) 0 0 0]).length=pl:=by
  rw[T];split<;>simp
 generalize I:(if r=[]then b else b++[ins 9 ((b.length:Int)+1+(ml D r).length) 0 0 0])=q at h V⊢;have N:=h.jn1;have E:=h.jn2;have Y:=N.jn1;have J:=N.jn2;have Z:=Y.right 0 _ rfl;rw[ahF (k:=t.length+1+pl) (by omega)]at Z;simp only[VK,acg,ach,aeI,V]at E J⊢;refine⟨Y.left,Z,?_,λO=>?_,?_,?_⟩;rotate_right
 ·first|trivial|omega
 ·by_cases O:r=[]
  ·rw[abT O]at I;rw[I];exact J
  ·rw[abN O]at I;rw[<-I]at J;exact J.left
 ·rw[abN O]at I T;rw[<-I]at J;have A':=J.right 0 _ rfl;rw[alE (k:=b.length+1+(ml D r).length) (by omega)]at A';rw[show n+(t.length+1+b.length)=n+(t.length+(0+1))+b.length+0 by omega,A',T];congr 3;omega
 ·rw[show n+(t.length+1+pl)=n+(t.length+(0+1)+pl) by omega];exact E
end
@[simp] theorem asx{C:List Int}{k n:Int}:(eI C k n).length=C.length:=by simp[eI]
def Got(L:List aV)(K S:List Int)(p f:Nat)(q:Vl)(e:Nat):Prop:=
 match q with
 | .v k _=>ug L (mS K S p f) (mS K (S++[k]) e f)
 | .f A=>∃t,ug L (mS K S p f) t/\t.cells=K/\t.fuel=f/\t.fault=A
section
variable {vs:List Vr}
theorem OT(C:List Int)(k line:Int):bV vs C (.mk 1 k [] [] [] line)=.v k false:=by simp[bV]
theorem OU(C:List Int)(k line:Int):bV vs C (.mk 2 k [] [] [] line)=.v k true:=by simp[bV]
theorem OV(C:List Int)(name:Tx)(line:Int):bV vs C (.mk 3 0 name [] [] line)=.v (EM C (dP vs name).1 (dP vs name).2.ty) (decide ((dP vs name).2.ty=2)):=by simp[bV]
theorem OW(C:List Int)(name:Tx)(y:Ex)(line:Int):bV vs C (.mk 4 0 name [] [y] line)=vV (bV vs C y) λk=>Sr C (dP vs name).1 (dP vs name).2 k:=by simp[bV,AH]
theorem OX(C:List Int)(name field:Tx)(line:Int):bV vs C (.mk 5 0 name field [] line)=.v (EM C (lK vs name field).1 (lK vs name field).2.ty) (decide ((lK vs name field).2.ty=2)):=by simp[bV]
theorem OY(C:List Int)(op line:Int)(y:Ex)(E:6<=op):bV vs C (.mk op 0 [] [] [y] line)=(match bV vs C y with| .f e=>.f e| .v a t=>py op [a] t):=by
 rw[bV];rw[abN (by omega),abN (by omega),abN (by omega),abN (by omega),abN (by omega)];cases h:bV vs C y<;>simp[lL,h]
theorem OZ(C:List Int)(op line:Int)(y z:Ex)(E:6<=op):bV vs C (.mk op 0 [] [] [y,z] line)=(match bV vs C y with| .f e=>.f e| .v a _=>(match bV vs C z with| .f e=>.f e| .v b t=>py op [a,b] t)):=by
 rw[bV];rw[abN (by omega),abN (by omega),abN (by omega),abN (by omega),abN (by omega)];cases h:bV vs C y<;>cases H:bV vs C z<;>simp[lL,h,H]
end
theorem Got.fault{L:List aV}{K S:List Int}{p f:Nat}{A:Int}{e e':Nat}(h:Got L K S p f (.f A) e):Got L K S p f (.f A) e':=h
section
variable {vs:List Vr} {L:List aV} {v:Nat} (D:∀w∈vs,dQ w=true) (I:(v:Int)=eF vs)
include D I
theorem YD{a:Int}(h:ob v a 1=true):a.toNat<v/\0<=a:=by
 unfold ob at h;simp only[Ds,abQ]at h;omega
theorem V3{name:Tx}{w:Vr}(hw:bz vs name=some w)(J:w.arr=true){k:Int}(M:¬(k<w.lo\/w.hi<k)):((dP vs name).1+(k-w.lo)).toNat<v/\0<=(dP vs name).1+(k-w.lo):=by
 have h:=acU (cells:=v) D (by omega) hw J;unfold QP ob ins at h;simp only[Ds,abQ]at h;omega
end
end Go.Am
end
section
namespace Go.Am
open Go Go.Proofs Go.Proofs.Tryz
variable [Inhabited bI]
set_option maxRecDepth 20000
@[simp] def okZ(p:Int×Bool):AV:=.bY [.d (.int .i64 p.1),.d (.bool p.2)]
@[simp] def ahH(p:Int×Int):AV:=.bY [.d (.int .i64 p.1),.d (.int .i64 p.2)]
theorem YE(a b:Int)(E:aI a)(V:aI b):ah ctx 244 [.d (.int .i64 a),.d (.int .i64 b)] []=some (.ret (okZ (jo (a+b))),[]):=by
 have hw:IntKind.i64.wrap (a+b)=(a+b+9223372036854775808)%18446744073709551616-9223372036854775808:=IntKind.wrap_i64 _;unfold aI at E V;rw[agq (by simp)];unfold jo;by_cases D:0<=a<;>by_cases A:0<=b<;>by_cases O:0<=IntKind.i64.wrap (a+b)<;>by_cases N:(-9223372036854775808<=a+b/\a+b<=9223372036854775807)<;>
  first
  |(exfalso;omega)
  |(simp[f244,D,A,O,N];try omega)
theorem Kg(a b:Int)(E:aI a)(V:aI b):ah ctx 243 [.d (.int .i64 a),.d (.int .i64 b)] []=some (.ret (okZ (jo (a-b))),[]):=by
 have hw:IntKind.i64.wrap (a-b)=(a-b+9223372036854775808)%18446744073709551616-9223372036854775808:=IntKind.wrap_i64 _;unfold aI at E V;rw[agp (by simp)];unfold jo;by_cases D:0<=a<;>by_cases A:0<=b<;>by_cases O:0<=IntKind.i64.wrap (a-b)<;>by_cases N:(-9223372036854775808<=a-b/\a-b<=9223372036854775807)<;>
  first
  |(exfalso;omega)
  |(simp[f243,D,A,O,N];try omega)
theorem Ha(a:Int)(E:aI a):ah ctx 277 [.d (.int .i64 a)] []=some (.ret (.d (.int .u64 (a.natAbs:Nat))),[]):=by
 unfold aI at E;rw[agA (by simp)];have D:=IntKind.wrap_u64 a;by_cases h:a<0
 ·have A:IntKind.u64.wrap (-IntKind.u64.wrap a)=(a.natAbs:Nat):=by rw[D,IntKind.wrap_u64];omega
  simp[f277,h,A]
 ·have A:IntKind.u64.wrap a=(a.natAbs:Nat):=by rw[D];omega
  simp[f277,h,A]
theorem Lw(n:Nat)(Ao:n<18446744073709551616)(s:Bool):ah ctx 278 [.d (.int .u64 n),.d (.bool s)] []=some (.ret (okZ (jo (if s=true then-(n:Int)else n))),[]):=by
 rw[agB (by simp)];have D:=IntKind.wrap_i64 (n:Int);unfold jo;cases s
 ·by_cases h:n<=9223372036854775807
  ·have A:(n:Int)<=9223372036854775807:=by omega
   have O:IntKind.i64.wrap (n:Int)=n:=by rw[D];omega
   have N: -9223372036854775808<=(n:Int):=by omega
   simp[f278,A,O,N]
  ·have A:¬(n:Int)<=9223372036854775807:=by omega
   simp[f278,A]
 ·by_cases h:n<=9223372036854775808
  ·have A:(n:Int)<=9223372036854775808:=by omega
   have O:IntKind.i64.wrap (-(IntKind.i64.wrap (n:Int)))= -(n:Int):=by rw[D,IntKind.wrap_i64];omega
   have N: -9223372036854775808<= -(n:Int):=by omega
   have AZ: -(n:Int)<=9223372036854775807:=by omega
   simp[f278,A,O,N,AZ]
  ·have A:¬(n:Int)<=9223372036854775808:=by omega
   have N:¬ -9223372036854775808<= -(n:Int):=by omega
   simp[f278,A,N]
def yp(k:IntKind)(a b:Int):Int:=k.wrap (BitVec.ofInt k.bits a &&& BitVec.ofInt k.bits b).toNat
def Kh(k:IntKind)(a b:Int):Int:=k.wrap (BitVec.ofInt k.bits a ||| BitVec.ofInt k.bits b).toNat
theorem EP(k:IntKind)(a b:Int):eP .and k a b=some (true,.int k (yp k a b)):=rfl
theorem V4(k:IntKind)(a b:Int):eP .or k a b=some (true,.int k (Kh k a b)):=rfl
theorem alF(a:Nat)(E:a<18446744073709551616):yp .u64 (a:Int) 4294967295=((a%4294967296:Nat):Int):=by
 show IntKind.u64.wrap (BitVec.ofInt 64 (a:Int) &&& BitVec.ofInt 64 4294967295).toNat=_;have e:(BitVec.ofInt 64 (a:Int) &&& BitVec.ofInt 64 4294967295).toNat=a%4294967296:=by
  rw[BitVec.toNat_and,BitVec.toNat_ofInt,BitVec.toNat_ofInt];have A_:((a:Int)%((2^64:Nat):Int)).toNat=a:=by omega
  have Aa:((4294967295:Int)%((2^64:Nat):Int)).toNat=4294967295:=by decide
  rw[A_,Aa];exact Nat.and_two_pow_sub_one_eq_mod a 32
 rw[e,IntKind.wrap_u64];omega
theorem V5(x y:Nat)(A4:x<18446744073709551616)(A5:y<18446744073709551616):
 ah ctx 276 [.d (.int .u64 x),.d (.int .u64 y)] []=some (.ret (.bY [.d (.int .u64 (x*y/18446744073709551616:Nat)),.d (.int .u64 (x*y%18446744073709551616:Nat))]),[]):=by
 have A6:∀a:Nat,a<18446744073709551616->yp .u64 (a:Int) 4294967295=((a%4294967296:Nat):Int):=λa E=>alF a E;have Z:∀a:Nat,(a:Int).fdiv 4294967296=((a/4294967296:Nat):Int):=λa=>by rw[Int.fdiv_eq_ediv_of_nonneg _ (by decide)];omega
 have mul':∀a b:Nat,(a:Int)*(b:Int)=((a*b:Nat):Int):=λa b=>(Int.natCast_mul a b).symm;have A1:∀a b:Nat,(a:Int)+(b:Int)=((a+b:Nat):Int):=λa b=>(Int.natCast_add a b).symm;have T:∀a:Nat,a<18446744073709551616->IntKind.u64.wrap (a:Int)=(a:Int):=λa h=>by rw[IntKind.wrap_u64];omega
 have AJ:∀a:Nat,IntKind.u64.wrap (a:Int)=((a%18446744073709551616:Nat):Int):=λa=>by rw[IntKind.wrap_u64];omega
 obtain⟨A2,A',A0,U⟩:=Lib.mul64_hi x y A4 A5;have A7:=Lib.half_mul_le (a:=x/4294967296) (b:=y/4294967296) (by omega) (by omega);have A8:=Lib.half_mul_le (a:=x/4294967296) (b:=y%4294967296) (by omega) (by omega);have A9:=Lib.half_mul_le (a:=x%4294967296) (b:=y/4294967296) (by omega) (by omega);have AK:=A6 x A4;have AL:=A6 y A5;have f1:=Z x;have f2:=Z y;have Ab:x%4294967296<4294967296:=by omega
 have Ac:x/4294967296<4294967296:=by omega
 have Ad:y%4294967296<4294967296:=by omega
 have Ae:y/4294967296<4294967296:=by omega
 have AM:IntKind.u64.wrap ((x:Int)*(y:Int))=((x*y%18446744073709551616:Nat):Int):=by rw[mul',AJ]
 have AN:x*y/18446744073709551616<18446744073709551616:=by
  have:x*y<18446744073709551616*18446744073709551616:=Nat.mul_lt_mul_of_lt_of_lt A4 A5;omega
 generalize x*y%18446744073709551616=lo at AM⊢;generalize x*y/18446744073709551616=hi at U AN⊢;generalize x%4294967296=H at A2 A' A0 U A7 A8 A9 AK Ab;generalize x/4294967296=I at A2 A' A0 U A7 A8 A9 f1 Ac;generalize y%4294967296=J at A2 A' A0 U A7 A8 A9 AL Ad;generalize y/4294967296=M at A2 A' A0 U A7 A8 A9 f2 Ae;generalize AO:I*J+H*J/4294967296=t at A' A0 U;generalize AP:t%4294967296+H*M=AA at A0 U;have AQ:IntKind.u64.wrap ((H:Int)*(J:Int))=((H*J:Nat):Int):=by rw[mul',T _ A2]
 have AR:IntKind.u64.wrap ((I:Int)*(J:Int))=((I*J:Nat):Int):=by rw[mul',T _ (by omega)]
 have AD:IntKind.u64.wrap (((I*J:Nat):Int)+((H*J/4294967296:Nat):Int))=(t:Int):=by rw[A1,AO,T _ A']
 have AS:IntKind.u64.wrap ((H:Int)*(M:Int))=((H*M:Nat):Int):=by rw[mul',T _ (by omega)]
 have AE:IntKind.u64.wrap (((t%4294967296:Nat):Int)+((H*M:Nat):Int))=(AA:Int):=by rw[A1,AP,T _ A0]
 have AT:IntKind.u64.wrap ((I:Int)*(M:Int))=((I*M:Nat):Int):=by rw[mul',T _ (by omega)]
 have AB:IntKind.u64.wrap (((I*M:Nat):Int)+((t/4294967296:Nat):Int))=((I*M+t/4294967296:Nat):Int):=by rw[A1,T _ (by omega)]
 have AC:IntKind.u64.wrap (((I*M+t/4294967296:Nat):Int)+((AA/4294967296:Nat):Int))=(hi:Int):=by rw[A1,U,T _ AN]
 have Af:=λa=>Z a;have mt:=A6 t A';rw[agz (by simp)];have f3:=Z t;have f4:=Z AA;have f5:=Z (H*J);clear Af A6 Z A1 T AJ AO AP U;generalize Ap:H*J/4294967296=Aq at AD f5;generalize Ar:H*J=As at AQ f5;generalize At:I*J=Au at AR AD;generalize Av:H*M=Aw at AS AE;generalize Ax:t/4294967296=Ag at AB AC f3;generalize Ay:t%4294967296=Az at AE mt;generalize B':AA/4294967296=wd at AC f4;generalize B0:I*M+Ag=B1 at AB AC;generalize B2:I*M=B3 at AT AB;simp[f276, -eP.eq_6,EP,Ci,IntKind.bits,AK,AL,f1,f2,f3,f4,f5,mt,AQ,AR,AD,AS,AE,AT,AB,AC,AM]
theorem YF(a b:Int)(E:aI a)(V:aI b):ah ctx 245 [.d (.int .i64 a),.d (.int .i64 b)] []=some (.ret (okZ (jo (a*b))),[]):=by
 have AU:=Ha a E;have AW:=Ha b V;unfold aI at E V;have Ah:a.natAbs<18446744073709551616:=by omega
 have Ai:b.natAbs<18446744073709551616:=by omega
 have hm:=V5 _ _ Ah Ai;have AX:=acI a b;have AY:=λs=>Lw (a.natAbs*b.natAbs%18446744073709551616) (by omega) s;generalize A4:a.natAbs=x at*;generalize A5:b.natAbs=y at*;have mul':((x*y:Nat):Int)=(x:Int)*(y:Int):=Int.natCast_mul x y;generalize x*y=p at*;have A3:(a<0↔b<0)=(decide (a<0)=decide (b<0)):=by simp
 rw[agr (by simp)];have AF:¬p/18446744073709551616=0->jo (a*b)=(0,false):=by
  intro h;unfold jo;rw[abN];rw[AX];split<;>omega
 by_cases AG:p/18446744073709551616=0
 ·have Aj:p%18446744073709551616=p:=by omega
  rw[Aj]at AY hm;rw[AG]at hm;have e:(if (decide (a<0) != decide (b<0))=true then-(p:Int)else (p:Int))=a*b:=by
   rw[AX];by_cases h:decide (a<0)=decide (b<0)<;>simp[h]
  have AH:=AY (decide (a<0) != decide (b<0));rw[e]at AH;try simp at hm
  try simp at AH
  simp[f245,AU,AW,hm,AH]
 ·have AF:=AF AG;have Ak:¬((p/18446744073709551616:Nat):Int)=0:=by omega
  generalize p/18446744073709551616=q at*;generalize p%18446744073709551616=r at*;try simp at hm
  simp[f245,AU,AW,hm,AF,AG,Ak]
theorem YG(a b:Int)(E:aI a)(V:aI b):ah ctx 246 [.d (.int .i64 a),.d (.int .i64 b)] []=some (.ret (ahH (vJ a b)),[]):=by
 rw[ags (by simp)];unfold vJ;by_cases Y:b=0
 ·simp[f246,Y]
 ·by_cases D:a= -9223372036854775808
  ·by_cases A:b= -1
   ·simp[f246,Y,D,A]
   ·have w:IntKind.i64.wrap (a.tdiv b)=a.tdiv b:=aH (by
     have AI:=CL a b;unfold aI at*;have hle:a.natAbs/b.natAbs<=9223372036854775808:=by
      have:=Nat.div_le_self a.natAbs b.natAbs;omega
     have Al:decide (a<0)=decide (b<0)->a.natAbs/b.natAbs<=4611686018427387904:=by
      intro A3;rw[D]at A3;simp at A3;have An:2<=b.natAbs:=by omega
      have O:=Nat.div_le_div_left An (by decide) (a:=a.natAbs);have N:a.natAbs=9223372036854775808:=by omega
      rw[N]at O⊢;exact O
     generalize a.natAbs/b.natAbs=q at*;split at AI
     ·rename_i A3;have:=Al A3;omega
     ·omega)
    rw[D]at w;simp at w;simp[f246,Y,D,A,w]
  ·have w:IntKind.i64.wrap (a.tdiv b)=a.tdiv b:=aH (by
    have AI:=CL a b;unfold aI at*;have hle:a.natAbs/b.natAbs<=a.natAbs:=Nat.div_le_self _ _;generalize a.natAbs/b.natAbs=q at*;split at AI<;>omega)
   simp[f246,Y,D,w]
theorem YH(a b:Int)(E:aI a)(V:aI b):ah ctx 247 [.d (.int .i64 a),.d (.int .i64 b)] []=some (.ret (ahH (xX a b)),[]):=by
 rw[agt (by simp)];unfold xX;by_cases Y:b=0
 ·simp[f247,Y]
 ·by_cases A:b= -1
  ·simp[f247,Y,A]
  ·simp[f247,Y,A]
theorem pz(b:Bool):ah ctx 167 [.d (.bool b)] []=some (.ret (.d (.int .i64 (dk b))),[]):=by
 rw[af2 (by simp)];cases b<;>simp[f167,dk]
@[simp] theorem wr0:IntKind.i64.wrap 0=0:=rfl
@[simp] theorem wr1:IntKind.i64.wrap 1=1:=rfl
@[simp] theorem wr2:IntKind.i64.wrap 2=2:=rfl
@[simp] theorem wr3:IntKind.i64.wrap 3=3:=rfl
@[simp] theorem wr4:IntKind.i64.wrap 4=4:=rfl
@[simp] theorem aBN:IntKind.i64.wrap (-1)= -1:=rfl
@[simp] theorem wu0:IntKind.u64.wrap 0=0:=rfl
@[simp] theorem wu1:IntKind.u64.wrap 1=1:=rfl
theorem V6(op a:Int)(t:Bool)(A:aI a)(V:t=true->a=0\/a=1):ah ctx 191 [.d (.int .i64 op),.d (.int .i64 a),.d (.bool t)] []=some (.ret (BY (kh op a t)),[]):=by
 have T:=Kg 0 a (by unfold aI;omega) A;rw[af6 (by simp)];unfold kh;generalize jo (0-a)=p at*;cases t
 ·by_cases U:op=6
  ·simp at T;cases D:p.2<;>simp[f191,U,D,T,qp]
  ·simp[f191,U,jC]
 ·rcases V rfl with rfl|rfl<;>by_cases J:op=7
  ·simp[f191,J,dk,wr0,wr1]
  ·simp[f191,J,jC]
  ·simp[f191,J,dk,wr0,wr1]
  ·simp[f191,J,jC]
theorem Kj(op a b:Int)(A:a=0\/a=1)(E:b=0\/b=1):ah ctx 192 [.d (.int .i64 op),.d (.int .i64 a),.d (.int .i64 b)] []=some (.ret (BY (CM op a b)),[]):=by
 have Y:yp .i64 0 0=0:=by decide
 have Z:yp .i64 0 1=0:=by decide
 have q:yp .i64 1 0=0:=by decide
 have y:yp .i64 1 1=1:=by decide
 have A':Kh .i64 0 0=0:=by decide
 have A0:Kh .i64 0 1=1:=by decide
 have A1:Kh .i64 1 0=1:=by decide
 have A2:Kh .i64 1 1=1:=by decide
 rw[af7 (by simp)];unfold CM;have I:op=13\/op=14\/op=20\/op=19\/op=21\/(op≠13/\op≠14/\op≠20/\op≠19/\op≠21):=by omega
 rcases A with rfl|rfl<;>rcases E with rfl|rfl<;>rcases I with rfl|rfl|rfl|rfl|rfl|⟨A3,A4,H,A5,A6⟩<;>
  simp[f192,pz, -eP.eq_6, -eP.eq_7,EP,V4,dk,jC, *]
theorem Kk(op a b:Int)(h:13<=op/\op<=18):ah ctx 194 [.d (.int .i64 op),.d (.int .i64 a),.d (.int .i64 b)] []=some (.ret (BY (Ao op a b)),[]):=by
 rw[af9 (by simp)];unfold Ao;have I:op=13\/op=14\/op=15\/op=16\/op=17\/op=18:=by omega
 rcases I with rfl|rfl|rfl|rfl|rfl|rfl<;>simp[f194,pz,bne]
theorem Kl(op a b:Int)(h:8<=op/\op<=12)(A:aI a)(E:aI b):ah ctx 193 [.d (.int .i64 op),.d (.int .i64 a),.d (.int .i64 b)] []=some (.ret (BY (Ao op a b)),[]):=by
 have q1:=YE a b A E;have q2:=Kg a b A E;have q3:=YF a b A E;have M:=YG a b A E;have N:=YH a b A E;have I:op=8\/op=9\/op=10\/op=11\/op=12:=by omega
 rw[af8 (by simp)];unfold Ao;generalize jo (a+b)=f1 at*;generalize jo (a-b)=f2 at*;generalize jo (a*b)=f3 at*;generalize vJ a b=f4 at*;generalize xX a b=f5 at*;simp at q1 q2 q3 M N;rcases I with rfl|rfl|rfl|rfl|rfl
 ·cases D:f1.2<;>simp[f193,q1,D,qp]
 ·cases D:f2.2<;>simp[f193,q2,D,qp]
 ·cases D:f3.2<;>simp[f193,q3,D,qp]
 ·by_cases H:f4.2=3
  ·simp[f193,M,H,oq]
  ·by_cases O:f4.2=0<;>simp[f193,M,O,H,oq]
 ·by_cases H:f5.2=3
  ·simp[f193,N,H,oq]
  ·by_cases O:f5.2=0<;>simp[f193,N,O,H,oq]
@[simp] def jD(n:Int):D:=.int .i64 n
theorem sM(b:Bool):ah ctx 128 [.d (.bool b)] []=some (.ret (.d (.int .i64 (dk b))),[]):=by
 rw[afP (by simp)];cases b<;>simp[f128,dk]
theorem ac5(a b q e:Int)(he:aI e)(I:aI b):ah ctx 195 [.ptr 0 0 0] [.box [.vec 1 0 0 4],.vec 1 [.int .i64 a,.int .i64 b,.int .i64 q,.int .i64 e]]=
 some (.ret (.bY []),[(0,.box [.vec 1 0 0 4]),(0,.vec 1 [.int .i64 a,.int .i64 b,.int .i64 q,.int .i64 (yL e b)])]):=by
 rw[Vx (by simp)];unfold yL;by_cases h:e<b
 ·have w:IntKind.i64.wrap (e+1)=e+1:=aH (by unfold aI at*;omega);simp[f195,h,w,aj]
 ·simp[f195,h,aj]
theorem ac6(a b q e p r:Int)(he:aI e)(I:aI b):ah ctx 195 [.ptr 0 0 0] [.box [.vec 1 0 0 6],.vec 1 [.int .i64 a,.int .i64 b,.int .i64 q,.int .i64 e,.int .i64 p,.int .i64 r]]=
 some (.ret (.bY []),[(0,.box [.vec 1 0 0 6]),(0,.vec 1 [.int .i64 a,.int .i64 b,.int .i64 q,.int .i64 (yL e b),.int .i64 p,.int .i64 r])]):=by
 rw[Vx (by simp)];unfold yL;by_cases h:e<b
 ·have w:IntKind.i64.wrap (e+1)=e+1:=aH (by unfold aI at*;omega);simp[f195,h,w,aj]
 ·simp[f195,h,aj]
theorem ER(k a b q e:Int)(N:k=10\/k=11)(he:aI e)(I:aI b):ah ctx 126 [.d (.int .i64 k),.vec 0 0 0 4] [.vec 1 [.int .i64 a,.int .i64 b,.int .i64 q,.int .i64 e]]=
 some (.ret (.bY []),[(0,.vec 1 ((sG k a b q e).map jD))]):=by
 have hu:=ac5 a b q e he I;have A:=sM;unfold sG;generalize yL e b=u at*;rw[Vt (by simp)];rcases N with rfl|rfl
 ·by_cases h:a=0<;>simp[f126,h,hu,A,aj]
 ·by_cases h:a=0
  ·subst h;by_cases O:q=0<;>simp[f126,O,hu,A,aj]
  ·simp[f126,h,hu,A,aj]
set_option maxHeartbeats 4000000 in
theorem Sw(a b q e p r:Int)(he:aI e)(I:aI b):ah ctx 126 [.d (.int .i64 12),.vec 0 0 0 6] [.vec 1 [.int .i64 a,.int .i64 b,.int .i64 q,.int .i64 e,.int .i64 p,.int .i64 r]]=
 some (.ret (.bY []),[(0,.vec 1 ((oa 12 a b q e p r).map jD))]):=by
 have hu:=λa q e p r he=>ac6 a b q e p r he I;have A:=sM;unfold oa ZQ;rw[Vt (by simp)];have T:aI 0:=by unfold aI;omega
 by_cases E:a=0
 ·subst E;by_cases H:r=0
  ·simp[f126,H,A,aj,bne]
  ·by_cases J:e<b<;>simp[f126,H,A,hu,he,J,aj,bne]
 ·by_cases H:r=0
  ·subst H;by_cases M:p=0
   ·subst M;by_cases J:0<b<;>simp[f126,E,A,hu,T,J,aj,bne]
   ·simp[f126,E,M,A,aj,bne]
  ·by_cases M:p=0
   ·subst M;by_cases J:e<b<;>simp[f126,E,H,A,hu,he,J,aj,bne]
   ·by_cases J:e<b<;>simp[f126,E,H,M,A,hu,he,J,aj,bne]
set_option maxHeartbeats 4000000 in
theorem B6(k a b q e p r:Int)(N:k=13\/k=14)(he:aI p):ah ctx 127 [.d (.int .i64 k),.vec 0 0 0 6] [.vec 1 [.int .i64 a,.int .i64 b,.int .i64 q,.int .i64 e,.int .i64 p,.int .i64 r]]=
 some (.ret (.bY []),[(0,.vec 1 ((oa k a b q e p r).map jD))]):=by
 have A:=sM;unfold oa ZR ZS;unfold aI at he;rw[afO (by simp)];rcases N with rfl|rfl
 ·by_cases I:b=0
  ·by_cases E:a=0
   ·simp[f127,E,I,A,aj,bne]
   ·by_cases H:r=0
    ·by_cases J:p<9223372036854775807
     ·have w:IntKind.i64.wrap (p+1)=p+1:=aH (by unfold aI at*;omega);simp[f127,E,I,H,J,w,A,aj,bne]
     ·simp[f127,E,I,H,J,A,aj,bne]
    ·simp[f127,E,I,H,A,aj,bne]
  ·by_cases E:a=0<;>by_cases H:r=0<;>simp[f127,E,I,H,A,aj,bne]
 ·by_cases I:b=0
  ·by_cases E:a=0
   ·simp[f127,E,I,A,aj,bne]
   ·by_cases H:r=0
    ·by_cases J: -9223372036854775808<p
     ·have w:IntKind.i64.wrap (p-1)=p-1:=aH (by unfold aI at*;omega);simp[f127,E,I,H,J,w,A,aj,bne]
     ·simp[f127,E,I,H,J,A,aj,bne]
    ·simp[f127,E,I,H,A,aj,bne]
  ·by_cases E:a=0<;>by_cases H:r=0<;>simp[f127,E,I,H,A,aj,bne]
theorem FU{s:Tx}{w:Vr}:∀(l:List Vr)(n:Int)(a:Nat),bz l s=some w->∃i:Nat,jr (λv:Vr=>decide (v.name=s)) l a=((a+i:Nat):Int)/\l[i]?=some w/\(nD l n)[i]?=some (EH l s n).1
 |[],_,_,h=>by simp[bz]at h
 |v::r,n,a,h=>by
  simp only[bz]at h;simp only[jr,nD,EH];by_cases J:v.name=s
  ·rw[abT J]at h;cases h;exact⟨0,by simp[J],rfl,by simp[J]⟩
  ·rw[abN J]at h;obtain⟨i,A,E,M⟩:=FU r (n+cq v) (a+1) h;refine⟨i+1,?_,by simpa using E,?_⟩
   ·simp only[J,decide_false,ahG,ad0];rw[A];congr 1;omega
   ·rw[abN J];simpa using M
theorem uh:∀(l:List Vr)(n:Int),(nD l n).length=l.length
 |[],_=>rfl
 |v::r,n=>by simp[nD,uh r]
def ES(v:Vr):D:=.list ((bC v.ty).map de)
@[simp] def rnB(p:Pg)(C:List Int)(f v:Nat):ay:=.box [.d (.str p.name),.d (.list (p.vars.map bx)),.d (.list (p.body.map cK)),.d (.list ((nD p.vars 0).map lj)),.vec 1 0 0 p.vars.length,.vec 2 v 0 C.length,.d (.int .i64 f)]
@[simp] def jv(p:Pg)(C:List Int)(f:Nat):List ay:=[rnB p C f 0,.vec 1 (p.vars.map ES),.vec 1 (C.map jD)]
@[simp] def pS(p:Pg)(C:List Int)(f v:Nat):List (Nat×ay):=[(0,rnB p C f v),(0,.vec 1 (p.vars.map ES)),(v,.vec 1 (C.map jD))]
def lq(e:Int):D:=.agg [.int .i64 e]
section
variable {p:Pg} (H:p.vars.length<=1000)
include H
theorem B7(s:Tx)(C:List Int)(f:Nat):ah ctx 250 [.ptr 0 0 0,.d (.str s)] (jv p C f)=some (.ret (.d (.int .i64 (jr (λv:Vr=>decide (v.name=s)) p.vars 0))),pS p C f 0):=by
 have h:=ac2 s p.vars (by omega);rw[agu (by simp)];try simp at h
 simp[f250,h]
theorem sX{s:Tx}{w:Vr}(N:bz p.vars s=some w)(C:List Int)(f:Nat):ah ctx 202 [.ptr 0 0 0,.d (.str s)] (jv p C f)=some (.ret (.bY [.d (.int .i64 (dP p.vars s).1),.d (bx w)]),pS p C f 0):=by
 have h:=B7 H s C f;obtain⟨i,A,E,M⟩:=FU p.vars 0 0 N;rw[aeF]at A;rw[A]at h;have hi:=(abM.1 E).1;have T:i<(nD p.vars 0).length:=by rw[uh];exact hi
 have g2:p.vars[i]=w:=(abM.1 E).2;have g3:(nD p.vars 0)[i]=(dP p.vars s).1:=(abM.1 M).2;rw[aga (by simp)];simp at h;have A0:=uh p.vars 0;simp[f202,h,aj,hi,T,g2,g3,bx,dK]
theorem V7{s fl:Tx}{w:Vr}{q:Pn}(N:bz p.vars s=some w)(U:2<w.ty)(A1:l7 w.ty fl=some q)(A9:0<=(dP p.vars s).1/\(dP p.vars s).1<=100000)(C:List Int)(f:Nat):ah ctx 206 [.ptr 0 0 0,.d (.str s),.d (.str fl)] (jv p C f)=some (.ret (.bY [.d (.int .i64 (lK p.vars s fl).1),.d (de q)]),pS p C f 0):=by
 have h:=B7 H s C f;obtain⟨i,A,E,M⟩:=FU p.vars 0 0 N;rw[aeF]at A;rw[A]at h;have hi:=(abM.1 E).1;have T:i<(nD p.vars 0).length:=by rw[uh];exact hi
 have g2:p.vars[i]=w:=(abM.1 E).2;have g3:(nD p.vars 0)[i]=(dP p.vars s).1:=(abM.1 M).2;have AA:=Ax w.ty;obtain⟨q0,AB,j,y,_,AC⟩:=J5 (i:=0) A1;have A':=J9 fl (bC w.ty) 0;rw[y]at A';obtain⟨A2,_,V⟩:=A';rw[Nat.sub_zero]at V;have A3:(lK p.vars s fl).1=(dP p.vars s).1+j:=by
  unfold lK;rw[N,ou N,abT ⟨rfl,U,q0⟩,y]
 have Y:=ac3 fl (bC w.ty) (by omega);rw[A2]at Y;have A4:=(abM.1 V).1;have A5:(bC w.ty)[j]=q:=(abM.1 V).2;have AD:(p.vars.map ES)[i]'(by simpa using hi)=.list ((bC w.ty).map de):=by simp[g2,ES]
 have O:IntKind.i64.wrap ((dP p.vars s).1+(j:Int))=(dP p.vars s).1+(j:Int):=aH (by unfold aI;omega);rw[age (by simp),A3];simp at h Y;have A0:=uh p.vars 0;simp[f206,h,aj,hi,T,g2,g3,ES,Y,A4,A5,O,de]
omit H in
theorem lZ(C:List Int)(f:Nat)(AE:f<=1000000):ah ctx 142 [.ptr 0 0 0] (jv p C f)=if f=0 then some (.panic 103 (lq 4),pS p C 0 0)else some (.ret (.bY []),pS p C (f-1) 0):=by
 rw[afQ (by simp)];by_cases h:f=0
 ·subst h;simp[f142,lq]
 ·have A6:¬((f:Int)=0):=by omega
  have O:IntKind.i64.wrap ((f:Int)-1)=((f-1:Nat):Int):=by rw[show (f:Int)-1=((f-1:Nat):Int) by omega];exact aH (by unfold aI;omega)
  simp[f142,h,A6,O]
omit H in
theorem YI(b:Bool):ah ctx 306 [.d (.bool b)] []=some (.ret (.d (.int .i64 (dk b))),[]):=by
 rw[agF (by simp)];cases b<;>simp[f306,dk]
omit H in
theorem FV(C:List Int)(f:Nat){a t:Int}(I:0<=a/\a.toNat<C.length):ah ctx 282 [.ptr 0 0 0,.d (.int .i64 a),.d (.int .i64 t)] (jv p C f)=some (.ret (.d (.int .i64 (EM C a t))),pS p C f 0):=by
 obtain⟨n,rfl⟩:∃n:Nat,a=n:=⟨a.toNat,by omega⟩;obtain⟨_,I⟩:=I;simp only[Int.toNat_natCast]at I;have A7:jZ C (n:Int)=C[n]:=by unfold jZ;simp[I]
 have U:=λb=>YI b;rw[agD (by simp)];unfold EM;rw[A7];by_cases h:t=2
 ·simp[f282,h,I,U,aj];by_cases Z:C[n]=0
  ·simp[Z]
  ·simp[Z];exact aeK dk (bne_iff_ne.2 Z)
 ·simp[f282,h,I,aj]
omit H in
theorem Hb{a n:Int}{w:Vr}(I:0<=a/\a<=100000)(hw:0<=w.lo/\w.hi<=255):ah ctx 204 [.d (.int .i64 a),.d (bx w),.d (.int .i64 n)] []=if n<w.lo\/w.hi<n then some (.panic 103 (lq 3),[])else some (.ret (.d (.int .i64 (a+(n-w.lo)))),[]):=by
 rw[agc (by simp)];by_cases A:n<w.lo
 ·simp[f204,bx,dK,A,lq]
 ·by_cases E:w.hi<n
  ·simp[f204,bx,dK,A,E,lq]
  ·have O:IntKind.i64.wrap (n-w.lo)=n-w.lo:=aH (by unfold aI;omega);have A8:IntKind.i64.wrap (a+(n-w.lo))=a+(n-w.lo):=aH (by unfold aI;omega);simp[f204,bx,dK,A,E,O,A8]
end
theorem B8(op a:Int)(t:Bool)(J:aI a):ah ctx 125 [.d (.int .i64 op),.d (.list [.int .i64 a]),.d (.bool t)] []=some (.ret (BY (kh op a t)),[]):=by
 rw[Vs (by simp)];by_cases E:t=true/\a≠0/\a≠1
 ·obtain⟨rfl,O,A⟩:=E;simp[f125];rw[ag];simp[O,A,kh,jC]
 ·have A:=V6 op a t J (by intro h;subst h;simp at E;omega);have T:(t&&(a != 0))=true->a=1:=by simp;intro A D;simp[A]at E;exact E D
  generalize kh op a t=p at*;simp at A;cases t
  ·simp[f125];rw[ag];simp;rw[ag];simp[A]
  ·have U:a=0\/a=1:=by simp at T;omega
   rcases U with rfl|rfl
   ·simp[f125];rw[ag];simp;rw[ag];simp[A]
   ·simp[f125];rw[ag];simp;rw[ag];simp[A]
theorem qN(op a b:Int)(t:Bool)(J:aI a)(E:aI b):ah ctx 125 [.d (.int .i64 op),.d (.list [.int .i64 a,.int .i64 b]),.d (.bool t)] []=some (.ret (BY (ik op a b t)),[]):=by
 rw[Vs (by simp)];have cmp:=λh=>Kk op a b h;have V:=λh=>Kl op a b h J E;have ru:=λA D=>Kj op a b A D;unfold ik;cases t
 ·have Y:¬(8<=op/\op<=12)->¬(13<=op/\op<=18)->Ao op a b=jC:=by
   intro A D;unfold Ao;simp only[show ¬op=8 by omega,show ¬op=9 by omega,show ¬op=10 by omega,show ¬op=11 by omega,show ¬op=12 by omega,show ¬op=13 by omega,show ¬op=14 by omega,show ¬op=15 by omega,show ¬op=16 by omega,show ¬op=17 by omega,show ¬op=18 by omega,ad0]
  generalize Ao op a b=p at*;simp[f125];rw[ag];simp;rw[ag];simp;rw[ag];simp;by_cases A:8<=op/\op<=12
  ·have r:=V A;simp at r;simp[A.1,A.2,r,aj]
  ·by_cases D:13<=op/\op<=18
   ·have r:=cmp D;have H:¬op<=12:=by omega
    have I:8<=op:=by omega
    simp at r;simp[D.1,D.2,H,I,r,aj]
   ·have Z:=Y A D;subst Z;by_cases N:8<=op
    ·have q:¬op<=12:=by omega
     have M:13<=op:=by omega
     have y:¬op<=18:=by omega
     simp[N,q,M,y,jC]
    ·have M:¬13<=op:=by omega
     simp[N,M,jC]
 ·by_cases A:a=0\/a=1
  ·by_cases D:b=0\/b=1
   ·have r:=ru A D;generalize CM op a b=p at*;rcases A with rfl|rfl<;>rcases D with rfl|rfl<;>
     (simp at r
      simp[f125];rw[ag];simp;rw[ag];simp;rw[ag];simp[r,aj])
   ·have H:¬b=0:=by omega
    have I:¬b=1:=by omega
    rcases A with rfl|rfl<;>
     (simp[f125]
      rw[ag];simp;rw[ag];simp[H,I,jC])
  ·have H:¬a=0:=by omega
   have I:¬a=1:=by omega
   simp[f125];rw[ag];simp[H,I,jC]
end Go.Am
end
section
namespace Go.Am
open Go Go.Proofs
variable [Inhabited bI]
set_option maxRecDepth 20000
def ahJ(f:Nat)(A:Int->Nat):Prop:=∀b:Int,∃l:List D,ah ctx f [.d (.int .i64 b)] []=some (.ret (.d (.list l)),[])/\l.length=A b/\A b<=100
end Go.Am
end
section
namespace Go.Am
open Go Go.Proofs Go.Proofs.Tryz
variable [Inhabited bI]
set_option maxRecDepth 20000
def eW:Option (Out×List (Nat×ay))->Option Nat
 |some (.ret (.d (.list l)),[])=>some l.length
 |_=>none
theorem LA{r:Option (Out×List (Nat×ay))}{n:Nat}(h:eW r=some n):∃l,r=some (.ret (.d (.list l)),[])/\l.length=n:=by
 unfold eW at h;split at h
 ·rename_i l;exact⟨l,rfl,by simpa using h⟩
 ·cases h
theorem eL{f:FuncId}{b:Int}{n:Nat}(h:eW (aK ctx 120 f [.d (.int .i64 b)] [])=some n):∃l:List D,ah ctx f [.d (.int .i64 b)] []=some (.ret (.d (.list l)),[])/\l.length=n:=by
 obtain⟨l,A,E⟩:=LA h;exact⟨l,bu 120 A,E⟩
theorem ahK:eW (aK ctx 120 54 [.d (.int .i64 10)] [])=some 4:=by kernel_rfl
theorem ahL:eW (aK ctx 120 54 [.d (.int .i64 11)] [])=some 4:=by kernel_rfl
theorem ahM:eW (aK ctx 120 54 [.d (.int .i64 12)] [])=some 6:=by kernel_rfl
theorem ahN:eW (aK ctx 120 54 [.d (.int .i64 13)] [])=some 6:=by kernel_rfl
theorem ahO:eW (aK ctx 120 54 [.d (.int .i64 14)] [])=some 6:=by kernel_rfl
theorem ahP:eW (aK ctx 120 54 [.d (.int .i64 15)] [])=some 3:=by kernel_rfl
theorem ahQ:eW (aK ctx 120 54 [.d (.int .i64 16)] [])=some 3:=by kernel_rfl
theorem ahR:eW (aK ctx 120 54 [.d (.int .i64 17)] [])=some 3:=by kernel_rfl
theorem ahS:eW (aK ctx 120 54 [.d (.int .i64 18)] [])=some 3:=by kernel_rfl
theorem ahT:eW (aK ctx 120 54 [.d (.int .i64 20)] [])=some 4:=by kernel_rfl
theorem ahU:eW (aK ctx 120 54 [.d (.int .i64 21)] [])=some 9:=by kernel_rfl
theorem ahV:eW (aK ctx 120 54 [.d (.int .i64 22)] [])=some 9:=by kernel_rfl
theorem ahW:eW (aK ctx 120 54 [.d (.int .i64 23)] [])=some 9:=by kernel_rfl
theorem ahX:eW (aK ctx 120 54 [.d (.int .i64 24)] [])=some 12:=by kernel_rfl
theorem ahY:eW (aK ctx 120 54 [.d (.int .i64 25)] [])=some 12:=by kernel_rfl
theorem ahZ:eW (aK ctx 120 54 [.d (.int .i64 26)] [])=some 12:=by kernel_rfl
theorem ah0:eW (aK ctx 120 54 [.d (.int .i64 27)] [])=some 10:=by kernel_rfl
theorem ah1:eW (aK ctx 120 54 [.d (.int .i64 28)] [])=some 12:=by kernel_rfl
theorem ah2:eW (aK ctx 120 54 [.d (.int .i64 29)] [])=some 5:=by kernel_rfl
theorem ah3:eW (aK ctx 120 54 [.d (.int .i64 30)] [])=some 6:=by kernel_rfl
theorem ah4:eW (aK ctx 120 54 [.d (.int .i64 31)] [])=some 4:=by kernel_rfl
def rQ:List Int:=[10,11,12,13,14,15,16,17,18,20,21,22,23,24,25,26,27,28,29,30,31]
def nb:D->Option Int
 | .agg [.int .i64 k,.str _,.str _,.str _,.int .i64 _]=>some k
 |_=>none
theorem AK{d:D}{k:Int}(h:nb d=some k):∃a b c n,d=.agg [.int .i64 k,.str a,.str b,.str c,.int .i64 n]:=by
 unfold nb at h;split at h
 ·rename_i A' a b c n;cases h;exact⟨a,b,c,n,rfl⟩
 ·cases h
def Km:Option (Out×List (Nat×ay))->Option (List (Option Int))
 |some (.ret (.d (.list l)),[])=>some (l.map nb)
 |_=>none
theorem YJ:Km (aK ctx 120 137 [] [])=some (rQ.map some):=by kernel_rfl
theorem Sx:∃l:List D,ah ctx 137 [] []=some (.ret (.d (.list l)),[])/\l.map nb=rQ.map some:=by
 have h:=YJ;generalize U:aK ctx 120 137 [] []=r at h;unfold Km at h;split at h
 ·rename_i l;exact⟨l,bu 120 U,by simpa using h⟩
 ·cases h
theorem Sy(d:D)(k b:Int)(I:nb d=some k):ah ctx 139 [.d d,.ptr 0 0 0] [.box [.d (.int .i64 b)]]=some (.ret (.d (.bool (decide (k=b)))),[(0,.box [.d (.int .i64 b)])]):=by
 obtain⟨a,e,c,n,rfl⟩:=AK I;rw[Vv (by simp)];simp[f139]
theorem yR(b:Int):∀(rest pre:List D),(∀d∈rest,∃k,nb d=some k/\k≠b)->(pre++rest).length<1000->∀k:Kt,
 aN ctx 138 (.loop (Code.at (bq f138) [1,0,1,0,0])) ⟨19,aC,[(0,true,.d (.list (pre++rest))),(1,true,.fn 139 [.ptr 0 0 0]),(7,true,.d (.int .i64 (pre++rest).length)),(8,true,.d (.int .i64 pre.length))],[⟨0,0,.box [.d (.int .i64 b)]⟩]⟩ k=
  k (.exit 0) ⟨19,aC,[(0,true,.d (.list (pre++rest))),(1,true,.fn 139 [.ptr 0 0 0]),(7,true,.d (.int .i64 (pre++rest).length)),(8,true,.d (.int .i64 (pre++rest).length)),(9,true,.d (.bool false))],[⟨0,0,.box [.d (.int .i64 b)]⟩]⟩
 |[],pre,h,J,k=>by
  rw[ag];simp[f138]
 |d::rest,pre,h,J,k=>by
  obtain⟨N,M,V⟩:=h d (by simp);have O:=Sy d N b M;obtain⟨Y,a2,a3,a4,rfl⟩:=AK M;have ih:=yR b rest (pre++[.agg [.int .i64 N,.str Y,.str a2,.str a3,.int .i64 a4]]) (λd I=>h d (by simp[I])) (by simpa using J) k;have A:(pre.length:Int)<pre.length+(rest.length+1):=by omega
  have E:IntKind.i64.wrap ((pre.length:Int)+1)=pre.length+1:=aH (by unfold aI;simp at J;omega);simp[V]at O;rw[ag];simp[f138]at ih⊢;simp[A,E,O,ih]
theorem V8(b:Int)(H:b∉rQ):ah ctx 54 [.d (.int .i64 b)] []=some (.ret (.d (.list [])),[]):=by
 obtain⟨l,J,hm⟩:=Sx;have A0:l.length=21:=by have:=aeK List.length hm;simpa [rQ]using this
 have Z:∀d∈l,∃k,nb d=some k/\k≠b:=by
  intro d I;have A:nb d∈l.map nb:=ab7 I;rw[hm]at A;obtain⟨k,M,he⟩:=ab4.1 A;exact⟨k,he.symm,λh=>H (h▸M)⟩
 have T:=yR b l [] Z (by simp;omega);have q:ah ctx 138 [.d (.list l),.fn 139 [.ptr 0 0 0]] [.box [.d (.int .i64 b)]]=some (.ret (.d (.int .i64 (-1))),[(0,.box [.d (.int .i64 b)])]):=by
  rw[Vu (by simp)];simp[f138]at T⊢;simp[T]
 have y:ah ctx 89 [.d (.int .i64 b)] []=some (.ret (.bY [.d (.agg [.int .i64 0,.str [],.str [],.str [],.int .i64 0]),.d (.bool false)]),[]):=by
  rw[abK (by simp)];simp[f89,J,q]
 rw[abI (by simp)];simp[f54,y]
theorem ac7:ahJ 54 oe:=by
 intro b;by_cases H:b∈rQ
 ·simp only[rQ,abV,aed,amt]at H;rcases H with rfl|rfl|rfl|rfl|rfl|rfl|rfl|rfl|rfl|rfl|rfl|rfl|rfl|rfl|rfl|rfl|rfl|rfl|rfl|rfl|rfl
  ·obtain⟨l,A,E⟩:=eL ahK;exact⟨l,A,by rw[E];rfl,by decide⟩
  ·obtain⟨l,A,E⟩:=eL ahL;exact⟨l,A,by rw[E];rfl,by decide⟩
  ·obtain⟨l,A,E⟩:=eL ahM;exact⟨l,A,by rw[E];rfl,by decide⟩
  ·obtain⟨l,A,E⟩:=eL ahN;exact⟨l,A,by rw[E];rfl,by decide⟩
  ·obtain⟨l,A,E⟩:=eL ahO;exact⟨l,A,by rw[E];rfl,by decide⟩
  ·obtain⟨l,A,E⟩:=eL ahP;exact⟨l,A,by rw[E];rfl,by decide⟩
  ·obtain⟨l,A,E⟩:=eL ahQ;exact⟨l,A,by rw[E];rfl,by decide⟩
  ·obtain⟨l,A,E⟩:=eL ahR;exact⟨l,A,by rw[E];rfl,by decide⟩
  ·obtain⟨l,A,E⟩:=eL ahS;exact⟨l,A,by rw[E];rfl,by decide⟩
  ·obtain⟨l,A,E⟩:=eL ahT;exact⟨l,A,by rw[E];rfl,by decide⟩
  ·obtain⟨l,A,E⟩:=eL ahU;exact⟨l,A,by rw[E];rfl,by decide⟩
  ·obtain⟨l,A,E⟩:=eL ahV;exact⟨l,A,by rw[E];rfl,by decide⟩
  ·obtain⟨l,A,E⟩:=eL ahW;exact⟨l,A,by rw[E];rfl,by decide⟩
  ·obtain⟨l,A,E⟩:=eL ahX;exact⟨l,A,by rw[E];rfl,by decide⟩
  ·obtain⟨l,A,E⟩:=eL ahY;exact⟨l,A,by rw[E];rfl,by decide⟩
  ·obtain⟨l,A,E⟩:=eL ahZ;exact⟨l,A,by rw[E];rfl,by decide⟩
  ·obtain⟨l,A,E⟩:=eL ah0;exact⟨l,A,by rw[E];rfl,by decide⟩
  ·obtain⟨l,A,E⟩:=eL ah1;exact⟨l,A,by rw[E];rfl,by decide⟩
  ·obtain⟨l,A,E⟩:=eL ah2;exact⟨l,A,by rw[E];rfl,by decide⟩
  ·obtain⟨l,A,E⟩:=eL ah3;exact⟨l,A,by rw[E];rfl,by decide⟩
  ·obtain⟨l,A,E⟩:=eL ah4;exact⟨l,A,by rw[E];rfl,by decide⟩
 ·refine⟨[],V8 b H,?_,?_⟩
  ·simp only[rQ,abV,aed,amt,amr]at H;simp[oe,H]
  ·simp only[rQ,abV,aed,amt,amr]at H;simp[oe,H]
end Go.Am
end

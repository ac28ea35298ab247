/-
  Texts of one proof, one behind the other.
-/
import Derived.Test.YtccmboenpbjhnaaGreatDoorG4
import Derived.ProofKit
import Derived.ChangeArms
import Derived.ChangeCalls
set_option linter.all false
section
namespace Go.Am
open Go Go.Proofs Go.Proofs.Tryz
variable [Inhabited b7]
set_option maxRecDepth 20000
theorem qm(x:Ex):bz x=(!decide ((b6 x=1/\iK x<0)\/(b6 x=2/\(iK x<0\/1<iK x))\/(2<b6 x/\iK x≠0)\/b6 x<1\/21<b6 x)&&
 (decide ((de x).length=dY (b6 x))&&((if b6 x=3\/b6 x=4\/b6 x=5 then dq (dU x)else decide (dU x=[]))&&((if b6 x=5 then dq (ga x)else decide (ga x=[]))&&bO (de x))))):=by
 cases x;rw[bz];rfl
def KF(l:List Ex):Prop:=ai ctx 69 [.d (.list (l.map bU))] []=some (.ret (.d (.bool (bO l))),[])
theorem ais{l:List Ex}(V:l.length<100000000){i:Nat}{x:Ex}(E:i<l.length)(H:l[i]=x)(D:KF (de x))(Y:(de x).length<100000000)(k:Kt)(R1 R2:bZ)(B:Bool)
 (I:∀v X,k .ret ⟨126,aI,[(2,true,.d (.bool false))],[⟨300,v,X⟩]⟩=R1)
 (ih:∀v X,aO ctx 69 (.loop (Code.at (bk f69) [1,0,1,0,0])) ⟨126,aI,[(0,true,.d (.list (l.map bU))),(3,true,.d (.int .i64 (i+1)))],[⟨300,v,X⟩]⟩ k=if B=true then R2 else R1) (h:b6 x<1) (v:Nat) (X:aH):
 aO ctx 69 (.loop (Code.at (bk f69) [1,0,1,0,0])) ⟨126,aI,[(0,true,.d (.list (l.map bU))),(3,true,.d (.int .i64 i))],[⟨300,v,X⟩]⟩ k=if (bz x&&B)=true then R2 else R1:=by
 have J:IntKind.i64.wrap ((i:Int)+1)=i+1:=az (by unfold bj;omega);have M:=fh (dU x);have O:=fh (ga x);unfold KF at D;rw[qm];generalize bO (de x)=S at*;generalize dq (dU x)=N at*;generalize dq (ga x)=F at*;have Z:¬b6 x=1:=by omega
 have y:¬b6 x=2:=by omega
 have A0:¬b6 x=3:=by omega
 have A1:¬b6 x=4:=by omega
 have A2:¬b6 x=5:=by omega
 have A3:¬b6 x=6:=by omega
 have A4:¬b6 x=7:=by omega
 have d1:¬2<b6 x:=by omega
 rw[ah];simp[f69]at ih⊢;simp[E,H,J,aJ,h,D,M,O,ih,I,Z,y,d1];intros;omega
theorem ait{l:List Ex}(V:l.length<100000000){i:Nat}{x:Ex}(E:i<l.length)(H:l[i]=x)(D:KF (de x))(Y:(de x).length<100000000)(k:Kt)(R1 R2:bZ)(B:Bool)
 (I:∀v X,k .ret ⟨126,aI,[(2,true,.d (.bool false))],[⟨300,v,X⟩]⟩=R1)
 (ih:∀v X,aO ctx 69 (.loop (Code.at (bk f69) [1,0,1,0,0])) ⟨126,aI,[(0,true,.d (.list (l.map bU))),(3,true,.d (.int .i64 (i+1)))],[⟨300,v,X⟩]⟩ k=if B=true then R2 else R1) (h:b6 x=1) (v:Nat) (X:aH):
 aO ctx 69 (.loop (Code.at (bk f69) [1,0,1,0,0])) ⟨126,aI,[(0,true,.d (.list (l.map bU))),(3,true,.d (.int .i64 i))],[⟨300,v,X⟩]⟩ k=if (bz x&&B)=true then R2 else R1:=by
 have J:IntKind.i64.wrap ((i:Int)+1)=i+1:=az (by unfold bj;omega);have M:=fh (dU x);have O:=fh (ga x);unfold KF at D;rw[qm];generalize bO (de x)=S at*;generalize dq (dU x)=N at*;generalize dq (ga x)=F at*;rw[ah];simp[f69]at ih⊢;have U:dY 1=0:=rfl;by_cases T:iK x<0
 ·simp[E,H,J,aJ,h,D,M,O,ih,I,T];intros;omega
 ·by_cases A':1<iK x
  ·simp[E,H,J,aJ,h,D,M,O,ih,I,T,A',U];grind
  ·simp[E,H,J,aJ,h,D,M,O,ih,I,T,A',U];grind
theorem aiu{l:List Ex}(V:l.length<100000000){i:Nat}{x:Ex}(E:i<l.length)(H:l[i]=x)(D:KF (de x))(Y:(de x).length<100000000)(k:Kt)(R1 R2:bZ)(B:Bool)
 (I:∀v X,k .ret ⟨126,aI,[(2,true,.d (.bool false))],[⟨300,v,X⟩]⟩=R1)
 (ih:∀v X,aO ctx 69 (.loop (Code.at (bk f69) [1,0,1,0,0])) ⟨126,aI,[(0,true,.d (.list (l.map bU))),(3,true,.d (.int .i64 (i+1)))],[⟨300,v,X⟩]⟩ k=if B=true then R2 else R1) (h:b6 x=2) (v:Nat) (X:aH):
 aO ctx 69 (.loop (Code.at (bk f69) [1,0,1,0,0])) ⟨126,aI,[(0,true,.d (.list (l.map bU))),(3,true,.d (.int .i64 i))],[⟨300,v,X⟩]⟩ k=if (bz x&&B)=true then R2 else R1:=by
 have J:IntKind.i64.wrap ((i:Int)+1)=i+1:=az (by unfold bj;omega);have M:=fh (dU x);have O:=fh (ga x);unfold KF at D;rw[qm];generalize bO (de x)=S at*;generalize dq (dU x)=N at*;generalize dq (ga x)=F at*;rw[ah];simp[f69]at ih⊢;have U:dY 2=0:=rfl;by_cases T:iK x<0
 ·simp[E,H,J,aJ,h,D,M,O,ih,I,T];intros;omega
 ·by_cases A':1<iK x
  ·simp[E,H,J,aJ,h,D,M,O,ih,I,T,A',U];intros;omega
  ·simp[E,H,J,aJ,h,D,M,O,ih,I,T,A',U];grind
theorem aiv{l:List Ex}(V:l.length<100000000){i:Nat}{x:Ex}(E:i<l.length)(H:l[i]=x)(D:KF (de x))(Y:(de x).length<100000000)(k:Kt)(R1 R2:bZ)(B:Bool)
 (I:∀v X,k .ret ⟨126,aI,[(2,true,.d (.bool false))],[⟨300,v,X⟩]⟩=R1)
 (ih:∀v X,aO ctx 69 (.loop (Code.at (bk f69) [1,0,1,0,0])) ⟨126,aI,[(0,true,.d (.list (l.map bU))),(3,true,.d (.int .i64 (i+1)))],[⟨300,v,X⟩]⟩ k=if B=true then R2 else R1) (h:b6 x=3) (v:Nat) (X:aH):
 aO ctx 69 (.loop (Code.at (bk f69) [1,0,1,0,0])) ⟨126,aI,[(0,true,.d (.list (l.map bU))),(3,true,.d (.int .i64 i))],[⟨300,v,X⟩]⟩ k=if (bz x&&B)=true then R2 else R1:=by
 have J:IntKind.i64.wrap ((i:Int)+1)=i+1:=az (by unfold bj;omega);have M:=fh (dU x);have O:=fh (ga x);unfold KF at D;rw[qm];generalize bO (de x)=S at*;generalize dq (dU x)=N at*;generalize dq (ga x)=F at*;rw[ah];simp[f69]at ih⊢;have U:dY 3=0:=rfl;by_cases T:iK x=0
 ·simp[E,H,J,aJ,h,D,M,O,ih,I,T,U];grind
 ·simp[E,H,J,aJ,h,D,M,O,ih,I,T]
theorem aiw{l:List Ex}(V:l.length<100000000){i:Nat}{x:Ex}(E:i<l.length)(H:l[i]=x)(D:KF (de x))(Y:(de x).length<100000000)(k:Kt)(R1 R2:bZ)(B:Bool)
 (I:∀v X,k .ret ⟨126,aI,[(2,true,.d (.bool false))],[⟨300,v,X⟩]⟩=R1)
 (ih:∀v X,aO ctx 69 (.loop (Code.at (bk f69) [1,0,1,0,0])) ⟨126,aI,[(0,true,.d (.list (l.map bU))),(3,true,.d (.int .i64 (i+1)))],[⟨300,v,X⟩]⟩ k=if B=true then R2 else R1) (h:b6 x=4) (v:Nat) (X:aH):
 aO ctx 69 (.loop (Code.at (bk f69) [1,0,1,0,0])) ⟨126,aI,[(0,true,.d (.list (l.map bU))),(3,true,.d (.int .i64 i))],[⟨300,v,X⟩]⟩ k=if (bz x&&B)=true then R2 else R1:=by
 have J:IntKind.i64.wrap ((i:Int)+1)=i+1:=az (by unfold bj;omega);have M:=fh (dU x);have O:=fh (ga x);unfold KF at D;rw[qm];generalize bO (de x)=S at*;generalize dq (dU x)=N at*;generalize dq (ga x)=F at*;rw[ah];simp[f69]at ih⊢;have U:dY 4=1:=rfl;by_cases T:iK x=0
 ·simp[E,H,J,aJ,h,D,M,O,ih,I,T,U];grind
 ·simp[E,H,J,aJ,h,D,M,O,ih,I,T]
theorem aix{l:List Ex}(V:l.length<100000000){i:Nat}{x:Ex}(E:i<l.length)(H:l[i]=x)(D:KF (de x))(Y:(de x).length<100000000)(k:Kt)(R1 R2:bZ)(B:Bool)
 (I:∀v X,k .ret ⟨126,aI,[(2,true,.d (.bool false))],[⟨300,v,X⟩]⟩=R1)
 (ih:∀v X,aO ctx 69 (.loop (Code.at (bk f69) [1,0,1,0,0])) ⟨126,aI,[(0,true,.d (.list (l.map bU))),(3,true,.d (.int .i64 (i+1)))],[⟨300,v,X⟩]⟩ k=if B=true then R2 else R1) (h:b6 x=5) (v:Nat) (X:aH):
 aO ctx 69 (.loop (Code.at (bk f69) [1,0,1,0,0])) ⟨126,aI,[(0,true,.d (.list (l.map bU))),(3,true,.d (.int .i64 i))],[⟨300,v,X⟩]⟩ k=if (bz x&&B)=true then R2 else R1:=by
 have J:IntKind.i64.wrap ((i:Int)+1)=i+1:=az (by unfold bj;omega);have M:=fh (dU x);have O:=fh (ga x);unfold KF at D;rw[qm];generalize bO (de x)=S at*;generalize dq (dU x)=N at*;generalize dq (ga x)=F at*;rw[ah];simp[f69]at ih⊢;have U:dY 5=0:=rfl;by_cases T:iK x=0
 ·simp[E,H,J,aJ,h,D,M,O,ih,I,T,U];grind
 ·simp[E,H,J,aJ,h,D,M,O,ih,I,T]
theorem aiy{l:List Ex}(V:l.length<100000000){i:Nat}{x:Ex}(E:i<l.length)(H:l[i]=x)(D:KF (de x))(Y:(de x).length<100000000)(k:Kt)(R1 R2:bZ)(B:Bool)
 (I:∀v X,k .ret ⟨126,aI,[(2,true,.d (.bool false))],[⟨300,v,X⟩]⟩=R1)
 (ih:∀v X,aO ctx 69 (.loop (Code.at (bk f69) [1,0,1,0,0])) ⟨126,aI,[(0,true,.d (.list (l.map bU))),(3,true,.d (.int .i64 (i+1)))],[⟨300,v,X⟩]⟩ k=if B=true then R2 else R1) (h:b6 x=6) (v:Nat) (X:aH):
 aO ctx 69 (.loop (Code.at (bk f69) [1,0,1,0,0])) ⟨126,aI,[(0,true,.d (.list (l.map bU))),(3,true,.d (.int .i64 i))],[⟨300,v,X⟩]⟩ k=if (bz x&&B)=true then R2 else R1:=by
 have J:IntKind.i64.wrap ((i:Int)+1)=i+1:=az (by unfold bj;omega);have M:=fh (dU x);have O:=fh (ga x);unfold KF at D;rw[qm];generalize bO (de x)=S at*;generalize dq (dU x)=N at*;generalize dq (ga x)=F at*;rw[ah];simp[f69]at ih⊢;have U:dY 6=1:=rfl;by_cases T:iK x=0
 ·simp[E,H,J,aJ,h,D,M,O,ih,I,T,U];grind
 ·simp[E,H,J,aJ,h,D,M,O,ih,I,T]
theorem aiz{l:List Ex}(V:l.length<100000000){i:Nat}{x:Ex}(E:i<l.length)(H:l[i]=x)(D:KF (de x))(Y:(de x).length<100000000)(k:Kt)(R1 R2:bZ)(B:Bool)
 (I:∀v X,k .ret ⟨126,aI,[(2,true,.d (.bool false))],[⟨300,v,X⟩]⟩=R1)
 (ih:∀v X,aO ctx 69 (.loop (Code.at (bk f69) [1,0,1,0,0])) ⟨126,aI,[(0,true,.d (.list (l.map bU))),(3,true,.d (.int .i64 (i+1)))],[⟨300,v,X⟩]⟩ k=if B=true then R2 else R1) (h:b6 x=7) (v:Nat) (X:aH):
 aO ctx 69 (.loop (Code.at (bk f69) [1,0,1,0,0])) ⟨126,aI,[(0,true,.d (.list (l.map bU))),(3,true,.d (.int .i64 i))],[⟨300,v,X⟩]⟩ k=if (bz x&&B)=true then R2 else R1:=by
 have J:IntKind.i64.wrap ((i:Int)+1)=i+1:=az (by unfold bj;omega);have M:=fh (dU x);have O:=fh (ga x);unfold KF at D;rw[qm];generalize bO (de x)=S at*;generalize dq (dU x)=N at*;generalize dq (ga x)=F at*;rw[ah];simp[f69]at ih⊢;have U:dY 7=1:=rfl;by_cases T:iK x=0
 ·simp[E,H,J,aJ,h,D,M,O,ih,I,T,U];grind
 ·simp[E,H,J,aJ,h,D,M,O,ih,I,T]
theorem aiA{l:List Ex}(V:l.length<100000000){i:Nat}{x:Ex}(E:i<l.length)(H:l[i]=x)(D:KF (de x))(Y:(de x).length<100000000)(k:Kt)(R1 R2:bZ)(B:Bool)
 (I:∀v X,k .ret ⟨126,aI,[(2,true,.d (.bool false))],[⟨300,v,X⟩]⟩=R1)
 (ih:∀v X,aO ctx 69 (.loop (Code.at (bk f69) [1,0,1,0,0])) ⟨126,aI,[(0,true,.d (.list (l.map bU))),(3,true,.d (.int .i64 (i+1)))],[⟨300,v,X⟩]⟩ k=if B=true then R2 else R1) (h:7<b6 x) (v:Nat) (X:aH):
 aO ctx 69 (.loop (Code.at (bk f69) [1,0,1,0,0])) ⟨126,aI,[(0,true,.d (.list (l.map bU))),(3,true,.d (.int .i64 i))],[⟨300,v,X⟩]⟩ k=if (bz x&&B)=true then R2 else R1:=by
 have J:IntKind.i64.wrap ((i:Int)+1)=i+1:=az (by unfold bj;omega);have M:=fh (dU x);have O:=fh (ga x);unfold KF at D;rw[qm];generalize bO (de x)=S at*;generalize dq (dU x)=N at*;generalize dq (ga x)=F at*;have Z:¬b6 x=1:=by omega
 have y:¬b6 x=2:=by omega
 have A0:¬b6 x=3:=by omega
 have A1:¬b6 x=4:=by omega
 have A2:¬b6 x=5:=by omega
 have A3:¬b6 x=6:=by omega
 have A4:¬b6 x=7:=by omega
 have d1:2<b6 x:=by omega
 have d2:¬b6 x<1:=by omega
 have U:dY (b6 x)=2:=by unfold dY;rw[aa4 (by omega),abf h]
 rw[ah];simp[f69]at ih⊢;by_cases T:iK x=0
 ·by_cases A5:21<b6 x
  ·simp[E,H,J,aJ,h,D,M,O,ih,I,T,A5,Z,y,A0,A1,A2,A3,A4,d1,d2];intros;omega
  ·simp[E,H,J,aJ,h,D,M,O,ih,I,T,A5,U,Z,y,A0,A1,A2,A3,A4,d1,d2];grind
 ·simp[E,H,J,aJ,h,D,M,O,ih,I,T,Z,y,d1];intros;omega
theorem It(l:List Ex)(D:l.length<100000000)(Z:∀x∈l,KF (de x))(T:∀x∈l,(de x).length<100000000)(k:Kt)(R1 R2:bZ)
 (E:∀v X,k .ret ⟨126,aI,[(2,true,.d (.bool false))],[⟨300,v,X⟩]⟩=R1)
 (V:∀(Y:Env) v X,k (.exit 0) ⟨126,aI,Y,[⟨300,v,X⟩]⟩=R2):∀(rest pre:List Ex)(v:Nat)(X:aH),l=pre++rest->
 aO ctx 69 (.loop (Code.at (bk f69) [1,0,1,0,0])) ⟨126,aI,[(0,true,.d (.list (l.map bU))),(3,true,.d (.int .i64 pre.length))],[⟨300,v,X⟩]⟩ k=if bO rest=true then R2 else R1
 |[],pre,v,X,U=>by
  have A':pre.length=l.length:=by rw[U];simp
  rw[A',ah];simp[f69,V,bO]
 |x::rest,pre,v,X,U=>by
  have I:pre.length<l.length:=by rw[U];simp
  have J:l[pre.length]=x:=by simp[U]
  have M:=Z x (by rw[U];simp);have O:=T x (by rw[U];simp);have ih:∀v X,aO ctx 69 (.loop (Code.at (bk f69) [1,0,1,0,0])) ⟨126,aI,[(0,true,.d (.list (l.map bU))),(3,true,.d (.int .i64 (pre.length+1)))],[⟨300,v,X⟩]⟩ k=if bO rest=true then R2 else R1:=λv X=>by
   have:=It l D Z T k R1 R2 E V rest (pre++[x]) v X (by simp[U]);simpa using this
  have key:bO (x::rest)=(bz x&&bO rest):=by rw[bO]
  rw[key];have A0:b6 x<1\/b6 x=1\/b6 x=2\/b6 x=3\/b6 x=4\/b6 x=5\/b6 x=6\/b6 x=7\/7<b6 x:=by omega
  rcases A0 with h|h|h|h|h|h|h|h|h
  ·exact ais D I J M O k R1 R2 _ E ih h v X
  ·exact ait D I J M O k R1 R2 _ E ih h v X
  ·exact aiu D I J M O k R1 R2 _ E ih h v X
  ·exact aiv D I J M O k R1 R2 _ E ih h v X
  ·exact aiw D I J M O k R1 R2 _ E ih h v X
  ·exact aix D I J M O k R1 R2 _ E ih h v X
  ·exact aiy D I J M O k R1 R2 _ E ih h v X
  ·exact aiz D I J M O k R1 R2 _ E ih h v X
  ·exact aiA D I J M O k R1 R2 _ E ih h v X
theorem Xp{l:List Ex}(D:l.length<100000000)(Z:∀x∈l,KF (de x))(T:∀x∈l,(de x).length<100000000):KF l:=by
 have h:=λk R1 R2 E V v X=>It l D Z T k R1 R2 E V l [] v X rfl;unfold KF;rw[amN (by simp)];simp[f69]at h⊢;rw[h _ (some (.ret (.d (.bool false)),[])) (some (.ret (.d (.bool true)),[]))]
 ·cases bO l<;>simp
 ·intro v X;simp
 ·intro Y v X;simp
mutual
def yj:Ex->Prop
 | .mk _ _ name field sub _=>(name.length<100000000/\field.length<100000000/\sub.length<100000000)/\qn sub
def qn:List Ex->Prop
 |[]=>True
 |x::r=>yj x/\qn r
end
mutual
theorem aiB:∀x:Ex,yj x->KF (de x)/\(de x).length<100000000
 | .mk op nn name field sub line,h=>by
  simp only[yj]at h;have T:=Cz sub h.2;exact⟨Xp h.1.2.2 (λx H=>(T x H).1) (λx H=>(T x H).2),h.1.2.2⟩
theorem Cz:∀l:List Ex,qn l->∀x∈l,KF (de x)/\(de x).length<100000000
 |[],_,x,H=>by simp at H
 |y::r,h,x,H=>by
  simp only[qn]at h;have E:=aiB y h.1;have V:=Cz r h.2;rcases abd.1 H with e|H
  ·rw[e];exact E
  ·exact V x H
end
theorem D9{l:List Ex}(D:l.length<100000000)(h:qn l):KF l:=
 Xp D (λx H=>(Cz l h x H).1) (λx H=>(Cz l h x H).2)
end Go.Am
end
section
namespace Go.Am
open Go
theorem QF{k:Int}(h:qh k=true):10<=k/\k<=31:=by
 unfold qh bJ at h;by_cases D:10<=k/\k<=31
 ·exact D
 ·exfalso;have:tV Lj k=[]:=by
   unfold Lj;simp only[tV];repeat rw[aa4 (by omega)]
  rw[this]at h;simp at h
theorem QG{v:Vr}(h:dM v=true):(v.ty=1\/v.ty=2)\/(10<=v.ty/\v.ty<=31/\qh v.ty=true):=by
 simp only[dM,Ds,agr,aa8]at h;rcases h.2.1.2 with h|h
 ·exact .inl h
 ·exact .inr ⟨(QF h).1,(QF h).2,h⟩
theorem wo{s:Tx}{v:Vr}:∀{l:List Vr},bq l s=some v->v∈l/\v.name=s
 |x::r,h=>by
  unfold bq at h;split at h
  ·rename_i e;cases h;exact⟨by simp,e⟩
  ·have:=wo h;exact⟨by simp[this.1],this.2⟩
end Go.Am
end
section
namespace Go.Am
open Go Go.Proofs
variable [Inhabited b7]
set_option maxRecDepth 20000
@[simp] def smL(x:Sm):List D:=[.int .i64 (bK x),.str (iB x),
 .int .i64 (b6 (fe x)),.int .i64 (iK (fe x)),.str (dU (fe x)),.str (ga (fe x)),.list ((de (fe x)).map bU),.int .i64 (kB (fe x)),
 .int .i64 (b6 (eh x)),.int .i64 (iK (eh x)),.str (dU (eh x)),.str (ga (eh x)),.list ((de (eh x)).map bU),.int .i64 (kB (eh x)),
 .list ((cH x).map bU),.list ((eF x).map n8),.list ((eu x).map .str),.list ((bL x).map dz),.int .i64 (lL x)]
section
variable {vs:List Vr} {n:Int} (E:vs.length<1000000) (H:∀v∈vs,dM v=true)
include E H
end
end Go.Am
end
section
namespace Go.Am
open Go Go.Proofs Go.Proofs.Tryz
variable [Inhabited b7]
set_option maxRecDepth 20000
@[simp] def bu(x:Sm):aH:=.box [.d (.int .i64 (bK x)),.d (.str (iB x)),.d (.int .i64 (b6 (fe x))),.d (.int .i64 (iK (fe x))),.d (.str (dU (fe x))),.d (.str (ga (fe x))),.d (.list ((de (fe x)).map bU)),.d (.int .i64 (kB (fe x))),
 .d (.int .i64 (b6 (eh x))),.d (.int .i64 (iK (eh x))),.d (.str (dU (eh x))),.d (.str (ga (eh x))),.d (.list ((de (eh x)).map bU)),.d (.int .i64 (kB (eh x))),.d (.list ((cH x).map bU)),.d (.list ((eF x).map n8)),.d (.list ((eu x).map .str)),.d (.list ((bL x).map dz)),.d (.int .i64 (lL x))]
@[simp] def iL(v:Vr):aH:=.box [.d (.str v.name),.d (.int .i64 v.ty),.d (.int .i64 v.sec),.d (.bool v.arr),.d (.int .i64 v.lo),.d (.int .i64 v.hi),.d (.int .i64 v.init),.d (.int .i64 v.line)]
theorem Lo{v:Vr}(E:dM v=true):ai ctx 72 [.d (bN v)] []=some (.ret (.d (.int .i64 (bV v))),[]):=by
 have I:=QD v.ty;rw[amP (by simp)];unfold bV;cases D:v.arr with
 |true=>
  simp only[dM,Ds,D,afz,aa8]at E;have J:IntKind.i64.wrap (v.hi-v.lo)=v.hi-v.lo:=az (by unfold bj;omega);have M:IntKind.i64.wrap (v.hi-v.lo+1)=v.hi-v.lo+1:=az (by unfold bj;omega);simp[f72,bN,eV,D,J,M]
 |false=>
  by_cases H:2<v.ty
  ·simp[f72,bN,eV,D,H,I]
  ·simp[f72,bN,eV,D,H]
theorem rY{v:Vr}(E:dM v=true):0<=bV v/\bV v<=256:=by
 have:=BM v.ty;unfold bV;cases D:v.arr with
 |true=>
  simp only[dM,Ds,D,afz,aa8]at E;simp only[afz];omega
 |false=>
  simp only[agb,adW];split<;>omega
@[reducible] noncomputable def b8(p:List Nat):Code:=Code.at (bk f37) p
section
variable {x:Sm} {v:Nat} {k:Kt} {R1:bZ} {a b:AV} (D:k .ret ⟨258,aI,[(2,true,.d (.bool false))],[⟨300,v,bu x⟩]⟩=R1)
def Lp(x:Sm):Bool:=decide (1<=bK x/\bK x<=9)&&(if bK x=4\/bK x=9 then dq (iB x)else decide (iB x=[]))
def Lq(x:Sm):Bool:=if bK x=1 then decide (b6 (fe x)=3\/b6 (fe x)=4)&&bz (fe x)else dZ (fe x)
def Hb(x:Sm):Bool:=(if bK x=1\/bK x=3\/bK x=5\/bK x=6 then !dZ (eh x)&&bz (eh x)else dZ (eh x))&&bO (cH x)
include D
theorem atA{d6 d7:AV}:aO ctx 37 (b8 [1,0,1,0,0,1,0,0,1,1,0]) ⟨258,aI,[(0,true,a),(3,true,b),(4,true,.ptr 300 v 0),(5,true,.d (.bool (decide (bK x=4\/bK x=9)))),(6,true,d6),(7,true,d7)],[⟨300,v,bu x⟩]⟩ k=
 if Lp x=true then k .normal ⟨258,aI,[(0,true,a),(3,true,b),(4,true,.ptr 300 v 0),(6,true,d6),(7,true,d7),(59,true,.d (.bool false))],[⟨300,v,bu x⟩]⟩else R1:=by
 have O:=fh (iB x);unfold Lp;simp only[bu]at D;generalize dq (iB x)=N at*;by_cases E:bK x<1
 ·have M:¬1<=bK x:=by omega
  simp[b8,f37];simp[E,M,D]
 ·have M:1<=bK x:=by omega
  by_cases V:9<bK x
  ·have H:¬bK x<=9:=by omega
   simp[b8,f37];simp[E,M,V,H,D]
  ·have H:bK x<=9:=by omega
   by_cases I:bK x=4
   ·simp only[I]at D⊢;cases N<;>(simp[b8,f37];simp[I,O,D])
   ·by_cases U:bK x=9
    ·simp only[U]at D⊢;cases N<;>(simp[b8,f37];simp[U,O,D])
    ·by_cases he:iB x=[]
     ·simp only[he]at D⊢;simp[b8,f37];simp[E,M,V,H,I,U,he,D]
     ·simp[b8,f37];simp[E,M,V,H,I,U,he,D]
theorem atB{d7:AV}(Y:(dU (fe x)).length<100000000/\(ga (fe x)).length<100000000/\(de (fe x)).length<100000000)(J:KF [fe x]):aO ctx 37 (b8 [1,0,1,0,0,1,0,0,1,1,1,0]) ⟨258,aI,[(0,true,a),(3,true,b),(4,true,.ptr 300 v 0),(6,true,.d (.bool (decide (bK x=1)))),(7,true,d7),(59,true,.d (.bool false))],[⟨300,v,bu x⟩]⟩ k=
 if Lq x=true then k .normal ⟨258,aI,[(0,true,a),(3,true,b),(4,true,.ptr 300 v 0),(7,true,d7),(89,true,.d (.bool false))],[⟨300,v,bu x⟩]⟩else R1:=by
 have O:=QE Y;unfold KF at J;simp[aJ,bO]at J;unfold Lq;simp only[bu]at D;generalize dZ (fe x)=N at*;generalize bz (fe x)=T at*;by_cases E:bK x=1
 ·simp only[E]at D;by_cases H:b6 (fe x)=3
  ·simp only[H]at D J;cases T<;>(simp[b8,f37];simp[E,H,J,D])
  ·by_cases I:b6 (fe x)=4
   ·simp only[I]at D J;cases T<;>(simp[b8,f37];simp[E,I,J,D])
   ·simp[b8,f37];simp[E,H,I,D]
 ·cases N<;>(simp[b8,f37];simp[E,O,D])
end
section
variable {x:Sm} {v:Nat} {k:Kt} {R1:bZ} {a b:AV}
theorem atC(D:k .ret ⟨258,aI,[(2,true,.d (.bool false))],[⟨300,v,bu x⟩]⟩=R1){V:Bool}(A7:V=decide (bK x=1\/bK x=3\/bK x=5\/bK x=6))(A8:(dU (eh x)).length<100000000/\(ga (eh x)).length<100000000/\(de (eh x)).length<100000000)(A4:KF [eh x])(A5:KF (cH x)):aO ctx 37 (b8 [1,0,1,0,0,1,0,0,1,1,1,1,0]) ⟨258,aI,[(0,true,a),(3,true,b),(4,true,.ptr 300 v 0),(7,true,.d (.bool V)),(89,true,.d (.bool false))],[⟨300,v,bu x⟩]⟩ k=
 if Hb x=true then k .normal ⟨258,aI,[(0,true,a),(3,true,b),(4,true,.ptr 300 v 0),(118,true,.d (.bool false))],[⟨300,v,bu x⟩]⟩else R1:=by
 have A6:=QE A8;unfold KF at A4 A5;simp[aJ,bO]at A4;have e:Hb x=((if V=true then !dZ (eh x)&&bz (eh x)else dZ (eh x))&&bO (cH x)):=by
  unfold Hb;rw[A7];by_cases h:bK x=1\/bK x=3\/bK x=5\/bK x=6
  ·rw[abf h,abf (by simpa using h)]
  ·rw[aa4 h,aa4 (by simpa using h)]
 rw[e];simp only[bu]at D;generalize dZ (eh x)=N at*;generalize bz (eh x)=T at*;generalize bO (cH x)=W at*;clear A7 e;cases V with
 |true=>
  cases N with
  |true=>(simp[b8,f37];simp[A6,D])
  |false=>cases T<;>cases W<;>(simp[b8,f37];simp[A6,A4,A5,D])
 |false=>cases N<;>cases W<;>(simp[b8,f37];simp[A6,A5,D])
theorem atD{X:Env}:aO ctx 37 (b8 [1,0,1,0,0,1,0,0,1,1,1,1,1,0]) ⟨258,aI,[(0,true,a),(3,true,b),(4,true,.ptr 300 v 0),(118,true,.d (.bool false))],[⟨300,v,bu x⟩]⟩ k=
 k .normal ⟨258,aI,[(0,true,a),(3,true,b),(4,true,.ptr 300 v 0),(8,true,.d (.int .i64 0)),(9,true,.d (.int .i64 0)),(10,true,.d (.int .i64 0)),(11,true,.d (.int .i64 0)),(12,true,.d (.int .i64 0))],[⟨300,v,bu x⟩]⟩:=by
 simp[b8,f37]
def BN(n:Int):Int:=if 1<n then n else 1
def qL(x:Sm):Int:=if bK x=2 then BN (cH x).length else if bK x=4 then 3 else if bK x=9 then (eu x).length else 0
def qM(x:Sm):Int:=if bK x=3 then (eF x).length else 0
def mO(x:Sm):Int:=if bK x=9 then (eu x).length else 0
def jE(x:Sm):Int:=if bK x=2 then BN (cH x).length else if bK x=3 then (eF x).length else if bK x=4\/bK x=5\/bK x=6 then 1 else 0
def jV(x:Sm):Int:=if bK x=2\/bK x=3 then 1 else 0
def cX(x:Sm):Env:=if bK x=2\/bK x=3\/bK x=4\/bK x=5\/bK x=6\/bK x=9 then []else [(144,true,.d (.bool false))]
theorem aiD(y:bK x=2):aO ctx 37 (b8 [1,0,1,0,0,1,0,0,1,1,1,1,1,1,0]) ⟨258,aI,[(0,true,a),(3,true,b),(4,true,.ptr 300 v 0),(8,true,.d (.int .i64 0)),(9,true,.d (.int .i64 0)),(10,true,.d (.int .i64 0)),(11,true,.d (.int .i64 0)),(12,true,.d (.int .i64 0))],[⟨300,v,bu x⟩]⟩ k=
 k .normal ⟨258,aI,[(0,true,a),(3,true,b),(4,true,.ptr 300 v 0),(8,true,.d (.int .i64 (qL x))),(9,true,.d (.int .i64 (qM x))),(10,true,.d (.int .i64 (mO x))),(11,true,.d (.int .i64 (jE x))),(12,true,.d (.int .i64 (jV x)))]++cX x,[⟨300,v,bu x⟩]⟩:=by
 unfold qL qM mO jE jV cX;simp[b8,f37];simp[y,aw,BN]
theorem aiE(A':bK x=3):aO ctx 37 (b8 [1,0,1,0,0,1,0,0,1,1,1,1,1,1,0]) ⟨258,aI,[(0,true,a),(3,true,b),(4,true,.ptr 300 v 0),(8,true,.d (.int .i64 0)),(9,true,.d (.int .i64 0)),(10,true,.d (.int .i64 0)),(11,true,.d (.int .i64 0)),(12,true,.d (.int .i64 0))],[⟨300,v,bu x⟩]⟩ k=
 k .normal ⟨258,aI,[(0,true,a),(3,true,b),(4,true,.ptr 300 v 0),(8,true,.d (.int .i64 (qL x))),(9,true,.d (.int .i64 (qM x))),(10,true,.d (.int .i64 (mO x))),(11,true,.d (.int .i64 (jE x))),(12,true,.d (.int .i64 (jV x)))]++cX x,[⟨300,v,bu x⟩]⟩:=by
 unfold qL qM mO jE jV cX;simp[b8,f37];simp[A',aw,BN]
theorem aiF(A0:bK x=4):aO ctx 37 (b8 [1,0,1,0,0,1,0,0,1,1,1,1,1,1,0]) ⟨258,aI,[(0,true,a),(3,true,b),(4,true,.ptr 300 v 0),(8,true,.d (.int .i64 0)),(9,true,.d (.int .i64 0)),(10,true,.d (.int .i64 0)),(11,true,.d (.int .i64 0)),(12,true,.d (.int .i64 0))],[⟨300,v,bu x⟩]⟩ k=
 k .normal ⟨258,aI,[(0,true,a),(3,true,b),(4,true,.ptr 300 v 0),(8,true,.d (.int .i64 (qL x))),(9,true,.d (.int .i64 (qM x))),(10,true,.d (.int .i64 (mO x))),(11,true,.d (.int .i64 (jE x))),(12,true,.d (.int .i64 (jV x)))]++cX x,[⟨300,v,bu x⟩]⟩:=by
 unfold qL qM mO jE jV cX;simp[b8,f37];simp[A0,aw,BN]
theorem aiG(A1:bK x=5):aO ctx 37 (b8 [1,0,1,0,0,1,0,0,1,1,1,1,1,1,0]) ⟨258,aI,[(0,true,a),(3,true,b),(4,true,.ptr 300 v 0),(8,true,.d (.int .i64 0)),(9,true,.d (.int .i64 0)),(10,true,.d (.int .i64 0)),(11,true,.d (.int .i64 0)),(12,true,.d (.int .i64 0))],[⟨300,v,bu x⟩]⟩ k=
 k .normal ⟨258,aI,[(0,true,a),(3,true,b),(4,true,.ptr 300 v 0),(8,true,.d (.int .i64 (qL x))),(9,true,.d (.int .i64 (qM x))),(10,true,.d (.int .i64 (mO x))),(11,true,.d (.int .i64 (jE x))),(12,true,.d (.int .i64 (jV x)))]++cX x,[⟨300,v,bu x⟩]⟩:=by
 unfold qL qM mO jE jV cX;simp[b8,f37];simp[A1,aw,BN]
theorem aiH(A2:bK x=6):aO ctx 37 (b8 [1,0,1,0,0,1,0,0,1,1,1,1,1,1,0]) ⟨258,aI,[(0,true,a),(3,true,b),(4,true,.ptr 300 v 0),(8,true,.d (.int .i64 0)),(9,true,.d (.int .i64 0)),(10,true,.d (.int .i64 0)),(11,true,.d (.int .i64 0)),(12,true,.d (.int .i64 0))],[⟨300,v,bu x⟩]⟩ k=
 k .normal ⟨258,aI,[(0,true,a),(3,true,b),(4,true,.ptr 300 v 0),(8,true,.d (.int .i64 (qL x))),(9,true,.d (.int .i64 (qM x))),(10,true,.d (.int .i64 (mO x))),(11,true,.d (.int .i64 (jE x))),(12,true,.d (.int .i64 (jV x)))]++cX x,[⟨300,v,bu x⟩]⟩:=by
 unfold qL qM mO jE jV cX;simp[b8,f37];simp[A2,aw,BN]
theorem aiI(E:bK x=9):aO ctx 37 (b8 [1,0,1,0,0,1,0,0,1,1,1,1,1,1,0]) ⟨258,aI,[(0,true,a),(3,true,b),(4,true,.ptr 300 v 0),(8,true,.d (.int .i64 0)),(9,true,.d (.int .i64 0)),(10,true,.d (.int .i64 0)),(11,true,.d (.int .i64 0)),(12,true,.d (.int .i64 0))],[⟨300,v,bu x⟩]⟩ k=
 k .normal ⟨258,aI,[(0,true,a),(3,true,b),(4,true,.ptr 300 v 0),(8,true,.d (.int .i64 (qL x))),(9,true,.d (.int .i64 (qM x))),(10,true,.d (.int .i64 (mO x))),(11,true,.d (.int .i64 (jE x))),(12,true,.d (.int .i64 (jV x)))]++cX x,[⟨300,v,bu x⟩]⟩:=by
 unfold qL qM mO jE jV cX;simp[b8,f37];simp[E,aw,BN]
theorem aiJ(y:¬bK x=2)(A':¬bK x=3)(A0:¬bK x=4)(A1:¬bK x=5)(A2:¬bK x=6)(E:¬bK x=9):aO ctx 37 (b8 [1,0,1,0,0,1,0,0,1,1,1,1,1,1,0]) ⟨258,aI,[(0,true,a),(3,true,b),(4,true,.ptr 300 v 0),(8,true,.d (.int .i64 0)),(9,true,.d (.int .i64 0)),(10,true,.d (.int .i64 0)),(11,true,.d (.int .i64 0)),(12,true,.d (.int .i64 0))],[⟨300,v,bu x⟩]⟩ k=
 k .normal ⟨258,aI,[(0,true,a),(3,true,b),(4,true,.ptr 300 v 0),(8,true,.d (.int .i64 (qL x))),(9,true,.d (.int .i64 (qM x))),(10,true,.d (.int .i64 (mO x))),(11,true,.d (.int .i64 (jE x))),(12,true,.d (.int .i64 (jV x)))]++cX x,[⟨300,v,bu x⟩]⟩:=by
 unfold qL qM mO jE jV cX;simp[b8,f37];simp[y,A',A0,A1,A2,E,aw,BN]
theorem atE:aO ctx 37 (b8 [1,0,1,0,0,1,0,0,1,1,1,1,1,1,0]) ⟨258,aI,[(0,true,a),(3,true,b),(4,true,.ptr 300 v 0),(8,true,.d (.int .i64 0)),(9,true,.d (.int .i64 0)),(10,true,.d (.int .i64 0)),(11,true,.d (.int .i64 0)),(12,true,.d (.int .i64 0))],[⟨300,v,bu x⟩]⟩ k=
 k .normal ⟨258,aI,[(0,true,a),(3,true,b),(4,true,.ptr 300 v 0),(8,true,.d (.int .i64 (qL x))),(9,true,.d (.int .i64 (qM x))),(10,true,.d (.int .i64 (mO x))),(11,true,.d (.int .i64 (jE x))),(12,true,.d (.int .i64 (jV x)))]++cX x,[⟨300,v,bu x⟩]⟩:=by
 by_cases y:bK x=2
 ·exact aiD y
 ·by_cases A':bK x=3
  ·exact aiE A'
  ·by_cases A0:bK x=4
   ·exact aiF A0
   ·by_cases A1:bK x=5
    ·exact aiG A1
    ·by_cases A2:bK x=6
     ·exact aiH A2
     ·by_cases E:bK x=9
      ·exact aiI E
      ·exact aiJ y A' A0 A1 A2 E
theorem amY(D:k .ret ⟨258,aI,[(2,true,.d (.bool false))],[⟨300,v,bu x⟩]⟩=R1){O U Y H J:Int}(hw:IntKind.i64.wrap (H+J)=H+J):aO ctx 37 (b8 [1,0,1,0,0,1,0,0,1,1,1,1,1,1,1,0]) ⟨258,aI,[(0,true,a),(3,true,b),(4,true,.ptr 300 v 0),(8,true,.d (.int .i64 O)),(9,true,.d (.int .i64 U)),(10,true,.d (.int .i64 Y)),(11,true,.d (.int .i64 H)),(12,true,.d (.int .i64 J))],[⟨300,v,bu x⟩]⟩ k=
 if (((cH x).length:Int)=O/\((eF x).length:Int)=U/\((eu x).length:Int)=Y/\¬((bL x).length:Int)<H/\¬H+J<((bL x).length:Int))then k .normal ⟨258,aI,[(0,true,a),(3,true,b),(4,true,.ptr 300 v 0),(186,true,.d (.bool false))],[⟨300,v,bu x⟩]⟩else R1:=by
 simp only[bu]at D;by_cases I:((cH x).length:Int)=O
 ·by_cases E:((eF x).length:Int)=U
  ·by_cases M:((eu x).length:Int)=Y
   ·by_cases Z:((bL x).length:Int)<H
    ·(simp[b8,f37];simp[I,E,M,Z,D];intros;exfalso;omega)
    ·by_cases A3:H+J<((bL x).length:Int)
     ·(simp[b8,f37];simp[I,E,M,Z,hw,A3,D];intros;exfalso;omega)
     ·(simp[b8,f37];simp[I,E,M,Z,hw,A3,D])
   ·(simp[b8,f37];simp[I,E,M,D])
  ·(simp[b8,f37];simp[I,E,D])
 ·(simp[b8,f37];simp[I,D])
theorem amZ(D:k .ret ⟨258,aI,[(2,true,.d (.bool false))],[⟨300,v,bu x⟩]⟩=R1){O U Y H J:Int}(hw:IntKind.i64.wrap (H+J)=H+J):aO ctx 37 (b8 [1,0,1,0,0,1,0,0,1,1,1,1,1,1,1,0]) ⟨258,aI,[(0,true,a),(3,true,b),(4,true,.ptr 300 v 0),(8,true,.d (.int .i64 O)),(9,true,.d (.int .i64 U)),(10,true,.d (.int .i64 Y)),(11,true,.d (.int .i64 H)),(12,true,.d (.int .i64 J)),(144,true,.d (.bool false))],[⟨300,v,bu x⟩]⟩ k=
 if (((cH x).length:Int)=O/\((eF x).length:Int)=U/\((eu x).length:Int)=Y/\¬((bL x).length:Int)<H/\¬H+J<((bL x).length:Int))then k .normal ⟨258,aI,[(0,true,a),(3,true,b),(4,true,.ptr 300 v 0),(186,true,.d (.bool false))],[⟨300,v,bu x⟩]⟩else R1:=by
 simp only[bu]at D;by_cases I:((cH x).length:Int)=O
 ·by_cases E:((eF x).length:Int)=U
  ·by_cases M:((eu x).length:Int)=Y
   ·by_cases Z:((bL x).length:Int)<H
    ·(simp[b8,f37];simp[I,E,M,Z,D];intros;exfalso;omega)
    ·by_cases A3:H+J<((bL x).length:Int)
     ·(simp[b8,f37];simp[I,E,M,Z,hw,A3,D];intros;exfalso;omega)
     ·(simp[b8,f37];simp[I,E,M,Z,hw,A3,D])
   ·(simp[b8,f37];simp[I,E,M,D])
  ·(simp[b8,f37];simp[I,E,D])
 ·(simp[b8,f37];simp[I,D])
end
def KS(b:List Sm):Prop:=ai ctx 37 [.d (.list (b.map cq))] []=some (.ret (.d (.bool (eR b))),[])
section
variable {x:Sm} {v:Nat} {k:Kt} {R1 R2:bZ} {a b:AV}
theorem Ls(O:(eu x).length<100000000)(E:k .ret ⟨258,aI,[(2,true,.d (.bool false))],[⟨300,v,bu x⟩]⟩=R1)
 (H:k (.exit 3) ⟨258,aI,[(0,true,a),(3,true,b),(4,true,.ptr 300 v 0),(13,true,.d (.int .i64 (eu x).length)),(191,true,.d (.bool false))],[⟨300,v,bu x⟩]⟩=R2):∀(rest pre:List Tx),eu x=pre++rest->
 aO ctx 37 (.loop (b8 [1,0,1,0,0,1,0,0,1,1,1,1,1,1,1,1,0,1,0,0])) ⟨258,aI,[(0,true,a),(3,true,b),(4,true,.ptr 300 v 0),(13,true,.d (.int .i64 pre.length))],[⟨300,v,bu x⟩]⟩ k=if rest.all dq=true then R2 else R1
 |[],pre,D=>by
  have T:pre.length=(eu x).length:=by rw[D];simp
  simp only[bu]at H;rw[T,ah];simp[b8,f37,H]
 |c::rest,pre,D=>by
  have I:pre.length<(eu x).length:=by rw[D];simp
  have J:(eu x)[pre.length]=c:=by simp[D]
  have ih:=Ls O E H rest (pre++[c]) (by simp[D]);have M:=fh c;have U:IntKind.i64.wrap ((pre.length:Int)+1)=(pre.length:Int)+1:=az (by unfold bj;omega);simp only[bu]at E;rw[aiP];generalize dq c=N at*;rw[ah];cases N with
  |true=>
   simp[b8,f37]at ih⊢;simp[I,J,M,U,ih]
  |false=>
   simp[b8,f37];simp[I,J,M,E]
theorem Lt{l:List Int}{i:Nat}(hi:i<(eF x).length)(V:(eF x)[i]=l)(O:l.length<100000000)(E:k .ret ⟨258,aI,[(2,true,.d (.bool false))],[⟨300,v,bu x⟩]⟩=R1)
 (H:k (.exit 7) ⟨258,aI,[(0,true,a),(3,true,b),(4,true,.ptr 300 v 0),(14,true,.d (.int .i64 i)),(15,true,.d (.int .i64 l.length)),(232,true,.d (.bool false))],[⟨300,v,bu x⟩]⟩=R2):∀(rest pre:List Int),l=pre++rest->
 aO ctx 37 (.loop (b8 [1,0,1,0,0,1,0,0,1,1,1,1,1,1,1,1,1,0,1,0,0,1,0,0,1,1,0,0])) ⟨258,aI,[(0,true,a),(3,true,b),(4,true,.ptr 300 v 0),(14,true,.d (.int .i64 i)),(15,true,.d (.int .i64 pre.length))],[⟨300,v,bu x⟩]⟩ k=if rest.all (λn=>decide (n≠ -9223372036854775808))=true then R2 else R1
 |[],pre,D=>by
  have T:pre.length=l.length:=by rw[D];simp
  simp only[bu]at H;rw[T,ah];simp[b8,f37];simp[hi,V,n8,H]
 |c::rest,pre,D=>by
  have I:pre.length<l.length:=by rw[D];simp
  have J:l[pre.length]=c:=by simp[D]
  have ih:=Lt hi V O E H rest (pre++[c]) (by simp[D]);have U:IntKind.i64.wrap ((pre.length:Int)+1)=(pre.length:Int)+1:=az (by unfold bj;omega);simp only[bu]at E;rw[aiP];rw[ah];by_cases Y:c= -9223372036854775808
  ·simp[b8,f37];simp[hi,V,n8,I,J,Y,E]
  ·simp[b8,f37]at ih⊢;simp[hi,V,n8,I,J,Y,U,ih]
theorem Lu(O:(bL x).length<100000000)(Z:∀c∈bL x,KS c)(E:k .ret ⟨258,aI,[(2,true,.d (.bool false))],[⟨300,v,bu x⟩]⟩=R1)
 (H:k (.exit 9) ⟨258,aI,[(0,true,a),(3,true,b),(4,true,.ptr 300 v 0),(16,true,.d (.int .i64 (bL x).length)),(248,true,.d (.bool false))],[⟨300,v,bu x⟩]⟩=R2):∀(rest pre:List (List Sm)),bL x=pre++rest->
 aO ctx 37 (.loop (b8 [1,0,1,0,0,1,0,0,1,1,1,1,1,1,1,1,1,1,1,0,0])) ⟨258,aI,[(0,true,a),(3,true,b),(4,true,.ptr 300 v 0),(16,true,.d (.int .i64 pre.length))],[⟨300,v,bu x⟩]⟩ k=if cW rest=true then R2 else R1
 |[],pre,D=>by
  have T:pre.length=(bL x).length:=by rw[D];simp
  simp only[bu]at H;rw[T,ah];simp[b8,f37,H,cW]
 |c::rest,pre,D=>by
  have I:pre.length<(bL x).length:=by rw[D];simp
  have J:(bL x)[pre.length]=c:=by simp[D]
  have ih:=Lu O Z E H rest (pre++[c]) (by simp[D]);have M:=Z c (by rw[D];simp);have U:IntKind.i64.wrap ((pre.length:Int)+1)=(pre.length:Int)+1:=az (by unfold bj;omega);simp only[bu]at E;unfold KS at M;have key:cW (c::rest)=(eR c&&cW rest):=by rw[cW]
  rw[key];generalize eR c=N at*;rw[ah];cases N with
  |true=>
   simp[b8,f37]at ih⊢;simp[I,J,M,dz,U,ih]
  |false=>
   simp[b8,f37];simp[I,J,M,dz,E]
end
section
variable {x:Sm} {v:Nat} {k:Kt} {R1 R2:bZ} {a b:AV}
theorem Lv(y:(eF x).length<100000000)(Y:∀l∈eF x,l.length<100000000)(D:k .ret ⟨258,aI,[(2,true,.d (.bool false))],[⟨300,v,bu x⟩]⟩=R1)
 (H:k (.exit 5) ⟨258,aI,[(0,true,a),(3,true,b),(4,true,.ptr 300 v 0),(14,true,.d (.int .i64 (eF x).length)),(205,true,.d (.bool false))],[⟨300,v,bu x⟩]⟩=R2):∀(rest pre:List (List Int)),eF x=pre++rest->
 aO ctx 37 (.loop (b8 [1,0,1,0,0,1,0,0,1,1,1,1,1,1,1,1,1,0,1,0,0])) ⟨258,aI,[(0,true,a),(3,true,b),(4,true,.ptr 300 v 0),(14,true,.d (.int .i64 pre.length))],[⟨300,v,bu x⟩]⟩ k=if rest.all ru=true then R2 else R1
 |[],pre,E=>by
  have A':pre.length=(eF x).length:=by rw[E];simp
  simp only[bu]at H;rw[A',ah];simp[b8,f37,H]
 |c::rest,pre,E=>by
  have J:pre.length<(eF x).length:=by rw[E];simp
  have M:(eF x)[pre.length]=c:=by simp[E]
  have A0:=Y c (by rw[E];simp);have ih:=Lv y Y D H rest (pre++[c]) (by simp[E]);have A1:IntKind.i64.wrap ((pre.length:Int)+1)=(pre.length:Int)+1:=az (by unfold bj;omega);have Z:=λk R1 R2 D H=>Lt (a:=a) (b:=b) (v:=v) (k:=k) (R1:=R1) (R2:=R2) J M A0 D H c [] rfl;simp only[bu]at D;rw[aiP];have key:ru c=(!decide (c.length=0)&&(decide (c.length%2=0)&&c.all λn=>decide (n≠ -9223372036854775808))):=rfl;rw[key];generalize (c.all λn=>decide (n≠ -9223372036854775808))=B at*;rw[ah];have O:((c.length:Int)).tmod 2=((c.length%2:Nat):Int):=(Int.ofNat_tmod c.length 2).symm;by_cases I:c.length=0
  ·have T:c=[]:=abv I;simp[b8,f37];simp[J,M,n8,I,T,D]
  ·have T:¬c=[]:=λh=>I (by rw[h];rfl);by_cases V:c.length%2=1
   ·have U:¬c.length%2=0:=by omega
    rw[V]at O;simp[b8,f37];simp[J,M,n8,I,T,V,U,O,D]
   ·have U:c.length%2=0:=by omega
    rw[U]at O;simp[b8,f37]at ih Z⊢;simp[J,M,n8,I,T,V,U,O];rw[Z];cases B<;>simp[D,A1,ih]
end
section
variable {x:Sm} {v:Nat} {k:Kt} {R1 R2:bZ} {a b:AV}
theorem atG(I:(eu x).length<100000000)(D:k .ret ⟨258,aI,[(2,true,.d (.bool false))],[⟨300,v,bu x⟩]⟩=R1):
 aO ctx 37 (b8 [1,0,1,0,0,1,0,0,1,1,1,1,1,1,1,1,0]) ⟨258,aI,[(0,true,a),(3,true,b),(4,true,.ptr 300 v 0),(186,true,.d (.bool false))],[⟨300,v,bu x⟩]⟩ k=
 if (eu x).all dq=true then k .normal ⟨258,aI,[(0,true,a),(3,true,b),(4,true,.ptr 300 v 0),(13,true,.d (.int .i64 (eu x).length)),(191,true,.d (.bool false))],[⟨300,v,bu x⟩]⟩else R1:=by
 have E:=λk R1 R2 D H=>Ls (a:=a) (b:=b) (v:=v) (k:=k) (R1:=R1) (R2:=R2) I D H (eu x) [] rfl;simp only[bu]at D;generalize (eu x).all dq=B at*;simp[b8,f37]at E⊢;rw[E];cases B<;>simp[D]
theorem atH(I:(eF x).length<100000000)(V:∀l∈eF x,l.length<100000000)(D:k .ret ⟨258,aI,[(2,true,.d (.bool false))],[⟨300,v,bu x⟩]⟩=R1){d1 d2:AV}:
 aO ctx 37 (b8 [1,0,1,0,0,1,0,0,1,1,1,1,1,1,1,1,1,0]) ⟨258,aI,[(0,true,a),(3,true,b),(4,true,.ptr 300 v 0),(13,true,d1),(191,true,d2)],[⟨300,v,bu x⟩]⟩ k=
 if (eF x).all ru=true then k .normal ⟨258,aI,[(0,true,a),(3,true,b),(4,true,.ptr 300 v 0),(14,true,.d (.int .i64 (eF x).length)),(205,true,.d (.bool false))],[⟨300,v,bu x⟩]⟩else R1:=by
 have E:=λk R1 R2 D H=>Lv (a:=a) (b:=b) (v:=v) (k:=k) (R1:=R1) (R2:=R2) I V D H (eF x) [] rfl;simp only[bu]at D;generalize (eF x).all ru=B at*;simp[b8,f37]at E⊢;rw[E];cases B<;>simp[D]
theorem atJ(I:(bL x).length<100000000)(Y:∀c∈bL x,KS c)(D:k .ret ⟨258,aI,[(2,true,.d (.bool false))],[⟨300,v,bu x⟩]⟩=R1){d1 d2:AV}:
 aO ctx 37 (b8 [1,0,1,0,0,1,0,0,1,1,1,1,1,1,1,1,1,1]) ⟨258,aI,[(0,true,a),(3,true,b),(4,true,.ptr 300 v 0),(14,true,d1),(205,true,d2)],[⟨300,v,bu x⟩]⟩ k=
 if cW (bL x)=true then k .normal ⟨258,aI,[(0,true,a),(3,true,b),(4,true,.ptr 300 v 0),(16,true,.d (.int .i64 (bL x).length)),(248,true,.d (.bool false))],[⟨300,v,bu x⟩]⟩else R1:=by
 have E:=λk R1 R2 D H=>Lu (a:=a) (b:=b) (v:=v) (k:=k) (R1:=R1) (R2:=R2) I Y D H (bL x) [] rfl;simp only[bu]at D;generalize cW (bL x)=B at*;simp[b8,f37]at E⊢;rw[E];cases B<;>simp[D]
theorem atK:aO ctx 37 (b8 [1,0,1,0,0,1,0,0,1,0]) ⟨258,aI,[(0,true,a),(3,true,b),(4,true,.ptr 300 v 0)],[⟨300,v,bu x⟩]⟩ k=
 k .normal ⟨258,aI,[(0,true,a),(3,true,b),(4,true,.ptr 300 v 0),(5,true,.d (.bool (decide (bK x=4\/bK x=9)))),(6,true,.d (.bool (decide (bK x=1)))),(7,true,.d (.bool (decide (bK x=1\/bK x=3\/bK x=5\/bK x=6))))],[⟨300,v,bu x⟩]⟩:=by
 have Z:=Z8 (bK x);simp[b8,f37];simp[Z]
end
def Hc(x:Sm):Bool:=decide (((cH x).length:Int)=qL x/\((eF x).length:Int)=qM x/\((eu x).length:Int)=mO x/\¬((bL x).length:Int)<jE x/\¬jE x+jV x<((bL x).length:Int))
theorem Un(x:Sm):Hc x=cF (bK x) (cH x).length (eF x).length (eu x).length (bL x).length:=by
 unfold Hc cF qL qM mO jE jV BN;generalize bK x=o;generalize (cH x).length=y;generalize (eF x).length=A';generalize (eu x).length=A0;generalize (bL x).length=A1;rw[Bool.eq_iff_iff];by_cases H:o=2
 ·subst H;by_cases h:(1:Int)<y
  ·simp[h];omega
  ·simp[h];omega
 ·by_cases J:o=3
  ·subst J;simp;omega
  ·by_cases M:o=4
   ·subst M;simp;omega
   ·by_cases O:o=5
    ·subst O;simp;omega
    ·by_cases T:o=6
     ·subst T;simp;omega
     ·by_cases U:o=9
      ·subst U;simp;omega
      ·simp[H,J,M,O,T,U]
theorem aiK(x:Sm):jU x=(Lp x&&(Lq x&&(Hb x&&(Hc x&&((eu x).all dq&&((eF x).all ru&&cW (bL x))))))):=by
 rw[Un];obtain⟨op,name,to,val,conds,A2,fields,blocks,line⟩:=x;unfold jU Lp Lq Hb;simp only[Bool.and_assoc];rfl
end Go.Am
end
section
namespace Go.Am
open Go Go.Proofs
variable [Inhabited b7]
set_option maxRecDepth 20000
theorem adq(x:Ex):yj x↔((dU x).length<100000000/\(ga x).length<100000000/\(de x).length<100000000)/\qn (de x):=by
 obtain⟨op,nn,name,field,sub,line⟩:=x;simp only[yj,BL,Li,qg]
mutual
def BP:Sm->Prop
 | .mk _ _ to val conds H fields blocks _=>(yj to/\yj val/\(conds.length<100000000/\qn conds)/\(H.length<100000000/\∀l∈H,l.length<100000000)/\fields.length<100000000/\blocks.length<100000000)/\pe blocks
def mP:List Sm->Prop
 |[]=>True
 |x::r=>BP x/\mP r
def pe:List (List Sm)->Prop
 |[]=>True
 |b::r=>(b.length<100000000/\mP b)/\pe r
end
def yk(x:Sm):Prop:=yj (fe x)/\yj (eh x)/\((cH x).length<100000000/\qn (cH x))/\((eF x).length<100000000/\∀l∈eF x,l.length<100000000)/\(eu x).length<100000000/\(bL x).length<100000000
theorem adr(x:Sm):BP x↔yk x/\pe (bL x):=by
 obtain⟨op,name,to,val,conds,H,fields,blocks,line⟩:=x;unfold BP yk;rfl
theorem Z9(x:Sm):cX x=[]\/cX x=[(144,true,.d (.bool false))]:=by
 unfold cX;split
 ·exact .inl rfl
 ·exact .inr rfl
theorem am0{x:Sm}(h:yk x):IntKind.i64.wrap (jE x+jV x)=jE x+jV x:=by
 obtain⟨_,_,⟨I,_⟩,⟨AF,_⟩,_,_⟩:=h;apply az;have AG:0<=jE x/\jE x<200000000:=by
  unfold jE BN;split
  ·split<;>omega
  ·split
   ·omega
   ·split<;>omega
 have a2:0<=jV x/\jV x<=1:=by
  unfold jV;split<;>omega
 unfold bj;omega
section
variable {x:Sm} {v:Nat} {k:Kt} {R1:bZ} {a b:AV}
theorem aiL(M:yk x)(V:∀c∈bL x,KS c)(I:k .ret ⟨258,aI,[(2,true,.d (.bool false))],[⟨300,v,bu x⟩]⟩=R1):
 aO ctx 37 (b8 [1,0,1,0,0,1,0,0,1]) ⟨258,aI,[(0,true,a),(3,true,b),(4,true,.ptr 300 v 0)],[⟨300,v,bu x⟩]⟩ k=
 if jU x=true then k .normal ⟨258,aI,[(0,true,a),(3,true,b),(4,true,.ptr 300 v 0),(16,true,.d (.int .i64 (bL x).length)),(248,true,.d (.bool false))],[⟨300,v,bu x⟩]⟩else R1:=by
 have Y:b8 [1,0,1,0,0,1,0,0,1]=Code.seq (b8 [1,0,1,0,0,1,0,0,1,0]) (b8 [1,0,1,0,0,1,0,0,1,1]):=rfl;have Z:b8 [1,0,1,0,0,1,0,0,1,1]=Code.seq (b8 [1,0,1,0,0,1,0,0,1,1,0]) (b8 [1,0,1,0,0,1,0,0,1,1,1]):=rfl;have y:b8 [1,0,1,0,0,1,0,0,1,1,1]=Code.seq (b8 [1,0,1,0,0,1,0,0,1,1,1,0]) (b8 [1,0,1,0,0,1,0,0,1,1,1,1]):=rfl;have A':b8 [1,0,1,0,0,1,0,0,1,1,1,1]=Code.seq (b8 [1,0,1,0,0,1,0,0,1,1,1,1,0]) (b8 [1,0,1,0,0,1,0,0,1,1,1,1,1]):=rfl;have A0:b8 [1,0,1,0,0,1,0,0,1,1,1,1,1]=Code.seq (b8 [1,0,1,0,0,1,0,0,1,1,1,1,1,0]) (b8 [1,0,1,0,0,1,0,0,1,1,1,1,1,1]):=rfl;have A1:b8 [1,0,1,0,0,1,0,0,1,1,1,1,1,1]=Code.seq (b8 [1,0,1,0,0,1,0,0,1,1,1,1,1,1,0]) (b8 [1,0,1,0,0,1,0,0,1,1,1,1,1,1,1]):=rfl;have A2:b8 [1,0,1,0,0,1,0,0,1,1,1,1,1,1,1]=Code.seq (b8 [1,0,1,0,0,1,0,0,1,1,1,1,1,1,1,0]) (b8 [1,0,1,0,0,1,0,0,1,1,1,1,1,1,1,1]):=rfl;have A3:b8 [1,0,1,0,0,1,0,0,1,1,1,1,1,1,1,1]=Code.seq (b8 [1,0,1,0,0,1,0,0,1,1,1,1,1,1,1,1,0]) (b8 [1,0,1,0,0,1,0,0,1,1,1,1,1,1,1,1,1]):=rfl;have A4:b8 [1,0,1,0,0,1,0,0,1,1,1,1,1,1,1,1,1]=Code.seq (b8 [1,0,1,0,0,1,0,0,1,1,1,1,1,1,1,1,1,0]) (b8 [1,0,1,0,0,1,0,0,1,1,1,1,1,1,1,1,1,1]):=rfl;have D:∀c,Bw ctx 37 c k .ret ⟨258,aI,[(2,true,.d (.bool false))],[⟨300,v,bu x⟩]⟩=R1:=λ_=>I;have hw:=am0 M;obtain⟨O,T,⟨A5,A6⟩,⟨A7,A8⟩,A9,AA⟩:=M;have AB:KF [fe x]:=D9 (l:=[fe x]) (by simp) ⟨O,trivial⟩;have AC:KF [eh x]:=D9 (l:=[eh x]) (by simp) ⟨T,trivial⟩;have AD:KF (cH x):=D9 A5 A6;rw[aiK];rw[Y,gJ,atK,jT,Z,gJ,atA (D _)];cases Lp x
 ·rw[aja,aa4 adX,aa4 adX]
 rw[abf rfl,aiR,jT,y,gJ,atB (D _) ((adq _).1 O).1 AB];cases Lq x
 ·rw[aja,aa4 adX,aa4 adX]
 rw[abf rfl,aiR,jT,A',gJ,atC (D _) rfl ((adq _).1 T).1 AC AD];cases Hb x
 ·rw[aja,aa4 adX,aa4 adX]
 rw[abf rfl,aiR,jT,A0,gJ,atD (X:=[]),jT,A1,gJ,atE,jT,A2,gJ];have AE:∀E:Kt,E .ret ⟨258,aI,[(2,true,.d (.bool false))],[⟨300,v,bu x⟩]⟩=R1->aO ctx 37 (b8 [1,0,1,0,0,1,0,0,1,1,1,1,1,1,1,0]) ⟨258,aI,[(0,true,a),(3,true,b),(4,true,.ptr 300 v 0),(8,true,.d (.int .i64 (qL x))),(9,true,.d (.int .i64 (qM x))),(10,true,.d (.int .i64 (mO x))),(11,true,.d (.int .i64 (jE x))),(12,true,.d (.int .i64 (jV x)))]++cX x,[⟨300,v,bu x⟩]⟩ E=
  if Hc x=true then E .normal ⟨258,aI,[(0,true,a),(3,true,b),(4,true,.ptr 300 v 0),(186,true,.d (.bool false))],[⟨300,v,bu x⟩]⟩else R1:=by
  intro E U;unfold Hc;rcases Z9 x with J|J
  ·rw[J,afy,amY U hw];simp only[aa8]
  ·rw[J];simp only[agd,afJ];rw[amZ U hw];simp only[aa8]
 rw[AE _ (D _)];cases Hc x
 ·rw[aja,aa4 adX,aa4 adX]
 rw[abf rfl,aiR,jT,A3,gJ,atG A9 (D _)];cases (eu x).all dq
 ·rw[aja,aa4 adX,aa4 adX]
 rw[abf rfl,aiR,jT,A4,gJ,atH A7 A8 (D _)];cases (eF x).all ru
 ·rw[aja,aa4 adX,aa4 adX]
 rw[abf rfl,aiR,jT,atJ AA V I]
end
end Go.Am
end
section
namespace Go.Am
open Go Go.Proofs Go.Proofs.Tryz
variable [Inhabited b7]
set_option maxRecDepth 20000
theorem Lw(l:List Sm)(J:l.length<100000000)(T:∀x∈l,yk x)(U:∀x∈l,∀c∈bL x,KS c)(k:Kt)(R1 R2:bZ)
 (E:∀v X,k .ret ⟨258,aI,[(2,true,.d (.bool false))],[⟨300,v,X⟩]⟩=R1)
 (H:∀(Y:Env) v X,k (.exit 0) ⟨258,aI,Y,[⟨300,v,X⟩]⟩=R2):∀(rest pre:List Sm)(v:Nat)(X:aH),l=pre++rest->
 aO ctx 37 (.loop (b8 [1,0,1,0,0])) ⟨258,aI,[(0,true,.d (.list (l.map cq))),(3,true,.d (.int .i64 pre.length))],[⟨300,v,X⟩]⟩ k=if eR rest=true then R2 else R1
 |[],pre,v,X,I=>by
  have Z:pre.length=l.length:=by rw[I];simp
  rw[Z,ah];simp[b8,f37,H,eR]
 |x::rest,pre,v,X,I=>by
  have A':pre.length<l.length:=by rw[I];simp
  have A0:l[pre.length]=x:=by simp[I]
  have hm:x∈l:=by rw[I];simp
  have V:=λ(v:Nat) (a b:AV) (k:Kt)=>aiL (v:=v) (a:=a) (b:=b) (k:=k) (T x hm) (U x hm) rfl;have ih:∀v X,aO ctx 37 (.loop (b8 [1,0,1,0,0])) ⟨258,aI,[(0,true,.d (.list (l.map cq))),(3,true,.d (.int .i64 (pre.length+1)))],[⟨300,v,X⟩]⟩ k=if eR rest=true then R2 else R1:=λv X=>by
   have:=Lw l J T U k R1 R2 E H rest (pre++[x]) v X (by simp[I]);simpa using this
  have A1:IntKind.i64.wrap ((pre.length:Int)+1)=(pre.length:Int)+1:=az (by unfold bj;omega);have key:eR (x::rest)=(jU x&&eR rest):=by rw[eR]
  rw[key];generalize jU x=N at*;generalize eR rest=M at*;rw[ah];simp[b8,f37]at V ih⊢;simp[A',A0,fj];simp[V];cases N<;>simp[E,A1,ih]
theorem Xq{l:List Sm}(J:l.length<100000000)(T:∀x∈l,yk x)(U:∀x∈l,∀c∈bL x,KS c):KS l:=by
 have h:=λk R1 R2 E H v X=>Lw l J T U k R1 R2 E H l [] v X rfl;unfold KS;rw[amA (by simp)];simp[b8,f37]at h⊢;rw[h _ (some (.ret (.d (.bool false)),[])) (some (.ret (.d (.bool true)),[]))]
 ·cases eR l<;>simp
 ·intro v X;simp
 ·intro Y v X;simp
mutual
theorem aiN:∀x:Sm,BP x->yk x/\∀c∈bL x,KS c
 | .mk op name to val conds A2 fields blocks line,h=>by
  have h:=(adr _).1 h;exact⟨h.1,QH blocks h.2⟩
theorem CA:∀l:List Sm,mP l->∀x∈l,yk x/\∀c∈bL x,KS c
 |[],_,x,D=>by simp at D
 |y::r,h,x,D=>by
  simp only[mP]at h;have E:=aiN y h.1;have H:=CA r h.2;rcases abd.1 D with e|D
  ·rw[e];exact E
  ·exact H x D
theorem QH:∀l:List (List Sm),pe l->∀c∈l,KS c
 |[],_,c,O=>by simp at O
 |b::r,h,c,O=>by
  simp only[pe]at h;have E:=CA b h.1.2;have H:=QH r h.2;rcases abd.1 O with e|O
  ·rw[e];exact Xq h.1.1 (λx D=>(E x D).1) (λx D=>(E x D).2)
  ·exact H c O
end
theorem aaa{l:List Sm}(J:l.length<100000000)(h:mP l):KS l:=
 Xq J (λx D=>(CA l h x D).1) (λx D=>(CA l h x D).2)
end Go.Am
end
section
namespace Go.Am
open Go Go.Proofs
variable [Inhabited b7]
set_option maxRecDepth 20000
theorem atM:ai ctx 52 [.d (.int .i64 10)] []=some (.ret (.d (.list ((bJ 10).map dj))),[]):=bI 120 (by kernel_rfl)
theorem atN:ai ctx 52 [.d (.int .i64 11)] []=some (.ret (.d (.list ((bJ 11).map dj))),[]):=bI 120 (by kernel_rfl)
theorem atO:ai ctx 52 [.d (.int .i64 12)] []=some (.ret (.d (.list ((bJ 12).map dj))),[]):=bI 120 (by kernel_rfl)
theorem atP:ai ctx 52 [.d (.int .i64 13)] []=some (.ret (.d (.list ((bJ 13).map dj))),[]):=bI 120 (by kernel_rfl)
theorem atQ:ai ctx 52 [.d (.int .i64 14)] []=some (.ret (.d (.list ((bJ 14).map dj))),[]):=bI 120 (by kernel_rfl)
theorem atS:ai ctx 52 [.d (.int .i64 15)] []=some (.ret (.d (.list ((bJ 15).map dj))),[]):=bI 120 (by kernel_rfl)
theorem atT:ai ctx 52 [.d (.int .i64 16)] []=some (.ret (.d (.list ((bJ 16).map dj))),[]):=bI 120 (by kernel_rfl)
theorem atU:ai ctx 52 [.d (.int .i64 17)] []=some (.ret (.d (.list ((bJ 17).map dj))),[]):=bI 120 (by kernel_rfl)
theorem atV:ai ctx 52 [.d (.int .i64 18)] []=some (.ret (.d (.list ((bJ 18).map dj))),[]):=bI 120 (by kernel_rfl)
theorem atW:ai ctx 52 [.d (.int .i64 19)] []=some (.ret (.d (.list ((bJ 19).map dj))),[]):=bI 120 (by kernel_rfl)
theorem atX:ai ctx 52 [.d (.int .i64 20)] []=some (.ret (.d (.list ((bJ 20).map dj))),[]):=bI 120 (by kernel_rfl)
theorem atY:ai ctx 52 [.d (.int .i64 21)] []=some (.ret (.d (.list ((bJ 21).map dj))),[]):=bI 120 (by kernel_rfl)
theorem atZ:ai ctx 52 [.d (.int .i64 22)] []=some (.ret (.d (.list ((bJ 22).map dj))),[]):=bI 120 (by kernel_rfl)
theorem at0:ai ctx 52 [.d (.int .i64 23)] []=some (.ret (.d (.list ((bJ 23).map dj))),[]):=bI 120 (by kernel_rfl)
theorem at1:ai ctx 52 [.d (.int .i64 24)] []=some (.ret (.d (.list ((bJ 24).map dj))),[]):=bI 120 (by kernel_rfl)
theorem at3:ai ctx 52 [.d (.int .i64 25)] []=some (.ret (.d (.list ((bJ 25).map dj))),[]):=bI 120 (by kernel_rfl)
theorem at4:ai ctx 52 [.d (.int .i64 26)] []=some (.ret (.d (.list ((bJ 26).map dj))),[]):=bI 120 (by kernel_rfl)
theorem at5:ai ctx 52 [.d (.int .i64 27)] []=some (.ret (.d (.list ((bJ 27).map dj))),[]):=bI 120 (by kernel_rfl)
theorem at6:ai ctx 52 [.d (.int .i64 28)] []=some (.ret (.d (.list ((bJ 28).map dj))),[]):=bI 120 (by kernel_rfl)
theorem at7:ai ctx 52 [.d (.int .i64 29)] []=some (.ret (.d (.list ((bJ 29).map dj))),[]):=bI 120 (by kernel_rfl)
theorem aua:ai ctx 52 [.d (.int .i64 30)] []=some (.ret (.d (.list ((bJ 30).map dj))),[]):=bI 120 (by kernel_rfl)
theorem aub:ai ctx 52 [.d (.int .i64 31)] []=some (.ret (.d (.list ((bJ 31).map dj))),[]):=bI 120 (by kernel_rfl)
end Go.Am
end
section
namespace Go.Am
open Go Go.Proofs Go.Proofs.Tryz
variable [Inhabited b7]
set_option maxRecDepth 20000
abbrev Rw:=Int×Tx×Tx×List Tx
def Ga:List Rw:=[
 (10,[84,79,78],[105,73,111,79],[[73,78],[80,84],[81],[69,84]]),
 (11,[84,79,70],[105,73,111,79],[[73,78],[80,84],[81],[69,84]]),
 (12,[84,80],[105,73,111,79,46,46],[[73,78],[80,84],[81],[69,84]]),
 (13,[67,84,85],[105,105,73,111,79,46],[[67,85],[82],[80,86],[81],[67,86]]),
 (14,[67,84,68],[105,105,73,111,79,46],[[67,68],[76,68],[80,86],[81],[67,86]]),
 (15,[82,95,84,82,73,71],[105,111,46],[[67,76,75],[81]]),
 (16,[70,95,84,82,73,71],[105,111,46],[[67,76,75],[81]]),
 (17,[83,82],[105,105,111],[[83,49],[82],[81,49]]),
 (18,[82,83],[105,105,111],[[83],[82,49],[81,49]]),
 (20,[77,67,95,80,111,119,101,114],[73,105,111,111],[[65,120,105,115],[69,110,97,98,108,101],[83,116,97,116,117,115],[69,114,114,111,114]]),
 (21,[77,67,95,72,111,109,101],[73,105,111,111,111,111,111,46,46],[[65,120,105,115],[69,120,101,99,117,116,101],[68,111,110,101],[66,117,115,121],[65,99,116,105,118,101],[67,111,109,109,97,110,100,65,98,111,114,116,101,100],[69,114,114,111,114]]),
 (22,[77,67,95,83,116,111,112],[73,105,111,111,111,111,111,46,46],[[65,120,105,115],[69,120,101,99,117,116,101],[68,111,110,101],[66,117,115,121],[65,99,116,105,118,101],[67,111,109,109,97,110,100,65,98,111,114,116,101,100],[69,114,114,111,114]]),
 (23,[77,67,95,72,97,108,116],[73,105,111,111,111,111,111,46,46],[[65,120,105,115],[69,120,101,99,117,116,101],[68,111,110,101],[66,117,115,121],[65,99,116,105,118,101],[67,111,109,109,97,110,100,65,98,111,114,116,101,100],[69,114,114,111,114]]),
 (24,[77,67,95,77,111,118,101,65,98,115,111,108,117,116,101],[73,105,73,73,73,111,111,111,111,111,46,46],[[65,120,105,115],[69,120,101,99,117,116,101],[80,111,115,105,116,105,111,110],[86,101,108,111,99,105,116,121],[66,117,102,102,101,114,77,111,100,101],[68,111,110,101],[66,117,115,121],[65,99,116,105,118,101],[67,111,109,109,97,110,100,65,98,111,114,116,101,100],[69,114,114,111,114]]),
 (25,[77,67,95,77,111,118,101,82,101,108,97,116,105,118,101],[73,105,73,73,73,111,111,111,111,111,46,46],[[65,120,105,115],[69,120,101,99,117,116,101],[68,105,115,116,97,110,99,101],[86,101,108,111,99,105,116,121],[66,117,102,102,101,114,77,111,100,101],[68,111,110,101],[66,117,115,121],[65,99,116,105,118,101],[67,111,109,109,97,110,100,65,98,111,114,116,101,100],[69,114,114,111,114]]),
 (26,[77,67,95,77,111,118,101,65,100,100,105,116,105,118,101],[73,105,73,73,73,111,111,111,111,111,46,46],[[65,120,105,115],[69,120,101,99,117,116,101],[68,105,115,116,97,110,99,101],[86,101,108,111,99,105,116,121],[66,117,102,102,101,114,77,111,100,101],[68,111,110,101],[66,117,115,121],[65,99,116,105,118,101],[67,111,109,109,97,110,100,65,98,111,114,116,101,100],[69,114,114,111,114]]),
 (27,[77,67,95,77,111,118,101,86,101,108,111,99,105,116,121],[73,105,73,111,111,111,111,111,46,46],[[65,120,105,115],[69,120,101,99,117,116,101],[86,101,108,111,99,105,116,121],[73,110,86,101,108,111,99,105,116,121],[66,117,115,121],[65,99,116,105,118,101],[67,111,109,109,97,110,100,65,98,111,114,116,101,100],[69,114,114,111,114]]),
 (28,[77,67,95,71,101,97,114,73,110],[73,105,73,73,73,111,111,111,111,111,46,46],[[65,120,105,115],[69,120,101,99,117,116,101],[77,97,115,116,101,114],[78,117,109,101,114,97,116,111,114],[68,101,110,111,109,105,110,97,116,111,114],[73,110,71,101,97,114],[66,117,115,121],[65,99,116,105,118,101],[67,111,109,109,97,110,100,65,98,111,114,116,101,100],[69,114,114,111,114]]),
 (29,[77,67,95,82,101,115,101,116],[73,105,111,111,46],[[65,120,105,115],[69,120,101,99,117,116,101],[68,111,110,101],[69,114,114,111,114]]),
 (30,[77,67,95,83,101,116,80,111,115,105,116,105,111,110],[73,105,73,111,111,46],[[65,120,105,115],[69,120,101,99,117,116,101],[80,111,115,105,116,105,111,110],[68,111,110,101],[69,114,114,111,114]]),
 (31,[77,67,95,83,101,116,79,118,101,114,114,105,100,101],[73,105,73,111],[[65,120,105,115],[69,110,97,98,108,101],[80,101,114,99,101,110,116],[69,110,97,98,108,101,100]])]
def rwD(r:Rw):D:=.agg [.int .i64 r.1,.str r.2.1,.str r.2.2.1,.list (r.2.2.2.map .str)]
theorem aiO:ai ctx 67 [] []=some (.ret (.d (.list (Ga.map rwD))),[]):=bI 120 (by kernel_rfl)
def xr(k:Int):List Rw->Tx
 |[]=>[]
 |r::l=>if r.1=k then r.2.1 else xr k l
theorem QI(q:Int)(l:List Rw)(T:l.length<1000)(k:Kt)(RF:Tx->bZ)
 (H:∀t,k .ret ⟨24,aI,[(2,true,.d (.str t))],[]⟩=RF t)
 (I:∀Y:Env,k (.exit 0) ⟨24,aI,Y,[]⟩=RF []):∀(rest pre:List Rw),l=pre++rest->
 aO ctx 36 (.loop (Code.at (bk f36) [1,1,0,1,0,0])) ⟨24,aI,[(0,true,.d (.int .i64 q)),(3,true,.d (.list (l.map rwD))),(4,true,.d (.int .i64 pre.length))],[]⟩ k=RF (xr q rest)
 |[],pre,E=>by
  have U:pre.length=l.length:=by rw[E];simp
  rw[U,ah];simp[f36,I,xr]
 |x::rest,pre,E=>by
  have J:pre.length<l.length:=by rw[E];simp
  have M:l[pre.length]=x:=by simp[E]
  have ih:=QI q l T k RF H I rest (pre++[x]) (by simp[E]);have V:IntKind.i64.wrap ((pre.length:Int)+1)=(pre.length:Int)+1:=az (by unfold bj;omega);rw[ah];by_cases O:x.1=q
  ·simp[f36];simp[J,M,rwD,O,H,xr]
  ·simp[f36]at ih⊢;simp[J,M,rwD,O,V,ih,xr]
theorem auc(q:Int):ai ctx 36 [.d (.int .i64 q)] []=some (.ret (.d (.str (xr q Ga))),[]):=by
 have h:=λk RF H I=>QI q Ga (by decide) k RF H I Ga [] rfl;have Z:=aiO;rw[amz (by simp)];generalize Ga=l at*;simp[f36]at h⊢;simp[Z];rw[h _ (λt=>some (.ret (.d (.str t)),[])) (by simp) (by simp)]
theorem aeq(q:Int):(xr q Ga=[])↔qh q=false:=by
 by_cases h:10<=q/\q<=31
 ·have:q=10\/q=11\/q=12\/q=13\/q=14\/q=15\/q=16\/q=17\/q=18\/q=19\/q=20\/q=21\/q=22\/q=23\/q=24\/q=25\/q=26\/q=27\/q=28\/q=29\/q=30\/q=31:=by omega
  rcases this with h|h|h|h|h|h|h|h|h|h|h|h|h|h|h|h|h|h|h|h|h|h<;>subst h<;>decide
 ·have e:∀n:Int,10<=n->n<=31->¬n=q:=λn a b c=>h (by omega);have y:bJ q=[]:=by
   unfold bJ Lj;simp only[tV];rw[aa4 (e _ (by decide) (by decide)),aa4 (e _ (by decide) (by decide)),aa4 (e _ (by decide) (by decide)),aa4 (e _ (by decide) (by decide)),aa4 (e _ (by decide) (by decide)),aa4 (e _ (by decide) (by decide)),aa4 (e _ (by decide) (by decide)),aa4 (e _ (by decide) (by decide)),aa4 (e _ (by decide) (by decide)),aa4 (e _ (by decide) (by decide)),aa4 (e _ (by decide) (by decide)),aa4 (e _ (by decide) (by decide)),aa4 (e _ (by decide) (by decide)),aa4 (e _ (by decide) (by decide)),aa4 (e _ (by decide) (by decide)),aa4 (e _ (by decide) (by decide)),aa4 (e _ (by decide) (by decide)),aa4 (e _ (by decide) (by decide)),aa4 (e _ (by decide) (by decide)),aa4 (e _ (by decide) (by decide)),aa4 (e _ (by decide) (by decide))]
  have A':xr q Ga=[]:=by
   unfold Ga;simp only[xr];rw[aa4 (e _ (by decide) (by decide)),aa4 (e _ (by decide) (by decide)),aa4 (e _ (by decide) (by decide)),aa4 (e _ (by decide) (by decide)),aa4 (e _ (by decide) (by decide)),aa4 (e _ (by decide) (by decide)),aa4 (e _ (by decide) (by decide)),aa4 (e _ (by decide) (by decide)),aa4 (e _ (by decide) (by decide)),aa4 (e _ (by decide) (by decide)),aa4 (e _ (by decide) (by decide)),aa4 (e _ (by decide) (by decide)),aa4 (e _ (by decide) (by decide)),aa4 (e _ (by decide) (by decide)),aa4 (e _ (by decide) (by decide)),aa4 (e _ (by decide) (by decide)),aa4 (e _ (by decide) (by decide)),aa4 (e _ (by decide) (by decide)),aa4 (e _ (by decide) (by decide)),aa4 (e _ (by decide) (by decide)),aa4 (e _ (by decide) (by decide))]
  rw[A'];unfold qh;rw[y];simp
end Go.Am
end
section
namespace Go.Am
open Go Go.Proofs
variable [Inhabited b7]
set_option maxRecDepth 20000
section
variable {vs:List Vr} {n:Int} (D:vs.length<1000000) (E:∀v∈vs,dM v=true)
def Xr(vs:List Vr)(x:Sm):EL:=match bq vs (iB x)with
 |none=>(9,lL x)
 |some v=>if v.ty<=2 then (10,lL x)else jm vs v.ty (lL x) (eu x) (cH x) []
def coE(vs:List Vr)(x:Sm):EL:=match bq vs (iB x)with
 |none=>(9,lL x)
 |some v=>if v.sec=1 then (1,lL x)else if v.arr=true\/v.ty≠1 then (10,lL x)else fJ (lM vs 1 (cH x)) (wj vs (bL x))
include D E
end
theorem tX(vs:List Vr)(lp:Bool)(x:Sm):kU vs lp x=
 if bK x=1 then F5 vs (fe x) (eh x) (lL x)
 else if bK x=2 then gf vs lp (cH x) (bL x)
 else if bK x=3 then fJ (dG vs (eh x) 1) (gf vs lp [] (bL x))
 else if bK x=4 then coE vs x
 else if bK x=5 then fJ (dG vs (eh x) 2) (wj vs (bL x))
 else if bK x=6 then fJ (wj vs (bL x)) (dG vs (eh x) 2)
 else if bK x=7 then (if lp=true then (0,0)else (14,lL x))
 else if bK x=9 then Xr vs x
 else (0,0):=by
 obtain⟨op,name,to,val,conds,D,fields,blocks,line⟩:=x;unfold kU coE Xr;rfl
mutual
def QJ:Sm->Nat
 | .mk _ _ _ _ conds D fields blocks _=>1+conds.length+D.length+fields.length+xu blocks
def s6:List Sm->Nat
 |[]=>0
 |x::r=>QJ x+s6 r
def xu:List (List Sm)->Nat
 |[]=>0
 |b::r=>s6 b+1+xu r
end
theorem Ea:∀l:List Sm,l.length<=s6 l
 |[]=>by simp[s6]
 | .mk _ _ _ _ c E f H _::r=>by have:=Ea r;simp only[s6,QJ,abb];omega
theorem LA:∀l:List (List Sm),l.length<=xu l
 |[]=>by simp[xu]
 |b::r=>by have:=LA r;simp only[xu,abb];omega
section
variable {vs:List Vr} {n:Int} (I:vs.length<1000000) (J:∀v∈vs,dM v=true)
end
section
variable {vs:List Vr} {n:Int} (D:vs.length<1000000) (E:∀v∈vs,dM v=true)
theorem mj{a b:EL}(h:a.1=0):fJ a b=b:=by unfold fJ;rw[aa4 (by simp[h])]
theorem qo{a b:EL}(h:¬a.1=0):fJ a b=a:=by unfold fJ;rw[abf h]
include D E
end
def dV(e:EL):EL:=if e.1=0 then (0,0)else e
end Go.Am
end
section
namespace Go.Am
open Go Go.Proofs Go.Proofs.Tryz
variable [Inhabited b7]
set_option maxRecDepth 20000
@[reducible] noncomputable def gq(p:List Nat):Code:=Code.at (bk f14) p
def Xs(w:Vr):Bool:=dq w.name&&decide (0<=w.sec/\w.sec<=2)
def Xt(w:Vr):Bool:=decide (w.ty=1\/w.ty=2)||qh w.ty
def Xu(w:Vr):Bool:=if w.arr=true then decide (w.ty<=2/\0<=w.lo/\w.lo<=w.hi/\w.hi<=255)else decide (w.lo=0/\w.hi=0)
def fiE(w:Vr):Bool:=!decide (((w.arr=true\/2<w.ty)/\w.init≠0)\/(w.ty=2/\(w.init<0\/1<w.init))\/w.init= -9223372036854775808)
theorem aiQ(w:Vr):dM w=(Xs w&&(Xt w&&(Xu w&&fiE w))):=by
 unfold dM Xs Xt Xu fiE;simp only[Bool.and_assoc]
section
variable {w:Vr} {v:Nat} {k:Kt} {R1:bZ} {a b:AV} {B:aH} (D:k .ret ⟨129,aI,[(2,true,.d (.bool false))],[⟨150,1,B⟩,⟨300,v,iL w⟩]⟩=R1)
include D
theorem am1:aO ctx 14 (gq [1,1,0,1,0,0,1,0,0,1,0]) ⟨129,aI,[(1,true,a),(3,true,b),(4,true,.ptr 300 v 0)],[⟨150,1,B⟩,⟨300,v,iL w⟩]⟩ k=
 if Xs w=true then k .normal ⟨129,aI,[(1,true,a),(3,true,b),(4,true,.ptr 300 v 0),(40,true,.d (.bool false))],[⟨150,1,B⟩,⟨300,v,iL w⟩]⟩else R1:=by
 have U:=fh w.name;unfold Xs;simp only[iL]at D;generalize dq w.name=N at*;cases N with
 |false=>(simp[gq,f14];simp[U,D])
 |true=>
  by_cases E:w.sec<0
  ·have H:¬0<=w.sec:=by omega
   (simp[gq,f14];simp[U,E,H,D])
  ·have H:0<=w.sec:=by omega
   by_cases I:2<w.sec
   ·have M:¬w.sec<=2:=by omega
    (simp[gq,f14];simp[U,E,H,I,M,D])
   ·have M:w.sec<=2:=by omega
    (simp[gq,f14];simp[U,E,H,I,M,D])
theorem am2{d:AV}:aO ctx 14 (gq [1,1,0,1,0,0,1,0,0,1,1,0]) ⟨129,aI,[(1,true,a),(3,true,b),(4,true,.ptr 300 v 0),(40,true,d)],[⟨150,1,B⟩,⟨300,v,iL w⟩]⟩ k=
 if Xt w=true then k .normal ⟨129,aI,[(1,true,a),(3,true,b),(4,true,.ptr 300 v 0),(54,true,.d (.bool false))],[⟨150,1,B⟩,⟨300,v,iL w⟩]⟩else R1:=by
 have U:=auc w.ty;have A1:=aeq w.ty;unfold Xt;simp only[iL]at D;generalize xr w.ty Ga=T at*;generalize qh w.ty=Q at*;by_cases E:w.ty=1
 ·(simp only[E]at D⊢;simp[gq,f14];simp[E])
 ·by_cases H:w.ty=2
  ·(simp only[H]at D⊢;simp[gq,f14];simp[H])
  ·by_cases Y:T=[]
   ·have A':=A1.1 Y
    (simp[gq,f14];simp[U,E,H,Y,A',D])
   ·have A':Q=true:=by cases Q with|true=>rfl|false=>exact absurd (A1.2 rfl) Y
    (simp[gq,f14];simp[U,E,H,Y,A',D])
theorem am3{d:AV}:aO ctx 14 (gq [1,1,0,1,0,0,1,0,0,1,1,1,0]) ⟨129,aI,[(1,true,a),(3,true,b),(4,true,.ptr 300 v 0),(54,true,d)],[⟨150,1,B⟩,⟨300,v,iL w⟩]⟩ k=
 if Xu w=true then k .normal ⟨129,aI,[(1,true,a),(3,true,b),(4,true,.ptr 300 v 0),(93,true,.d (.bool false))],[⟨150,1,B⟩,⟨300,v,iL w⟩]⟩else R1:=by
 unfold Xu;simp only[iL]at D;obtain⟨name,ty,sec,arr,lo,hi,init,line⟩:=w;simp only at D⊢;cases arr with
 |false=>
  by_cases E:lo=0
  ·by_cases H:hi=0
   ·(simp[gq,f14];simp[E,H,D])
   ·(simp only[E]at D;simp[gq,f14];simp[E,H,D])
  ·(simp[gq,f14];simp[E,D])
 |true=>
  by_cases E:2<ty
  ·have J:¬ty<=2:=by omega
   (simp[gq,f14];simp[E,J,D])
  ·have J:ty<=2:=by omega
   by_cases H:lo<0
   ·have V:¬0<=lo:=by omega
    (simp[gq,f14];simp[E,J,H,V,D])
   ·have V:0<=lo:=by omega
    by_cases I:hi<lo
    ·have Z:¬lo<=hi:=by omega
     (simp[gq,f14];simp[E,J,H,V,I,Z,D])
    ·have Z:lo<=hi:=by omega
     by_cases M:255<hi
     ·have O:¬hi<=255:=by omega
      (simp[gq,f14];simp[E,J,H,V,I,Z,M,O,D])
     ·have O:hi<=255:=by omega
      (simp[gq,f14];simp[E,J,H,V,I,Z,M,O,D])
theorem am4{d:AV}:aO ctx 14 (gq [1,1,0,1,0,0,1,0,0,1,1,1,1]) ⟨129,aI,[(1,true,a),(3,true,b),(4,true,.ptr 300 v 0),(93,true,d)],[⟨150,1,B⟩,⟨300,v,iL w⟩]⟩ k=
 if fiE w=true then k .normal ⟨129,aI,[(1,true,a),(3,true,b),(125,true,.d (.bool false))],[⟨150,1,B⟩,⟨300,v,iL w⟩]⟩else R1:=by
 unfold fiE;simp only[iL]at D;obtain⟨name,ty,sec,arr,lo,hi,init,line⟩:=w;simp only at D⊢;cases arr with
 |true=>
  by_cases H:init=0
  ·subst H;by_cases I:ty=2
   ·subst I;(simp[gq,f14];all_goals simp[D])
   ·(simp[gq,f14];all_goals simp[I,D])
  ·(simp[gq,f14];all_goals simp[H,D])
 |false=>
  by_cases E:2<ty
  ·have I:¬ty=2:=by omega
   have J:¬ty<=2:=by omega
   by_cases H:init=0
   ·subst H;(simp[gq,f14];all_goals simp[E,J,I,D])
   ·(simp[gq,f14];all_goals simp[E,J,H,I,D])
  ·have J:ty<=2:=by omega
   by_cases I:ty=2
   ·subst I;by_cases M:init<0
    ·have O:¬0<=init:=by omega
     (simp[gq,f14];all_goals simp[M,O,D])
    ·have O:0<=init:=by omega
     by_cases A2:1<init
     ·have A0:¬init<=1:=by omega
      (simp[gq,f14];all_goals simp[M,O,A2,A0,D])
     ·have y:¬init= -9223372036854775808:=by omega
      have A0:init<=1:=by omega
      (simp[gq,f14];all_goals simp[M,O,A2,A0,y,D])
   ·by_cases y:init= -9223372036854775808
    ·subst y;(simp[gq,f14];all_goals simp[E,J,I,D])
    ·(simp[gq,f14];all_goals simp[E,J,I,y,D])
end
section
variable {w:Vr} {v:Nat} {k:Kt} {R1:bZ} {a b:AV} {B:aH}
theorem aiS(Z:k .ret ⟨129,aI,[(2,true,.d (.bool false))],[⟨150,1,B⟩,⟨300,v,iL w⟩]⟩=R1):
 aO ctx 14 (gq [1,1,0,1,0,0,1,0,0,1]) ⟨129,aI,[(1,true,a),(3,true,b),(4,true,.ptr 300 v 0)],[⟨150,1,B⟩,⟨300,v,iL w⟩]⟩ k=
 if dM w=true then k .normal ⟨129,aI,[(1,true,a),(3,true,b),(125,true,.d (.bool false))],[⟨150,1,B⟩,⟨300,v,iL w⟩]⟩else R1:=by
 have A1:gq [1,1,0,1,0,0,1,0,0,1]=Code.seq (gq [1,1,0,1,0,0,1,0,0,1,0]) (gq [1,1,0,1,0,0,1,0,0,1,1]):=rfl;have A2:gq [1,1,0,1,0,0,1,0,0,1,1]=Code.seq (gq [1,1,0,1,0,0,1,0,0,1,1,0]) (gq [1,1,0,1,0,0,1,0,0,1,1,1]):=rfl;have A3:gq [1,1,0,1,0,0,1,0,0,1,1,1]=Code.seq (gq [1,1,0,1,0,0,1,0,0,1,1,1,0]) (gq [1,1,0,1,0,0,1,0,0,1,1,1,1]):=rfl;have U:∀c,Bw ctx 14 c k .ret ⟨129,aI,[(2,true,.d (.bool false))],[⟨150,1,B⟩,⟨300,v,iL w⟩]⟩=R1:=λ_=>Z;rw[aiQ,A1,gJ,am1 (U _)];cases Xs w
 ·rw[aja,aa4 adX,aa4 adX]
 rw[abf rfl,aiR,jT,A2,gJ,am2 (U _)];cases Xt w
 ·rw[aja,aa4 adX,aa4 adX]
 rw[abf rfl,aiR,jT,A3,gJ,am3 (U _)];cases Xu w
 ·rw[aja,aa4 adX,aa4 adX]
 rw[abf rfl,aiR,jT,am4 Z]
end
theorem QK(l:List Vr)(A4:l.length<=64)(D E:AV)(k:Kt)(R1 R2:bZ)
 (I:∀v X,k .ret ⟨129,aI,[(2,true,.d (.bool false))],[⟨150,1,.box [D,.d (.list (l.map bN)),E]⟩,⟨300,v,X⟩]⟩=R1)
 (J:∀(b c:AV) v X,k (.exit 0) ⟨129,aI,[(1,true,.ptr 150 1 0),(3,true,b),(19,true,c)],[⟨150,1,.box [D,.d (.list (l.map bN)),E]⟩,⟨300,v,X⟩]⟩=R2):∀(rest pre:List Vr)(v:Nat)(X:aH),l=pre++rest->
 aO ctx 14 (.loop (gq [1,1,0,1,0,0])) ⟨129,aI,[(1,true,.ptr 150 1 0),(3,true,.d (.int .i64 pre.length))],[⟨150,1,.box [D,.d (.list (l.map bN)),E]⟩,⟨300,v,X⟩]⟩ k=if rest.all dM=true then R2 else R1
 |[],pre,v,X,H=>by
  have A5:pre.length=l.length:=by rw[H];simp
  rw[A5,ah];simp[gq,f14,J]
 |x::rest,pre,v,X,H=>by
  have A6:pre.length<l.length:=by rw[H];simp
  have A7:l[pre.length]=x:=by simp[H]
  have O:=λ(v:Nat) (a b:AV) (k:Kt)=>aiS (w:=x) (v:=v) (a:=a) (b:=b) (k:=k) (B:=.box [D,.d (.list (l.map bN)),E]) rfl;have ih:∀v X,aO ctx 14 (.loop (gq [1,1,0,1,0,0])) ⟨129,aI,[(1,true,.ptr 150 1 0),(3,true,.d (.int .i64 (pre.length+1)))],[⟨150,1,.box [D,.d (.list (l.map bN)),E]⟩,⟨300,v,X⟩]⟩ k=if rest.all dM=true then R2 else R1:=λv X=>by
   have:=QK l A4 D E k R1 R2 I J rest (pre++[x]) v X (by simp[H]);simpa using this
  have A8:IntKind.i64.wrap ((pre.length:Int)+1)=(pre.length:Int)+1:=az (by unfold bj;omega);rw[aiP];generalize dM x=N at*;generalize rest.all dM=M at*;rw[ah];simp[gq,f14]at O ih⊢;simp[A6,A7,bN,eV];simp[O];cases N<;>simp[I,A8,ih]
theorem aiT{p:Pg}(O:p.body.length<100000000)(A9:mP p.body):ai ctx 14 [.d (.agg [.str p.name,.list (p.vars.map bN),.list (p.body.map cq)])] []=some (.ret (.d (.bool (qi p))),[]):=by
 have V:=fh p.name;have y:=aaa O A9;unfold KS at y;rw[ams (by simp)];unfold qi;generalize dq p.name=N at*;generalize eR p.body=M at*;cases N with
 |false=>simp[f14,V]
 |true=>
  by_cases A':64<p.vars.length
  ·have Y:(64:Int)<p.vars.length:=by omega
   have T:¬p.vars.length<=64:=by omega
   simp[f14,V,A',Y,T]
  ·have Y:¬(64:Int)<p.vars.length:=by omega
   have T:p.vars.length<=64:=by omega
   have A0:=λD E k R1 R2 I J v X=>QK p.vars T D E k R1 R2 I J p.vars [] v X rfl;generalize p.vars.all dM=Q at*;simp[gq,f14]at A0;simp[f14,V,A',Y,T];rw[A0 _ _ _ (some (.ret (.d (.bool false)),[])) (some (.ret (.d (.bool M)),[]))]
   ·cases Q<;>simp
   ·intro v X;simp
   ·intro b c v X;simp[y]
def SE(l:List Ex):Prop:=∀most:Int,∃n d:Int,ai ctx 108 [.d (.list (l.map bU)),.d (.int .i64 most)] []=some (.ret (.bg [.d (.int .i64 n),.d (.int .i64 d)]),[])
theorem QL(l:List Ex)(E:l.length<100000000)(J:∀x∈l,SE (de x))(most:Int)(k:Kt)(Q:bZ->Prop)
 (H:∀(n d:Int)(b c:AV),Q (k (.exit 0) ⟨44,aI,[(0,true,.d (.list (l.map bU))),(1,true,.d (.int .i64 most)),(6,true,.d (.int .i64 n)),(7,true,.d (.int .i64 d)),(8,true,b),(19,true,c)],[]⟩)):∀(rest pre:List Ex)(n d:Int),l=pre++rest->
 Q (aO ctx 108 (.loop (Code.at (bk f108) [1,1,0,1,0,0])) ⟨44,aI,[(0,true,.d (.list (l.map bU))),(1,true,.d (.int .i64 most)),(6,true,.d (.int .i64 n)),(7,true,.d (.int .i64 d)),(8,true,.d (.int .i64 pre.length))],[]⟩ k)
 |[],pre,n,d,D=>by
  have T:pre.length=l.length:=by rw[D];simp
  rw[T,ah];simp[f108,H]
 |x::rest,pre,n,d,D=>by
  have M:pre.length<l.length:=by rw[D];simp
  have U:l[pre.length]=x:=by simp[D]
  obtain⟨m,Y,hm⟩:=J x (by rw[D];simp) (IntKind.i64.wrap (most-n));have ih:∀n d,Q (aO ctx 108 (.loop (Code.at (bk f108) [1,1,0,1,0,0])) ⟨44,aI,[(0,true,.d (.list (l.map bU))),(1,true,.d (.int .i64 most)),(6,true,.d (.int .i64 n)),(7,true,.d (.int .i64 d)),(8,true,.d (.int .i64 (pre.length+1)))],[]⟩ k):=λn d=>by
   have:=QL l E J most k Q H rest (pre++[x]) n d (by simp[D]);simpa using this
  have V:IntKind.i64.wrap ((pre.length:Int)+1)=(pre.length:Int)+1:=az (by unfold bj;omega);rw[ah];by_cases O:n<=most
  ·simp[f108]at ih⊢;simp[M,U,O,aJ,hm,V,ih]
  ·simp[f108];simp[M,O,H]
theorem aiV{l:List Ex}(E:l.length<100000000)(J:∀x∈l,SE (de x)):SE l:=by
 intro most;have h:=λk Q H=>QL l E J most k Q H l [] 0 0 rfl;rw[ahz (by simp)];simp[f108]at h⊢;apply h _ (λA=>∃n d:Int,A=some (.ret (.bg [.d (.int .i64 n),.d (.int .i64 d)]),[]));intro n d b c;simp
mutual
theorem aud:∀x:Ex,yj x->SE (de x)
 | .mk op nn name field sub line,h=>by
  simp only[yj]at h;exact aiV h.1.2.2 (Uo sub h.2)
theorem Uo:∀l:List Ex,qn l->∀x∈l,SE (de x)
 |[],_,x,I=>by simp at I
 |y::r,h,x,I=>by
  simp only[qn]at h;rcases abd.1 I with e|I
  ·rw[e];exact aud y h.1
  ·exact Uo r h.2 x I
end
theorem Xw{l:List Ex}(E:l.length<100000000)(h:qn l):SE l:=aiV E (Uo l h)
@[reducible] noncomputable def lS(p:List Nat):Code:=Code.at (bk f65) p
def SS(l:List Sm):Prop:=∀most:Int,∃n d:Int,ai ctx 65 [.d (.list (l.map cq)),.d (.int .i64 most)] []=some (.ret (.bg [.d (.int .i64 n),.d (.int .i64 d)]),[])
section
variable {x:Sm} {v:Nat} {k:Kt} {Q:bZ->Prop} {a b:AV} {most:Int}
theorem ssA(D:SE [fe x,eh x])(E:SE (cH x))(n d:Int)
 (H:∀(n d:Int)(J M O T:AV),Q (k .normal ⟨136,aI,[(0,true,a),(1,true,.d (.int .i64 most)),(6,true,.d (.int .i64 n)),(7,true,.d (.int .i64 d)),(8,true,b),(9,true,.ptr 550 v 0),(42,true,J),(43,true,M),(44,true,O),(45,true,T)],[⟨550,v,bu x⟩]⟩)):
 Q (aO ctx 65 (lS [1,1,0,1,0,0,1,0,0,1,1,0]) ⟨136,aI,[(0,true,a),(1,true,.d (.int .i64 most)),(6,true,.d (.int .i64 n)),(7,true,.d (.int .i64 d)),(8,true,b),(9,true,.ptr 550 v 0)],[⟨550,v,bu x⟩]⟩ k):=by
 unfold SE at D E;simp[aJ]at D;have I:IntKind.i64.wrap 1=1:=by decide
 have U:IntKind.i64.wrap 2=2:=by decide
 have V:List.range' 0 2=[0,1]:=rfl;simp only[bu]at H;obtain⟨m,y,hm⟩:=D (IntKind.i64.wrap (most-n));simp[lS,f65,V];rw[ah];simp[hm,I];generalize IntKind.i64.wrap (n+m)=Y;obtain⟨A',d2,Z⟩:=E (IntKind.i64.wrap (most-Y));rw[ah];simp[Z,I,U];rw[ah];simp[H]
end
section
variable {x:Sm} {v:Nat} {k:Kt} {Q:bZ->Prop} {a b:AV} {most:Int}
theorem ssB(n d:Int)(I J A5 A6:AV)
 (D:∀(n:Int),Q (k .normal ⟨136,aI,[(0,true,a),(1,true,.d (.int .i64 most)),(6,true,.d (.int .i64 n)),(7,true,.d (.int .i64 d)),(8,true,b),(9,true,.ptr 550 v 0)],[⟨550,v,bu x⟩]⟩)):
 Q (aO ctx 65 (lS [1,1,0,1,0,0,1,0,0,1,1,1,0]) ⟨136,aI,[(0,true,a),(1,true,.d (.int .i64 most)),(6,true,.d (.int .i64 n)),(7,true,.d (.int .i64 d)),(8,true,b),(9,true,.ptr 550 v 0),(42,true,I),(43,true,J),(44,true,A5),(45,true,A6)],[⟨550,v,bu x⟩]⟩ k):=by
 simp only[bu]at D;simp[lS,f65];apply D
theorem LB(V:(eF x).length<100000000)(d:Int)
 (D:∀(n:Int)(I J:AV),Q (k (.exit 4) ⟨136,aI,[(0,true,a),(1,true,.d (.int .i64 most)),(6,true,.d (.int .i64 n)),(7,true,.d (.int .i64 d)),(8,true,b),(9,true,.ptr 550 v 0),(14,true,I),(88,true,J)],[⟨550,v,bu x⟩]⟩)):∀(rest pre:List (List Int))(n:Int),eF x=pre++rest->
 Q (aO ctx 65 (.loop (lS [1,1,0,1,0,0,1,0,0,1,1,1,1,0,1,0,0])) ⟨136,aI,[(0,true,a),(1,true,.d (.int .i64 most)),(6,true,.d (.int .i64 n)),(7,true,.d (.int .i64 d)),(8,true,b),(9,true,.ptr 550 v 0),(14,true,.d (.int .i64 pre.length))],[⟨550,v,bu x⟩]⟩ k)
 |[],pre,n,E=>by
  have A':pre.length=(eF x).length:=by rw[E];simp
  simp only[bu]at D;rw[A',ah];simp[lS,f65,D]
 |c::rest,pre,n,E=>by
  have T:pre.length<(eF x).length:=by rw[E];simp
  have A0:(eF x)[pre.length]=c:=by simp[E]
  have ih:=λn=>LB V d D rest (pre++[c]) n (by simp[E]);have A1:IntKind.i64.wrap ((pre.length:Int)+1)=(pre.length:Int)+1:=az (by unfold bj;omega);simp only[bu]at D;rw[ah];by_cases U:n<=most
  ·simp[lS,f65]at ih⊢;simp[T,A0,U,n8,A1];apply ih
  ·simp[lS,f65];simp[T,U,D]
theorem LC(V:(bL x).length<100000000)(M:∀c∈bL x,SS c)
 (D:∀(n d:Int)(I J:AV),Q (k (.exit 6) ⟨136,aI,[(0,true,a),(1,true,.d (.int .i64 most)),(6,true,.d (.int .i64 n)),(7,true,.d (.int .i64 d)),(8,true,b),(9,true,.ptr 550 v 0),(15,true,I),(111,true,J)],[⟨550,v,bu x⟩]⟩)):∀(rest pre:List (List Sm))(n d:Int),bL x=pre++rest->
 Q (aO ctx 65 (.loop (lS [1,1,0,1,0,0,1,0,0,1,1,1,1,1,1,0,0])) ⟨136,aI,[(0,true,a),(1,true,.d (.int .i64 most)),(6,true,.d (.int .i64 n)),(7,true,.d (.int .i64 d)),(8,true,b),(9,true,.ptr 550 v 0),(15,true,.d (.int .i64 pre.length))],[⟨550,v,bu x⟩]⟩ k)
 |[],pre,n,d,E=>by
  have A':pre.length=(bL x).length:=by rw[E];simp
  simp only[bu]at D;rw[A',ah];simp[lS,f65,D]
 |c::rest,pre,n,d,E=>by
  have T:pre.length<(bL x).length:=by rw[E];simp
  have A0:(bL x)[pre.length]=c:=by simp[E]
  have ih:=λn d=>LC V M D rest (pre++[c]) n d (by simp[E]);obtain⟨m,AG,hm⟩:=M c (by rw[E];simp) (IntKind.i64.wrap (most-n));have A1:IntKind.i64.wrap ((pre.length:Int)+1)=(pre.length:Int)+1:=az (by unfold bj;omega);simp only[bu]at D;rw[ah];by_cases U:n<=most
  ·simp[lS,f65]at ih⊢;simp[T,A0,U,dz,hm,A1];apply ih
  ·simp[lS,f65];simp[T,U,D]
theorem aiW(H:yk x)(M:∀c∈bL x,SS c)(n d:Int)
 (D:∀(n d:Int)(I J:AV),Q (k .normal ⟨136,aI,[(0,true,a),(1,true,.d (.int .i64 most)),(6,true,.d (.int .i64 n)),(7,true,.d (.int .i64 d)),(8,true,b),(9,true,.ptr 550 v 0),(15,true,I),(111,true,J)],[⟨550,v,bu x⟩]⟩)):
 Q (aO ctx 65 (lS [1,1,0,1,0,0,1,0,0,1,1]) ⟨136,aI,[(0,true,a),(1,true,.d (.int .i64 most)),(6,true,.d (.int .i64 n)),(7,true,.d (.int .i64 d)),(8,true,b),(9,true,.ptr 550 v 0)],[⟨550,v,bu x⟩]⟩ k):=by
 obtain⟨A9,AA,⟨Y,AB⟩,⟨AC,AH⟩,AI,AD⟩:=H;have AE:lS [1,1,0,1,0,0,1,0,0,1,1]=Code.seq (lS [1,1,0,1,0,0,1,0,0,1,1,0]) (lS [1,1,0,1,0,0,1,0,0,1,1,1]):=rfl;have AF:lS [1,1,0,1,0,0,1,0,0,1,1,1]=Code.seq (lS [1,1,0,1,0,0,1,0,0,1,1,1,0]) (lS [1,1,0,1,0,0,1,0,0,1,1,1,1]):=rfl;rw[AE,gJ];apply ssA (Xw (l:=[fe x,eh x]) (by simp) ⟨A9,AA,trivial⟩) (Xw Y AB);intro n d I J A5 A6;rw[jT,AF,gJ];apply ssB;intro n;rw[jT];have A7:=λk Q D=>LB (a:=a) (b:=b) (v:=v) (most:=most) (k:=k) (Q:=Q) AC d D (eF x) [] n rfl;simp[lS,f65]at A7⊢;apply A7;intro n I J;have A8:=λk Q D=>LC (a:=a) (b:=b) (v:=v) (most:=most) (k:=k) (Q:=Q) AD M D (bL x) [] n d rfl;simp[lS,f65]at A8⊢;apply A8;intro n d I J;simp only[bu]at D;simp[D]
end
theorem QM(l:List Sm)(A2:l.length<100000000)(A3:∀x∈l,yk x)(M:∀x∈l,∀c∈bL x,SS c)(most:Int)(k:Kt)(Q:bZ->Prop)
 (O:∀(n d:Int)(b c:AV) v X,Q (k (.exit 0) ⟨136,aI,[(0,true,.d (.list (l.map cq))),(1,true,.d (.int .i64 most)),(6,true,.d (.int .i64 n)),(7,true,.d (.int .i64 d)),(8,true,b),(26,true,c)],[⟨550,v,X⟩]⟩)):∀(rest pre:List Sm)(n d:Int)(v:Nat)(X:aH),l=pre++rest->
 Q (aO ctx 65 (.loop (lS [1,1,0,1,0,0])) ⟨136,aI,[(0,true,.d (.list (l.map cq))),(1,true,.d (.int .i64 most)),(6,true,.d (.int .i64 n)),(7,true,.d (.int .i64 d)),(8,true,.d (.int .i64 pre.length))],[⟨550,v,X⟩]⟩ k)
 |[],pre,n,d,v,X,E=>by
  have A':pre.length=l.length:=by rw[E];simp
  rw[A',ah];simp[lS,f65,O]
 |x::rest,pre,n,d,v,X,E=>by
  have T:pre.length<l.length:=by rw[E];simp
  have A0:l[pre.length]=x:=by simp[E]
  have hm:x∈l:=by rw[E];simp
  have Z:=λ(v:Nat) (a b:AV) (k:Kt) (Q:bZ->Prop) (n d:Int)=>aiW (v:=v) (a:=a) (b:=b) (most:=most) (k:=k) (Q:=Q) (A3 x hm) (M x hm) n d;have ih:=λn d v X=>QM l A2 A3 M most k Q O rest (pre++[x]) n d v X (by simp[E]);have A1:IntKind.i64.wrap ((pre.length:Int)+1)=(pre.length:Int)+1:=az (by unfold bj;omega);rw[ah];by_cases U:n<=most
  ·simp[lS,f65]at Z ih⊢;simp[T,A0,U,fj];apply Z;intro n d I J;simp[A1,ih]
  ·simp[lS,f65];simp[T,U,O]
theorem aiX{l:List Sm}(A2:l.length<100000000)(A3:∀x∈l,yk x)(M:∀x∈l,∀c∈bL x,SS c):SS l:=by
 intro most;have h:=λk Q O v X=>QM l A2 A3 M most k Q O l [] 0 0 v X rfl;rw[amK (by simp)];simp[lS,f65]at h⊢;apply h _ (λA=>∃n d:Int,A=some (.ret (.bg [.d (.int .i64 n),.d (.int .i64 d)]),[]));intro n d b c v X;simp
mutual
theorem aue:∀x:Sm,BP x->yk x/\∀c∈bL x,SS c
 | .mk op name to val conds AJ fields blocks line,h=>by
  have h:=(adr _).1 h;exact⟨h.1,adu blocks h.2⟩
theorem Jn:∀l:List Sm,mP l->∀x∈l,yk x/\∀c∈bL x,SS c
 |[],_,x,H=>by simp at H
 |y::r,h,x,H=>by
  simp only[mP]at h;have A4:=aue y h.1;have O:=Jn r h.2;rcases abd.1 H with e|H
  ·rw[e];exact A4
  ·exact O x H
theorem adu:∀l:List (List Sm),pe l->∀c∈l,SS c
 |[],_,c,Y=>by simp at Y
 |b::r,h,c,Y=>by
  simp only[pe]at h;have A4:=Jn b h.1.2;have O:=adu r h.2;rcases abd.1 Y with e|Y
  ·rw[e];exact aiX h.1.1 (λx H=>(A4 x H).1) (λx H=>(A4 x H).2)
  ·exact O c Y
end
theorem aiY{l:List Sm}(A2:l.length<100000000)(h:mP l):SS l:=
 aiX A2 (λx H=>(Jn l h x H).1) (λx H=>(Jn l h x H).2)
theorem aiZ{p:Pg}(Z:p.body.length<100000000)(V:mP p.body)(most:Int):∃n d:Int,ai ctx 34 [.d (.agg [.str p.name,.list (p.vars.map bN),.list (p.body.map cq)]),.d (.int .i64 most)] []=some (.ret (.bg [.d (.int .i64 n),.d (.int .i64 d)]),[]):=by
 obtain⟨n,d,h⟩:=aiY Z V most;rw[amx (by simp)];simp[f34,h]
theorem aer{p:Pg}(Z:p.body.length<100000000)(V:mP p.body):∃B:Bool,ai ctx 13 [.d (.agg [.str p.name,.list (p.vars.map bN),.list (p.body.map cq)])] []=some (.ret (.d (.bool B)),[]):=by
 obtain⟨n,d,h⟩:=aiZ Z V 2000;rw[amr (by simp)];simp[f13,h]
end Go.Am
end
section
namespace Go.Am
open Go Go.ChangeShapes Go.WideShapes Go.RowKit
def CB(P:Program)(ok:TypeId->Bool):List Field->Nat->Nat->Bool
 |[],o,O=>o == O
 |f::r,o,O=>f.offset == o&&ok f.type&&CB P ok r (o+P.cellsOf f.type) O
def typed(P:Program):Nat->TypeId->D->Prop
 |0,_,_=>False
 |n+1,t,d=>match P.underlying t with
  |some .bool=>∃b,d=.bool b
  |some (.int k)=>∃z,d=.int k z/\(Lit.int k z).wf=true
  |some .string=>∃s,d=.str s/\s.length<=maxLen
  |some (.slice e)=>∃xs,d=.list xs/\xs.length<=maxLen/\∀x∈xs,typed P n e x
  |some (.struct V)=>∃T:List D,d=.agg (T.flatMap D.cells)/\T.length=V.size/\∀(i:Nat)(f:Field)(y:D),V[i]?=some f->T[i]?=some y->typed P n f.type y
  |_=>False
def Reads(w:World)(F:Nat->Prop)(d:D)(cs:List Value):Prop:=
 d.cells.length=cs.length/\(∀u∈cs,cG u=true)/\∀(i:Nat) c u,d.cells[i]?=some c->cs[i]?=some u->aQ w F c u/\c.flat=true
theorem Reads.one{w F d v}(h:aQ w F d v)(U:d.flat=true)(I:d.cells=[d]):Reads w F d [v]:=by
 refine⟨by rw[I];rfl,λu hu=>?_,λi c u E J=>?_⟩
 ·simp at hu;subst hu;exact h.one U
 ·rw[I]at E;cases i with
  |zero=>simp at E J;subst E;subst J;exact⟨h,U⟩
  |succ i=>simp at E
def shaped(d:D)(cs:List Value):Value:=
 match d with
 | .agg _=>.agg cs.toArray
 |_=>cs.headD undef
theorem Reads.rel{w F d cs}(h:Reads w F d cs):aQ w F d (shaped d cs):=by
 obtain⟨E,J,M⟩:=h;have key:d.flat=true->d.cells=[d]->aQ w F d (cs.headD undef):=by
  intro U I;rw[I]at E M;match cs,E with
  |[u],_=>exact (M 0 d u rfl rfl).1
 cases d with
 |agg Y=>exact aQ.pk E J (λi c v I Z=>(M i c v I Z).1)
 |_=>exact key rfl rfl
theorem Reads.LD{w F d cs}(h:Reads w F d cs):(shaped d cs).cells.toList=cs:=by
 obtain⟨E,J,M⟩:=h;have key:d.cells=[d]->(cs.headD undef).cells.toList=cs:=by
  intro I;rw[I]at E;match cs,E,J with
  |[u],_,J=>simp only[List.headD];rw[ew (J u (by simp))]
 cases d with
 |agg Y=>simp[shaped,Value.cells]
 |_=>exact key rfl
theorem Gb{w:World}{base:Nat}{a:Addr}{n:Nat}{cs:List Value}(h:w.cells? base a n=some cs):cs.length=n/\∀j,j<n->w.cell? (a.add j)=cs[j]?:=by
 unfold World.cells? at h;split at h
 ·exact⟨by simpa using mapM_some_length h,λj A'=>mapM_some_get h j j (by simp[A'])⟩
 ·cases h
theorem add_add{b off n j:Nat}:(Addr.add (Addr.add ⟨b,off,none⟩ n) j)=⟨b,off+n+j,none⟩:=by
 unfold Addr.add;split<;>split<;>simp_all
theorem Eb{w:World}{a:Addr}{c:Value}(h:w.cell? a=some c):a.block<w.heap.size/\a.spot=none:=by
 unfold World.cell? at h;split at h
 ·rename_i hh;refine⟨(adU.1 hh).1,?_⟩;split at h
  ·cases h
  ·rename_i A0;simpa using A0
 ·cases h
section
variable {H:Type} {enc:TypeId×Value->H} {P:Program} {w:World} {base:Nat} {sp:Nat->Bool} {held:Bool}
end
section
variable {H:Type} {enc:TypeId×Value->H} {P:Program} {w:World} {base:Nat} {sp:Nat->Bool} {held:Bool}
theorem An(V:laidOutB P=true){W Z:World}(E:Below W.heap.size W Z):∀{ts:List TypeId}{vs:List Value}{I:List (DataW H)}{ps:List MemPlace},DataW.TrodAll enc P W 0 (λ_=>true) true ts vs I ps->
 (∀t∈ts,P.readableRec t=true/\t<P.types.size)->(∀x∈ps,x.block<W.heap.size)->DataW.TrodAll enc P Z 0 (λb=>decide (b<W.heap.size)) true ts vs I ps
 |[],[],[],_,h,_,_=>h
 |t::ts,v::vs,d::I,ps,h,A5,A9=>by
  obtain⟨p,q,M,A',rfl⟩:=h;exact⟨p,q,Below.trod V (A5 t (by simp)).1 (A5 t (by simp)).2 M E (λx O=>A9 x (by simp[O])),An V E A' (λt J=>A5 t (by simp[J])) (λx O=>A9 x (by simp[O])),rfl⟩
 |[],_::_,_,_,h,_,_=>by cases h
 |[],[],_::_,_,h,_,_=>by cases h
 |_::_,[],_,_,h,_,_=>by cases h
 |_::_,_::_,[],_,h,_,_=>by cases h
end
section
variable {P:Program} {n:Nat} {t:TypeId} {d:D}
def CC(P:Program)(n:Nat):List Field->List D->Prop
 |[],I=>I=[]
 |f::r,I=>∃y AA,typed P n f.type y/\CC P n r AA/\I=y.cells++AA
theorem Gc:∀{U:List Field}{Y:List D},Y.length=U.length->(∀(i:Nat)(f:Field)(y:D),U[i]?=some f->Y[i]?=some y->typed P n f.type y)->CC P n U (Y.flatMap D.cells)
 |[],[],_,_=>rfl
 |f::U,y::Y,h,AB=>⟨y,Y.flatMap D.cells,AB 0 f y rfl rfl,Gc (by simpa using h) (λi f y M A'=>AB (i+1) f y (by simpa using M) (by simpa using A')),by simp⟩
theorem Xx{k:IntKind}(J:P.underlying t=some (.int k))(h:typed P (n+1) t d):∃z,d=.int k z/\(Lit.int k z).wf=true:=by simpa only[typed,J]using h
theorem Up(J:P.underlying t=some .bool)(h:typed P (n+1) t d):∃b,d=.bool b:=by simpa only[typed,J]using h
theorem LF(J:P.underlying t=some .string)(h:typed P (n+1) t d):∃s,d=.str s/\s.length<=maxLen:=by simpa only[typed,J]using h
theorem NP{e:TypeId}(J:P.underlying t=some (.slice e))(h:typed P (n+1) t d):∃xs,d=.list xs/\xs.length<=maxLen/\∀x∈xs,typed P n e x:=by simpa only[typed,J]using h
theorem LG{U:Array Field}(J:P.underlying t=some (.struct U))(h:typed P (n+1) t d):∃I,d=.agg I/\CC P n U.toList I:=by
 simp only[typed,J]at h;obtain⟨Y,rfl,M,A'⟩:=h;exact⟨_,rfl,Gc (by simpa using M) (λi f y AD AE=>A' i f y (by simpa using AD) AE)⟩
end
def ai1(X:Ctx):Bool:=
 (List.range X.P.funcs.size).all (λg=>match X.P.funcs[g]? with|some fn=>fn.name != "runtime.NumGoroutine" &&(match fn.body with|some c=>eU X g fn.ntmps c|none=>true)|none=>true)&&X.P.follows .mixedOrders&&X.ov.isNone
def rZ(X:Ctx)(g:FuncId)(h:List AV->Option AV):Prop:=ib X.P g=true/\∀(A0:List AV)(a:AV),h A0=some a->∀(φ:bW)(F:Nat->Prop)(w:World)(vs:Array Value),fg w F X.gl->(∀b,F b->b<w.heap.size)->A0.length=vs.size->
 (∀(i:Nat) x v,A0[i]?=some x->vs[i]?=some v->aF φ w F x v)->Calls X.P g vs w λe w'=>∃v,e=.returned v/\Below w.heap.size w w'/\aF φ w' F a v
theorem rZ.lift{X:Ctx}{g:FuncId}{h:List D->Option D}(hh:ib X.P g=true/\∀(I:List D) (d:D),h I=some d->∀(F:Nat->Prop) (w:World) (vs:Array Value),fg w F X.gl->(∀b,F b->b<w.heap.size)->I.length=vs.size->
 (∀(i:Nat) x v,I[i]?=some x->vs[i]?=some v->aQ w F x v)->Calls X.P g vs w λe w'=>∃v,e=.returned v/\Below w.heap.size w w'/\aQ w' F d v):rZ X g (oX h):=by
 refine⟨hh.1,λA0 a A1 φ F w vs AF AG V A6=>?_⟩;unfold oX at A1;cases A7:toDs A0 with
 |none=>rw[A7]at A1;cases A1
 |some I=>
  rw[A7]at A1;obtain⟨d,A8,rfl⟩:=aba.1 A1;have he:=toDs_eq A7;subst he;refine (hh.2 I d A8 F w vs AF AG (by simpa using V) (λi x v O A2=>?_)).mono ?_
  ·have:=A6 i (.d x) v (by simp[O]) A2;cases this with|d _ _ h=>exact h
  ·rintro e w' ⟨v,rfl,E,A2⟩;exact⟨v,rfl,E,.d _ _ A2⟩
theorem kr.of{X:Ctx}(h:ai1 X=true)(A3:∀g h,X.Ah g=some h->rZ X g h):kr X:=by
 simp only[ai1,Ds,adA,adG]at h;have key:∀(g:FuncId)(fn:Func),X.P.funcs[g]?=some fn->fn.name≠ "runtime.NumGoroutine" /\(match fn.body with|some c=>eU X g fn.ntmps c|none=>true)=true:=by
  intro g fn T;have M:=h.1.1 g (adU.1 T).1;rw[T]at M;simpa using M
 refine⟨by simpa using h.2,λg fn T=>(key g fn T).1,λg fn c T E=>?_,h.1.2,A3⟩;have:=(key g fn T).2;rw[E]at this;exact this
theorem xw{α:Type}{f:α->D}:∀{xs:List D},(∀x∈xs,∃r,x=f r)->∃rs:List α,xs=rs.map f
 |[],_=>⟨[],rfl⟩
 |x::xs,h=>by
  obtain⟨r,rfl⟩:=h x (by simp);obtain⟨rs,rfl⟩:=xw (xs:=xs) (λy AH=>h y (by simp[AH]));exact⟨r::rs,rfl⟩
def fr0:Fr:=⟨λ_=>False,[]⟩
theorem Xy{X:Ctx}(AI:kr X){f:FuncId}{b:Bool}{xs:List D}(AJ:ai X f (xs.map .d) []=some (.ret (.d (.bool b)),[])){W:World}{args:Array Value}(V:xs.length=args.size)
 (A6:∀(i:Nat) x v,xs[i]?=some x->args[i]?=some v->aQ W (λ_=>False) x v) (T:fg W (λ_=>False) X.gl):
 Calls X.P f args W λe Z=>e=.returned (.bool b)/\Below W.heap.size W Z:=by
 have h:=(Zi AI f _ _ _ _ AJ).2;have AC:∀b,Fo fr0 (λ_=>none) (ee 0 []) b->False:=by
  intro b E;rcases E with E|⟨e,he,_⟩
  ·exact E
  ·simp[ee]at he
 refine (h (λ_=>none) fr0 W args ⟨by simp[ee],λk L AK=>by simp at AK,λe he=>by simp[ee]at he,λe he=>by simp[ee]at he,λb ⟨e,he,_⟩=>by simp[ee]at he,λb E=>E.elim⟩
  (T.mono (λ_ _ _=>rfl) (aa7 _) (λb _ E=>AC b E)) (by simpa using V) (λi x v O A2=>?_)).mono ?_
 ·simp only[adz,aba]at O;obtain⟨d,A8,rfl⟩:=O;exact .d d v ((A6 i d v A8 A2).mono (λ_ _ _=>rfl) (aa7 _) (λb _ E=>AC b E))
 ·rintro e Z ⟨φ',m',out,⟨rfl,rfl⟩,hm,A4,A3⟩;refine⟨?_,A4.os,A4.tape,A4.output,A4.size,λk AL=>A4.At k AL (λ⟨e,he,_⟩=>by simp[ee]at he)⟩;cases e with
  |returned v=>
   simp only[oC]at A3;cases A3 with
   |d x v h=>cases h;rfl
  |_=>exact A3.elim
section
variable {H:Type} {enc:TypeId×Value->H}
end
def BQ(P:Program)(L:List TypeId):Bool:=L.all λt=>match P.underlying t with
 |some .bool|some (.int _)|some .string=>P.cellsOf t == 1
 |some (.slice e)=>P.cellsOf t == 1&&L.contains e&&decide (1<=P.cellsOf e)
 |some (.struct D)=>CB P (λt=>L.contains t) D.toList 0 (P.cellsOf t)
 |_=>false
theorem Iw{P:Program}{L:List TypeId}{t:TypeId}(h:BQ P L=true)(E:L.contains t=true):(match P.underlying t with
 |some .bool|some (.int _)|some .string=>P.cellsOf t == 1
 |some (.slice e)=>P.cellsOf t == 1&&L.contains e&&decide (1<=P.cellsOf e)
 |some (.struct D)=>CB P (λt=>L.contains t) D.toList 0 (P.cellsOf t)
 |_=>false)=true:=adA.1 h t (by simpa using E)
section
variable {H:Type} {enc:TypeId×Value->H} {P:Program} {w:World} {base:Nat} {sp:Nat->Bool} {held:Bool}
end
section
variable {H:Type} {enc:TypeId×Value->H}
end
mutual
def ek:D->Nat
 | .str s=>s.length+1
 | .list xs=>bQ xs+1
 | .agg cs=>bQ cs+1
 |_=>1
def bQ:List D->Nat
 |[]=>0
 |x::r=>ek x+bQ r
end
mutual
def iN{H:Type}:DataW H->Nat
 | .lit (.string bytes)=>bytes.length+1
 | .slice elems _=>gO elems+1
 | .agg parts=>gO parts+1
 |_=>1
def gO{H:Type}:List (DataW H)->Nat
 |[]=>0
 |d::r=>iN d+gO r
end
theorem ry:∀l r:List D,bQ (l++r)=bQ l+bQ r
 |[],r=>by simp[bQ]
 |x::l,r=>by simp[bQ,ry l r,adB]
theorem Uq(x:D):bQ x.cells<=ek x:=by
 cases x<;>simp[D.cells,bQ,ek]
theorem ai2(x:D):1<=ek x:=by cases x<;>simp[ek]
theorem nA:∀l:List D,l.length<=bQ l
 |[]=>by simp
 |x::r=>by have:=nA r;have:=ai2 x;simp only[bQ,abb];omega
theorem LH:∀{l:List D}{x:D},x∈l->ek x<=bQ l
 |y::r,x,h=>by
  rcases abd.1 h with rfl|h
  ·simp only[bQ];omega
  ·have:=LH h;simp only[bQ];omega
theorem QN{H:Type}:∀(l:List D)(O:List (DataW H)),l.length=O.length->(∀(i:Nat) x d,l[i]?=some x->O[i]?=some d->ek x<=iN d)->bQ l<=gO O
 |[],[],_,_=>aa7 _
 |x::l,d::O,h,hi=>by
  have T:=hi 0 x d rfl rfl;have A2:=QN l O (by simpa using h) (λi y e V he=>hi (i+1) y e (by simpa using V) (by simpa using he));simp only[bQ,gO];omega
 |[],_::_,h,_=>by simp at h
 |_::_,[],h,_=>by simp at h
theorem Ao{H:Type}{P:Program}{w:World}{F:Nat->Prop}{n:Nat}{cs:List Value}{ok:TypeId->Bool}:∀(A3:List Field)(ws:List (DataW H))(o:Nat),CB P ok A3 o cs.length=true->ws.length=A3.length->
 (∀(i:Nat) f e,A3[i]?=some f->ws[i]?=some e->ok f.type=true->∃d,typed P n f.type d/\Reads w F d ((cs.drop f.offset).take (P.cellsOf f.type))/\d.cells.length=P.cellsOf f.type/\ek d<=iN e)->
 ∃Z:List D,Z.length=A3.length/\(∀(i:Nat)(f:Field)(y:D),A3[i]?=some f->Z[i]?=some y->typed P n f.type y)/\o<=cs.length/\Reads w F (.agg (Z.flatMap D.cells)) (cs.drop o)/\bQ (Z.flatMap D.cells)<=gO ws
 |[],[],o,E,_,_=>by
  simp only[CB,beq_iff_eq]at E;subst E;exact⟨[],rfl,λi f y A0=>by simp at A0,aa7 _,⟨by simp[D.cells],by simp,λi c u T=>by simp[D.cells]at T⟩,by simp[bQ,gO]⟩
 |f::r,e::ws,o,E,hw,A0=>by
  simp only[CB,Ds,beq_iff_eq]at E;obtain⟨⟨rfl,AG⟩,AH⟩:=E;obtain⟨Z,T,A2,U,M,A4⟩:=Ao r ws _ AH (by simpa using hw) (λi AI e' hi he=>A0 (i+1) AI e' (by simpa using hi) (by simpa using he));obtain⟨d,A',A7,A5,A9⟩:=A0 0 f e rfl rfl AG;refine⟨d::Z,by simp[T],λi AI y hi V=>?_,by omega,?_,?_⟩
  ·cases i with
   |zero=>simp at hi V;subst hi;subst V;exact A'
   |succ i=>simp at hi V;exact A2 i AI y hi V
  ·have Ad:cs.drop f.offset=(cs.drop f.offset).take (P.cellsOf f.type)++cs.drop (f.offset+P.cellsOf f.type):=by
    rw[<-an0,ajS]
   obtain⟨AU,a2,a3⟩:=A7;obtain⟨Ae,Af,Ag⟩:=M;have Ah:(D.agg ((d::Z).flatMap D.cells)).cells=d.cells++(D.agg (Z.flatMap D.cells)).cells:=by simp[D.cells]
   rw[Ad];unfold Reads;rw[Ah];refine⟨by simp only[aa9,AU,Ae],λu hu=>?_,λi c u A6 hu=>?_⟩
   ·rcases abo.1 hu with hu|hu
    ·exact a2 u hu
    ·exact Af u hu
   ·by_cases hi:i<d.cells.length
    ·rw[abl hi]at A6;rw[abl (by omega)]at hu;exact a3 i c u A6 hu
    ·rw[abq (by omega)]at A6;rw[abq (by omega)]at hu;rw[<-AU]at hu;exact Ag _ c u A6 hu
  ·have A6:=Uq d;simp only[List.flatMap_cons,ry,gO];omega
 |[],_::_,_,_,h,_=>by simp at h
 |_::_,[],_,_,h,_=>by simp at h
section
variable {H:Type} {enc:TypeId×Value->H} {P:Program} {w:World} {base:Nat} {sp:Nat->Bool} {held:Bool}
theorem zK{L:List TypeId}(A1:BQ P L=true):∀(m:Nat)(t:TypeId)(cs:List Value)(x:DataW H×List MemPlace),L.contains t=true->DataW.trod enc P w base sp held m t cs=some x->
 ∃d,typed P (m+1) t d/\Reads w (λ_=>False) d cs/\d.cells.length=P.cellsOf t/\ek d<=iN x.1
 |m,t,cs,x,I,J=>by
  have I:=Iw A1 I;simp only[typed];cases E:P.underlying t with
  |none=>rw[E]at I;cases I
  |some u=>
   rw[E]at I;cases u with
   |bool=>
    obtain⟨b,rfl,rfl⟩:=DataW.trod_bool E J;exact⟨.bool b,⟨b,rfl⟩,Reads.one (.bool b) rfl rfl,by simp at I;simp[D.cells,I],by simp[ek,iN]⟩
   |int k=>
    obtain⟨z,rfl,rfl,hw⟩:=DataW.trod_int E J;exact⟨.int k z,⟨z,rfl,hw⟩,Reads.one (.int k z) rfl rfl,by simp at I;simp[D.cells,I],by simp[ek,iN]⟩
   |string=>
    obtain⟨s,rfl,rfl,hw⟩:=DataW.trod_string E J;exact⟨.str s.data.toList,⟨_,rfl,by simpa using hw⟩,Reads.one (.str s _ rfl) rfl rfl,by simp at I;simp[D.cells,I],by simp[ek,iN]⟩
   |slice e=>
    simp only[Ds,beq_iff_eq,aa8]at I;obtain⟨⟨T,A2⟩,U⟩:=I;rcases DataW.trod_slice E J with ⟨rfl,rfl⟩|⟨a,len,cap,elems,rest,m',rfl,rfl,rfl,AJ,Ai,B6,B7,AC,_⟩
    ·exact⟨.list [],⟨[],rfl,by simp,by simp⟩,Reads.one (.nil none 0 (λ_=>rfl)) rfl rfl,by simp[D.cells,T],by simp[ek,bQ,iN]⟩
    ·have A8:∀i,∃p:D×Value,i<len->typed P (m'+1) e p.1/\aQ w (λ_=>False) p.1 p.2/\p.1.size=P.cellsOf e/\a.block<w.heap.size/\a.spot=none/\
      (∀j c,p.2.cells[j]?=some c->w.cell? ⟨a.block,a.off+i*P.cellsOf e+j,none⟩=some c)/\∀q,elems[i]?=some q->ek p.1<=iN q.1:=by
      intro i;by_cases hi:i<len
      ·have M:=AC i hi;have A4:∃y,elems[i]?=some y:=⟨elems[i]'(by omega),by simp[show i<elems.length by omega]⟩
       obtain⟨y,V⟩:=A4;rw[V]at M;simp only[ajs]at M;obtain⟨AK,Aj,Ak⟩:=M;obtain⟨d,A',A7,A5,A9⟩:=zK A1 m' e AK y A2 Ak;obtain⟨g1,g2⟩:=Gb Aj;have g3:a.block<w.heap.size/\a.spot=none:=by
        have AL:∃i0,i0<len/\i0=0:=⟨0,by omega,rfl⟩;have AM:=AC 0 (by omega);have Al:∃y,elems[0]?=some y:=⟨elems[0]'(by omega),by simp[show 0<elems.length by omega]⟩
        obtain⟨B8,Ap⟩:=Al;rw[Ap]at AM;simp only[ajs]at AM;obtain⟨AN,Aq,_⟩:=AM;obtain⟨B9,Ar⟩:=Gb Aq;have AD:=Ar 0 (by omega);have AE:∃c,AN[0]?=some c:=⟨AN[0]'(by omega),by simp[show 0<AN.length by omega]⟩
        obtain⟨c,A6⟩:=AE;rw[A6]at AD;have AF:=Eb AD;simpa [Addr.add]using AF
       refine⟨⟨d,shaped d AK⟩,λ_=>⟨A',A7.rel,by rw[<-D.gC];exact A5,g3.1,g3.2,λj c AA=>?_,λq A8=>by rw[V]at A8;cases A8;exact A9⟩⟩;have AD:=A7.LD;have AE:AK[j]?=some c:=by rw[<-AD];simpa using AA
       have As:j<P.cellsOf e:=by
        have:=(aa1.1 AE).1;omega
       have AF:=g2 j As;obtain⟨AV,ao,AO⟩:=a;obtain rfl:AO=none:=g3.2;rw[add_add]at AF;rw[AF];exact AE
      ·exact⟨⟨.bool false,undef⟩,λh=>absurd h hi⟩
     obtain⟨f,A0⟩:=Classical.axiomOfChoice A8;refine⟨.list ((List.range len).map λi=>(f i).1),⟨_,rfl,by simp;omega,λx J=>?_⟩,Reads.one ?_ rfl rfl,by simp[D.cells,T],?_⟩
     ·simp only[abz,adG]at J;obtain⟨i,hi,rfl⟩:=J;exact (A0 i hi).1
     ·by_cases A5:len=0
      ·subst A5;exact .nil (some a) cap (λh=>by cases h)
      ·have AL:=A0 0 (by omega);obtain⟨AV,ao,AO⟩:=a;obtain rfl:AO=none:=AL.2.2.2.2.1;have AB:((List.range len).map λi=>(f i).1).length=len:=by simp
       have:=aQ.list (w:=w) (F:=λ_=>False) ((List.range len).map λi=>(f i).1) AV ao cap (P.cellsOf e) (λi=>(f i).2) (by rw[AB];exact Ai) AL.2.2.2.1 (λh=>h)
        (λd A'=>by
         simp only[abz,adG]at A';obtain⟨i,hi,rfl⟩:=A';exact (A0 i hi).2.2.1)
        (λi d A'=>by
         simp only[adz,aba]at A';obtain⟨BA,Au,rfl⟩:=A';have:=aa1.1 Au;obtain⟨AW,AX⟩:=this;simp at AW AX;subst AX;exact (A0 _ AW).2.1)
        (λi j c hi AA=>by
         rw[AB]at hi;exact (A0 i hi).2.2.2.2.2.1 j c AA)
       rw[AB]at this;exact this
     ·simp only[ek,iN];refine Nat.succ_le_succ (QN _ _ (by simp;omega) λi x d J A'=>?_);simp only[adz,aba]at J A';obtain⟨j,AA,rfl⟩:=J;obtain⟨q,A8,rfl⟩:=A';obtain⟨AY,AZ⟩:=aa1.1 AA;simp at AY AZ;subst AZ;exact (A0 i AY).2.2.2.2.2.2 q A8
   |struct A3=>
    obtain⟨xs,m',rfl,rfl,A5,Av,AC⟩:=DataW.trod_struct E J;simp only at I;rw[<-A5]at I;obtain⟨Z,T,A2,_,M,A4⟩:=Ao (n:=m'+1) (w:=w) (F:=λ_=>False) A3.toList (xs.map (·.1)) 0 I (by simpa using Av) (λi f e hi he AG=>by
     simp only[adz,aba]at he;obtain⟨y,V,rfl⟩:=he;have A4:=AC i f (by simpa using hi);rw[V]at A4;exact zK A1 m' f.type _ y AG A4)
    refine⟨.agg (Z.flatMap D.cells),⟨Z,rfl,by simpa using T,λi f y hi V=>A2 i f y (by simpa using hi) V⟩,by simpa using M,?_,?_⟩
    ·have:=M.1;rw[this];simpa using A5
    ·simp only[ek,iN];omega
   |_=>cases I
theorem aab{L:List TypeId}(A1:BQ P L=true){t:TypeId}{v:Value}{d:DataW H}{ps:List MemPlace}{b0:Nat}(I:L.contains t=true)(Y:Value.okWide P w .any b0 t v)(h:DataW.Trod enc P w base sp held t v d ps):
 ∃n x,typed P n t x/\aQ w (λ_=>False) x v/\ek x<=iN d:=by
 obtain⟨m,hm⟩:=h;obtain⟨x,J,A7,_,A9⟩:=zK A1 m t _ _ I hm;refine⟨m+1,x,J,?_,A9⟩;have T:=A7.rel
 ·have I:=Iw A1 I;simp only[typed]at J;cases E:P.underlying t with
  |none=>rw[E]at I;cases I
  |some u=>
   rw[E]at I J;cases u with
   |bool=>obtain⟨b,rfl⟩:=okWide_bool E Y;obtain⟨y,rfl⟩:=J;exact T
   |int k=>obtain⟨b,rfl⟩:=okWide_int E Y;obtain⟨y,rfl,_⟩:=J;exact T
   |string=>obtain⟨b,rfl⟩:=okWide_string E Y;obtain⟨y,rfl,_⟩:=J;exact T
   |slice e=>obtain⟨a,len,cap,rfl⟩:=okWide_slice E Y;obtain⟨y,rfl,_⟩:=J;exact T
   |struct A3=>
    simp only[Value.okWide,E]at Y;obtain⟨cs,rfl,_⟩:=Y;obtain⟨Z,rfl,_⟩:=J;simpa [shaped,Value.cells]using T
   |_=>cases I
theorem Ix{L:List TypeId}(A1:BQ P L=true){b0:Nat}:∀{ts:List TypeId}{vs:List Value}{O:List (DataW H)}{ps:List MemPlace},DataW.TrodAll enc P w base sp held ts vs O ps->(∀t∈ts,L.contains t=true)->
 (∀(j:Nat) t v,ts[j]?=some t->vs[j]?=some v->Value.okWide P w .any b0 t v)->
 ∃xs:List D,xs.length=vs.length/\xs.length=ts.length/\(∀(i:Nat) t x,ts[i]?=some t->xs[i]?=some x->∃n,typed P n t x)/\(∀(i:Nat) x v,xs[i]?=some x->vs[i]?=some v->aQ w (λ_=>False) x v)/\bQ xs<=gO O
 |[],[],[],_,_,_,_=>⟨[],rfl,rfl,λi t x h=>by simp at h,λi x v h=>by simp at h,by simp[bQ,gO]⟩
 |t::ts,v::vs,d::O,ps,h,I,Y=>by
  obtain⟨p,q,T,A2,_⟩:=h;obtain⟨n,x,J,AH,A9⟩:=aab A1 (I t (by simp)) (Y 0 t v rfl rfl) T;obtain⟨xs,g1,g2,g3,g4,g5⟩:=Ix A1 A2 (λt E=>I t (by simp[E])) (λj t v U M=>Y (j+1) t v (by simpa using U) (by simpa using M));refine⟨x::xs,by simp[g1],by simp[g2],λi Aw AP U M=>?_,λi AP Ax U M=>?_,by simp only[bQ,gO];omega⟩
  ·cases i with
   |zero=>simp at U M;subst U;subst M;exact⟨n,J⟩
   |succ i=>simp at U M;exact g3 i Aw AP U M
  ·cases i with
   |zero=>simp at U M;subst U;subst M;exact AH
   |succ i=>simp at U M;exact g4 i AP Ax U M
 |[],_::_,_,_,h,_,_=>by cases h
 |[],[],_::_,_,h,_,_=>by cases h
 |_::_,[],_,_,h,_,_=>by cases h
 |_::_,_::_,[],_,h,_,_=>by cases h
end
section
variable {H:Type} {enc:TypeId×Value->H}
theorem I6{X:Ctx}(Ay:kr X){f:FuncId}{fn:Func}{s:ChangeSpec}{apart fresh handsOn:Bool}{L:List TypeId}{tb:TypeId}(A1:BQ X.P L=true)
 (Az:laidOutB X.P=true) (AQ:(fn.params.toList.all λt=>X.P.readableRec t&&decide (t<X.P.types.size)&&L.contains t)=true)
 (B':fn.resultTypes=#[tb]) (B0:X.P.underlying tb=some .bool) (A_:s.vars=[])
 (B1:∀O:List (DataW H),O.length=fn.params.size->s.fn H O={results:=[.lit (.bool true)],args:=O})
 {W:World} {base:Nat} {args:Array Value} {O gs:List (DataW H)} {before:List MemPlace}
 (B2:∀(j:Nat) t v,fn.params[j]?=some t->args[j]?=some v->Value.okWide X.P W .any base t v)
 (Aa:DataW.Whole enc X.P fn.params.toList s.vars apart W args.toList O gs before) (B3:fg W (λ_=>False) X.gl)
 (B4:∀xs:List D,xs.length=fn.params.size->(∀(i:Nat) t x,fn.params[i]?=some t->xs[i]?=some x->∃n,typed X.P n t x)->bQ xs<=gO O->ai X f (xs.map .d) []=some (.ret (.d (.bool true)),[])):
 Calls X.P f args W λe Ab=>∃v,e=.returned v/\s.post enc X.P fn apart fresh handsOn false W args v Ab:=by
 have Ac:=Aa;obtain⟨p,q,AR,AS,rfl,BB,BC⟩:=Aa;rw[A_]at AS;obtain⟨rfl,rfl⟩:gs=[]/\q=[]:=by
  cases gs with
  |nil=>exact⟨rfl,AS⟩
  |cons g r=>exact absurd AS (by intro h;cases h)
 simp only[adA,Ds,aa8]at AQ;obtain⟨xs,T,A2,U,M,A4⟩:=Ix A1 (b0:=base) AR (λt E=>(AQ t E).2) (λj t v E Y=>B2 j t v (by simpa using E) (by simpa using Y));have AB:=trodAll_length AR;refine (Xy Ay (B4 xs (by simpa using A2) (λi t x E J=>U i t x (by simpa using E) J) A4) (by simpa using T) (λi x v J Y=>M i x v J (by simpa using Y)) B3).mono ?_;rintro e Ab ⟨rfl,AJ⟩;have B5:∀x∈p,x.block<W.heap.size:=λx J=>by simpa using Ac.lt x (by simpa using J)
 have AT:s.fn H (O++[])={results:=[.lit (.bool true)],args:=O}:=by
  rw[afy];exact B1 O (by simpa using AB.2)
 refine⟨_,rfl,O,[],p++[],[],p,[],Ac,?_,?_,?_,AJ.frame _,λh=>by cases h⟩
 ·rw[AT,B'];exact trodAll_mk1 (shut_bool B0 true)
 ·rw[AT];exact An Az AJ AR (λt E=>(AQ t E).1) B5
 ·rw[AT,A_];rfl
end
end Go.Am
end
section
namespace Go.Am
open Go
theorem LK(l:List Ex):(gK l).length=l.length:=by rw[uf];simp
theorem yl(x:Ex):ek (bU x)=bQ (x8 x)+1:=by rw[Jl];rfl
mutual
theorem LL:∀x:Ex,ek (bU x)<100000000->yj x
 | .mk op n name field sub line,h=>by
  simp only[bU,ek,bQ]at h;have E:=nA (gK sub);rw[LK]at E;simp only[yj];exact⟨⟨by omega,by omega,by omega⟩,Hd sub (by omega)⟩
theorem Hd:∀l:List Ex,bQ (gK l)<100000000->qn l
 |[],_=>by simp only[qn]
 |x::r,h=>by
  simp only[gK,bQ]at h;simp only[qn];exact⟨LL x (by omega),Hd r (by omega)⟩
end
theorem zL{α:Type}(f:α->D)(l:List α):l.length<=bQ (l.map f):=by
 have:=nA (l.map f);simpa using this
theorem adx(l:List Int):l.length<=ek (n8 l):=by
 have:=zL (λn=>D.int .i64 n) l;simp only[n8,ek];omega
theorem aac(l:List (List Sm)):(mL l).length=l.length:=by rw[Cv];simp
theorem Ec(l:List Sm):(mM l).length=l.length:=by rw[yb];simp
mutual
theorem ai5:∀x:Sm,ek (cq x)<100000000->BP x/\QJ x<=ek (cq x)
 | .mk op name to val conds J fields blocks line,h=>by
  simp only[cq,ek,bQ,ry]at h⊢;have U:=yl to;have V:=yl val;have E:=nA (gK conds);rw[LK]at E;have Y:=zL n8 J;have Z:=zL D.str fields;have M:=nA (mL blocks);rw[aac]at M;have O:=QO blocks (by omega);simp only[BP,QJ];refine⟨⟨⟨LL to (by omega),LL val (by omega),⟨by omega,Hd conds (by omega)⟩,⟨by omega,λl T=>?_⟩,by omega,by omega⟩,O.1⟩,by omega⟩;have y:=LH (adD (f:=n8) T);have A':=adx l;omega
theorem He:∀l:List Sm,bQ (mM l)<100000000->mP l/\s6 l<=bQ (mM l)
 |[],_=>by simp only[mP,s6];exact⟨trivial,an3 _⟩
 |x::r,h=>by
  simp only[mM,bQ]at h⊢;have H:=ai5 x (by omega);have E:=He r (by omega);simp only[mP,s6];exact⟨⟨H.1,E.1⟩,by omega⟩
theorem QO:∀l:List (List Sm),bQ (mL l)<100000000->pe l/\xu l<=bQ (mL l)
 |[],_=>by simp only[pe,xu];exact⟨trivial,an3 _⟩
 |b::r,h=>by
  simp only[mL,bQ,ek]at h⊢;have I:=nA (mM b);rw[Ec]at I;have H:=He b (by omega);have E:=QO r (by omega);simp only[pe,xu];exact⟨⟨⟨by omega,H.1⟩,E.1⟩,by omega⟩
end
theorem LM{p:Pg}(h:ek (.agg [.str p.name,.list (p.vars.map bN),.list (p.body.map cq)])<50000000):p.body.length<100000000/\mP p.body/\s6 p.body<50000000:=by
 simp only[ek,bQ]at h;rw[<-yb]at h;have I:=nA (mM p.body);rw[Ec]at I;have H:=He p.body (by omega);exact⟨by omega,H.1,by omega⟩
end Go.Am
end
section
namespace Go.Am
open Go Go.Proofs
variable [Inhabited b7]
set_option maxRecDepth 20000
def pB(L:List fR)(s:PS):List AV:=[.d (.list (L.map rr)),.d (.int .i64 s.at_),.d (.int .i64 s.deep),.vec 1 0 0 s.vars.length]
def pC(L:List fR)(s:PS):List aH:=[.box (pB L s),.vec 8 (s.vars.map bN)]
def ym(L:List fR)(s:PS):List (Nat×aH):=[(0,.box (pB L s)),(0,.vec 8 (s.vars.map bN))]
def fD(e:Er):D:=.agg [.int .i64 e.e,.int .i64 0,.str [],.int .i64 0,.int .i64 e.line,.int .i64 e.FY]
def s7(L:List fR)(e:Er)(s:PS):bZ:=some (.panic 161 (fD e),ym L s)
section
variable {L:List fR} {s:PS}
@[simp] theorem azd(a b:Tx):(a == b)=decide (a=b):=by by_cases h:a=b<;>simp[h]
@[simp] theorem aAP{β:Type}{b:Bool}{x y:β}:(if b=false then x else y)=if b=true then y else x:=by cases b<;>rfl
end
section
variable {L:List fR} {s:PS} (E:L.length<1000000)
include E
end
structure Sh where
 k:Int
 name:Tx
 ins:Tx
 outs:Tx
 n:Int
@[simp] def shD(x:Sh):D:=.agg [.int .i64 x.k,.str x.name,.str x.ins,.str x.outs,.int .i64 x.n]
end Go.Am
end
section
namespace Go.Am
open Go
section
variable {E D α β:Type}
def PR.le(r H:PR E D α):Prop:=r=.out\/r=H
theorem PR.le.refl(r:PR E D α):r.le r:=.inr rfl
theorem PR.le.out(r:PR E D α):PR.le .out r:=.inl rfl
theorem PR.le.bind{r H:PR E D α}{k I:α->D->PR E D β}(h:r.le H)(M:∀a s,(k a s).le (I a s)):(r.bind k).le (H.bind I):=by
 rcases h with h|h
 ·subst h;exact .inl rfl
 ·subst h;cases r with
  |ok a s=>exact M a s
  |bad e s=>exact .inr rfl
  |out=>exact .inl rfl
theorem PR.le.el{r H:PR E D α}{J:Type}{f:α->D->Option J}{g:E->D->Option J}(h:r.le H):Le (r.el f g) (H.el f g):=by
 rcases h with h|h
 ·subst h;exact Le.none
 ·subst h;exact Le.refl _
end
section
variable (L:List fR)
structure aDa(f g:Nat):Prop where
 level:∀n s,(u9 L f n s).le (u9 L g n s)
 loop:∀n x s,(BJ L f n x s).le (BJ L g n x s)
 unary:∀s,(yd L f s).le (yd L g s)
 unop:∀op t s,(F0 L f op t s).le (F0 L g op t s)
 expr:∀s,(mh L f s).le (mh L g s)
 index:∀s,(yf L f s).le (yf L g s)
 Gd:∀s,(ye L f s).le (ye L g s)
structure aDb(f g:Nat):Prop where
 block:∀w s,(oL L f w s).le (oL L g w s)
 yg:∀w l s,(yg L f w l s).le (yg L g w l s)
 stmt:∀s,(Cx L f s).le (Cx L g s)
 eL:∀s,(F2 L f s).le (F2 L g s)
 zM:∀s,(sL L f s).le (sL L g s)
 nz:∀c l s,(nz L f c l s).le (nz L g c l s)
 cases:∀s,(BK L f s).le (BK L g s)
 vg:∀v c l s,(vg L f v c l s).le (vg L g v c l s)
 zH:∀l s,(zH L f l s).le (zH L g l s)
 CD:∀s,(vd L f s).le (vd L g s)
 call:∀n s,(F3 L f n s).le (F3 L g n s)
 zI:∀n c l s,(zI L f n c l s).le (zI L g n c l s)
end
end Go.Am
end
section
namespace Go.Am
open Go Go.Proofs
variable [Inhabited b7]
set_option maxRecDepth 20000
def am7:List Nat:=[219,223,220,217,154,155,262,264,309,310,291,222,316,314]
structure ai6(L:List fR)(D:bE)(f:Nat):Prop where
 le:∀g a c r,D g a c=some r->ai ctx g a c=some r
 out:∀g,am7.contains g=true->D g=ai ctx g
 level:∀n s,D 311 [.ptr 0 0 0,.d (.int .i64 (n:Nat))] (pC L s)=(u9 L f n s).el (λx s=>some (.ret (.d (bU x)),ym L s)) (s7 L)
 unary:∀s,D 315 [.ptr 0 0 0] (pC L s)=(yd L f s).el (λx s=>some (.ret (.d (bU x)),ym L s)) (s7 L)
 Gd:∀s,D 318 [.ptr 0 0 0] (pC L s)=(ye L f s).el (λx s=>some (.ret (.d (bU x)),ym L s)) (s7 L)
 index:∀s,D 297 [.ptr 0 0 0] (pC L s)=(yf L f s).el (λx s=>some (.ret (.d (bU x)),ym L s)) (s7 L)
 expr:∀s,D 295 [.ptr 0 0 0] (pC L s)=(mh L f s).el (λx s=>some (.ret (.d (bU x)),ym L s)) (s7 L)
section
variable {L:List fR} {s:PS} {D:bE} {f:Nat} (E:L.length<1000000) (F:ai6 L D f)
include E F
end
structure aug(L:List fR)(D:bE)(f:Nat):Prop where
 E:ai6 L D f
 block:∀ws s,ws.length<1000->D 157 [.ptr 0 0 0,.d (.list (ws.map .str))] (pC L s)=(oL L f ws s).el (λl s=>some (.ret (.d (.list (l.map cq))),ym L s)) (s7 L)
 stmt:∀s,D 224 [.ptr 0 0 0] (pC L s)=(Cx L f s).el (λx s=>some (.ret (.d (cq x)),ym L s)) (s7 L)
 eL:∀s,D 263 [.ptr 0 0 0] (pC L s)=(F2 L f s).el (λx s=>some (.ret (.d (cq x)),ym L s)) (s7 L)
 zM:∀s,D 292 [.ptr 0 0 0] (pC L s)=(sL L f s).el (λx s=>some (.ret (.d (cq x)),ym L s)) (s7 L)
 cases:∀s,D 293 [.ptr 0 0 0] (pC L s)=(BK L f s).el (λx s=>some (.ret (.d (cq x)),ym L s)) (s7 L)
 CD:∀s,D 294 [.ptr 0 0 0] (pC L s)=(vd L f s).el (λx s=>some (.ret (.d (cq x)),ym L s)) (s7 L)
 call:∀H s,D 296 [.ptr 0 0 0,.d (.str H)] (pC L s)=(F3 L f H s).el (λx s=>some (.ret (.d (cq x)),ym L s)) (s7 L)
section
variable {L:List fR} {s:PS} {D:bE} {f:Nat} (I:L.length<1000000) (F:aug L D f)
include I F
end
inductive TA where
 |level (n:Nat) (s:PS)
 |unary (s:PS)
 |Gd (s:PS)
 |index (s:PS)
 |expr (s:PS)
 |block (ws:List Tx) (s:PS)
 |stmt (s:PS)
 |eL (s:PS)
 |zM (s:PS)
 |cases (s:PS)
 |CD (s:PS)
 |call (D:Tx) (s:PS)
def TA.args:TA->List AV
 | .level n _=>[.ptr 0 0 0,.d (.int .i64 n)]
 | .block ws _=>[.ptr 0 0 0,.d (.list (ws.map .str))]
 | .call D _=>[.ptr 0 0 0,.d (.str D)]
 |_=>[.ptr 0 0 0]
def TA.st:TA->PS
 | .level _ s=>s
 | .unary s=>s
 | .Gd s=>s
 | .index s=>s
 | .expr s=>s
 | .block _ s=>s
 | .stmt s=>s
 | .eL s=>s
 | .zM s=>s
 | .cases s=>s
 | .CD s=>s
 | .call _ s=>s
end Go.Am
end
section
namespace Go.Am
open Go
section
variable {α β:Type}
def Tr(r:PM α)(Q:α->PS->Prop):Prop:=match r with
 | .ok a s=>Q a s
 | .bad e _=>1<=e.line/\e.e≠0
 | .out=>False
theorem Tr.bind{r:PM α}{k:α->PS->PM β}{Q:α->PS->Prop}{E:β->PS->Prop}(h:Tr r Q)(H:∀a s,Q a s->Tr (k a s) E):Tr (r.bind k) E:=by
 cases r with
 |ok a s=>exact H a s h
 |bad e s=>exact h
 |out=>exact h.elim
theorem Tr.mono{r:PM α}{Q E:α->PS->Prop}(h:Tr r Q)(H:∀a s,Q a s->E a s):Tr r E:=by
 cases r with
 |ok a s=>exact H a s h
 |bad e s=>exact h
 |out=>exact h.elim
theorem Tr.ok{a:α}{s:PS}{Q:α->PS->Prop}(h:Q a s):Tr (.ok a s) Q:=h
end
structure OkL(L:List fR):Prop where
 ends:∀(i:Nat)(t:fR),L[i]?=some t->(t.kind=0↔i+1=L.length)
 line:∀(i:Nat)(t:fR),L[i]?=some t->1<=t.line
 len:L.length<=49999
structure Iv(L:List fR)(s:PS):Prop where
 at_:s.at_<L.length
 d0:0<=s.deep
 d1:s.deep<=32
 vs:s.vars.length<=64
structure Fw(L:List fR)(s D:PS):Prop where
 iv:Iv L D
 deep:D.deep=s.deep
 vars:D.vars=s.vars
 at_:s.at_<=D.at_
structure Fs(L:List fR)(s D:PS):Prop extends Fw L s D where
 lt:s.at_<D.at_
theorem Fw.refl{L s}(h:Iv L s):Fw L s s:=⟨h,rfl,rfl,aa7 _⟩
theorem Fw.trans{L s s1 s2}(h:Fw L s s1)(k:Fw L s1 s2):Fw L s s2:=⟨k.iv,k.deep.trans h.deep,k.vars.trans h.vars,ajn h.at_ k.at_⟩
theorem Fs.trans{L s s1 s2}(h:Fs L s s1)(k:Fw L s1 s2):Fs L s s2:=⟨h.toFw.trans k,agV h.lt k.at_⟩
section
variable {L:List fR} (I:OkL L)
include I
structure Dn(L:List fR)(s D:PS):Prop where
 iv:Iv L D
 deep:D.deep=s.deep+1
 vars:D.vars=s.vars
 at_:D.at_=s.at_
structure Fv(L:List fR)(s D:PS):Prop where
 iv:Iv L D
 deep:D.deep=s.deep
 at_:s.at_<=D.at_
structure aDc(L:List fR)(f:Nat):Prop where
 level:∀(n:Nat)(s:PS),n<=6->Iv L s->20*(L.length-s.at_)+(10-n)<=f->Tr (u9 L f n s) λ_ D=>Fs L s D
 loop:∀(n:Nat)(x:Ex)(s:PS),n<6->Iv L s->20*(L.length-s.at_)+1<=f->Tr (BJ L f n x s) λ_ D=>Fw L s D
 unary:∀s:PS,Iv L s->20*(L.length-s.at_)+3<=f->Tr (yd L f s) λ_ D=>Fs L s D
 unop:∀(op:Int)(t:fR)(s:PS),Iv L s->L[s.at_]?=some t->t.kind≠0->20*(L.length-s.at_)+2<=f->Tr (F0 L f op t s) λ_ D=>Fs L s D
 expr:∀s:PS,Iv L s->20*(L.length-s.at_)+11<=f->Tr (mh L f s) λ_ D=>Fs L s D
 index:∀s:PS,Iv L s->20*(L.length-s.at_)+1<=f->Tr (yf L f s) λ_ D=>Fs L s D
 Gd:∀s:PS,Iv L s->20*(L.length-s.at_)+2<=f->Tr (ye L f s) λ_ D=>Fs L s D
end
section
variable {L:List fR} (H:OkL L)
include H
structure aDd(L:List fR)(f:Nat):Prop where
 block:∀(ws:List Tx)(s:PS),Iv L s->20*(L.length-s.at_)+19<=f->Tr (oL L f ws s) λ_ D=>Fw L s D
 loop:∀(ws:List Tx)(l:List Sm)(s:PS),Iv L s->l.length<=s.at_->20*(L.length-s.at_)+18<=f->Tr (yg L f ws l s) λ_ D=>Fw L s D
 stmt:∀s:PS,Iv L s->20*(L.length-s.at_)+17<=f->Tr (Cx L f s) λ_ D=>Fs L s D
 eL:∀s:PS,Iv L s->20*(L.length-s.at_)+16<=f->Tr (F2 L f s) λ_ D=>Fs L s D
 zM:∀s:PS,Iv L s->20*(L.length-s.at_)+15<=f->Tr (sL L f s) λ_ D=>Fs L s D
 nz:∀(c:List Ex)(l:List (List Sm))(s:PS),Iv L s->c.length<=s.at_->l.length<=s.at_->20*(L.length-s.at_)+14<=f->Tr (nz L f c l s) λ_ D=>Fs L s D
 cases:∀s:PS,Iv L s->20*(L.length-s.at_)+15<=f->Tr (BK L f s) λ_ D=>Fs L s D
 vg:∀(v:Ex)(c:List (List Int))(l:List (List Sm))(s:PS),Iv L s->c.length<=s.at_->l.length<=s.at_->20*(L.length-s.at_)+14<=f->Tr (vg L f v c l s) λ_ D=>Fs L s D
 zH:∀(l:List Sm)(s:PS),Iv L s->l.length<=s.at_->20*(L.length-s.at_)+18<=f->Tr (zH L f l s) λ_ D=>Fw L s D
 CD:∀s:PS,Iv L s->20*(L.length-s.at_)+15<=f->Tr (vd L f s) λ_ D=>Fs L s D
 call:∀(E:Tx)(s:PS),Iv L s->20*(L.length-s.at_)+15<=f->Tr (F3 L f E s) λ_ D=>Fs L s D
 zI:∀(E:Tx)(c:List Tx)(l:List Ex)(s:PS),Iv L s->c.length<=s.at_->l.length<=s.at_->20*(L.length-s.at_)+14<=f->Tr (zI L f E c l s) λ_ D=>Fs L s D
end
abbrev ai7:=Option (Out×List (Nat×aH))
theorem ai8(c:Prop)[Decidable c](a b:Bool)(l:List (Nat×aH)):(if c then (some (Out.ret (.d (.bool a)),l):ai7)else some (Out.ret (.d (.bool b)),l))=some (Out.ret (.d (.bool (if c then a else b))),l):=by split<;>rfl
theorem aad(a b:Bool)(l:List (Nat×aH)):(some (Out.ret (.d (.bool a)),l):ai7)=some (Out.ret (.d (.bool b)),l)↔(a=true↔b=true):=by
 cases a<;>cases b<;>simp
end Go.Am
end
section
namespace Go.Am
open Go Go.Proofs Go.Proofs.Tryz
variable [Inhabited b7]
set_option maxRecDepth 20000
theorem aae{n:Int}(D:0<=n)(E:n<=255):IntKind.u8.wrap n=n:=by
 simp[IntKind.wrap,IntKind.bits,IntKind.signed];omega
theorem Ge(c:UInt8):ai ctx 210 [.d (.int .u8 c.toNat)] []=some (.ret (.d (.bool (rq c))),[]):=by
 rw[ah6 (by simp)];simp[f210,aw];grind [rq]
theorem BR(c:UInt8):ai ctx 214 [.d (.int .u8 c.toNat)] []=some (.ret (.d (.bool (qf c))),[]):=by
 rw[ah9 (by simp)];simp[f214,aw];grind [qf]
theorem Iy(c:UInt8):ai ctx 212 [.d (.int .u8 c.toNat)] []=some (.ret (.d (.bool (fI c))),[]):=by
 rw[ah7 (by simp)];simp[f212,aw,Ge,BR];simp only[ai8,aad];grind [fI]
theorem Iz(c:UInt8):ai ctx 258 [.d (.int .u8 c.toNat)] []=some (.ret (.d (.int .i64 (gF c))),[]):=by
 rw[aim (by simp)];simp[f258,aw,BR];have H:c.toNat<256:=c.toNat_lt;have w:∀y:Int, -9223372036854775808<=y->y<=9223372036854775807->IntKind.i64.wrap y=y:=λy D E=>az ⟨D,E⟩;have I:∀y:Int,0<=y->y<=255->IntKind.u8.wrap y=y:=λy D E=>aae D E;grind [gF,qf]
theorem rz{s:Tx}{i:Nat}(h:i<s.length):jA s i=s[i]:=by simp[jA,h]
theorem ady(c:UInt8)(n:Nat)(A4:n<256):((c.toNat:Int)=n)↔c=UInt8.ofNat n:=by
 constructor
 ·intro h;have h:c.toNat=n:=by omega
  rw[<-h];simp
 ·rintro rfl;simp;omega
@[simp] def vj(s:Tx)(i:Nat):aH:=.box [.d (.str s),.d (.int .i64 i),.d (.int .i64 (gG (s.take i)).1),.d (.int .i64 (gG (s.take i)).2)]
theorem LN(s:Tx)(i:Nat)(h:i<=s.length):ai ctx 151 [.ptr 0 0 0] [vj s i]=some (.ret (.d (.str (s.drop i))),[(0,vj s i)]):=by
 rw[ahL (by simp)];simp[f151,aw,h]
theorem IA(s:Tx)(i n:Nat)(h:i+n<=s.length)(I:s.length<=100000)(k:Kt):∀(r j:Nat),j+r=n->
 aO ctx 153 (.loop (Code.at (bk f153) [1,0,0])) ⟨42,aI,[(0,true,.ptr 0 0 0),(4,true,.d (.int .i64 n)),(5,true,.d (.int .i64 j))],[⟨0,0,vj s (i+j)⟩]⟩ k=
  k (.exit 0) ⟨42,aI,[(0,true,.ptr 0 0 0),(4,true,.d (.int .i64 n)),(5,true,.d (.int .i64 n)),(6,true,.d (.bool false))],[⟨0,0,vj s (i+n)⟩]⟩
 |0,j,J=>by
  have J:j=n:=by omega
  subst J;rw[ah];simp[f153]
 |r+1,j,J=>by
  have ih:=IA s i n h I k r (j+1) (by omega);have E:i+j<s.length:=by omega
  have A1:=Ws (s:=s) (i:=i+j);have D:=BH E;rw[show i+(j+1)=i+j+1 by omega]at ih;generalize A2:gG (s.take (i+j))=p at*;generalize A3:gG (s.take (i+j+1))=q at*;obtain⟨l,c⟩:=p;obtain⟨A5,A6⟩:=q;simp only at A1;have M:IntKind.i64.wrap (c+1)=c+1:=az (by unfold bj;omega);have O:IntKind.i64.wrap (l+1)=l+1:=az (by unfold bj;omega);have T:IntKind.i64.wrap ((i:Int)+j+1)=(i:Int)+j+1:=az (by unfold bj;omega);have U:IntKind.i64.wrap ((j:Int)+1)=(j:Int)+1:=az (by unfold bj;omega);have V:j<n:=by omega
  rw[ah];simp[f153,A2,A3]at ih⊢;have Y:(0:Int)<=(i:Int)+j:=by omega
  have Z:((i:Int)+j).toNat=i+j:=by omega
  have y:=rz E;have A':=ady s[i+j] 10 (by omega);simp at A';unfold kz at D;by_cases H:s[i+j]=10
  ·rw[abf H]at D;cases D;simp[V,M,O,T,U,E,aw,Y,Z,y,H,ih]
  ·rw[aa4 H]at D;cases D;simp[V,M,O,T,U,E,aw,Y,Z,y,A',H,ih]
theorem zN(s:Tx)(i n:Nat)(h:i+n<=s.length)(I:s.length<=100000):ai ctx 153 [.ptr 0 0 0,.d (.int .i64 n)] [vj s i]=some (.ret (.bg []),[(0,vj s (i+n))]):=by
 have A0:=λk=>IA s i n h I k n 0 (by omega);rw[ahN (by simp)];simp[f153]at A0⊢;simp[A0]
theorem Ap(t:Tx)(c:UInt8):ai ctx 208 [.d (.str t),.d (.int .u8 c.toNat)] []=some (.ret (.d (.int .i64 (Go.Lib.indexByte t c))),[]):=by
 rw[ah5 (by simp)];simp[f208,aw]
set_option maxHeartbeats 1000000 in
theorem zO(s:Tx)(M:s.length<=100000)(k:Kt)(R:bZ):∀(f i:Nat),i<=s.length->s.length-i<f->
 (k .ret ⟨51,aI,[(2,true,.d (.bool (gm f (s.drop i)).2))],[⟨0,0,vj s (i+(gm f (s.drop i)).1)⟩]⟩=R)->
 aO ctx 150 (.loop (Code.at (bk f150) [1,0,0])) ⟨51,aI,[(0,true,.ptr 0 0 0)],[⟨0,0,vj s i⟩]⟩ k=R
 |0,i,hi,A4,D=>by omega
 |f+1,i,hi,A4,D=>by
  have E:=LN s i hi;cases U:s.drop i with
  |nil=>
   rw[U]at E D;simp[gm]at E D;rw[ah];simp[f150,E,D,aw]
  |cons c r=>
   have AC:i+(r.length+1)=s.length:=by have:=agt List.length U;simp at this;omega
   have O:=Ap (c::r) 10;rw[xZ]at O;rw[U]at E D;unfold gm at D;have V:jA (c::r) 0=c:=rfl;have A5:=Lg (c::r);by_cases H:xY c=true
   ·rw[abf H]at D;have I:=zN s i 1 (by omega) M;have y:s.drop (i+1)=r:=by rw[<-List.tail_drop,U];rfl
    have ih:=zO s M k R f (i+1) (by omega) (by omega) (by rw[y,show i+1+(gm f r).1=i+(1+(gm f r).1) by omega];exact D);simp[xY]at H;rw[ah];simp[f150]at E I ih⊢;rcases H with (H|H)|H<;>simp[E,V,H,I,ih,aw]
   rw[aa4 H]at D;have A':¬(c.toNat:Int)=32:=λh=>H (by simp[xY];omega);have A0:¬(c.toNat:Int)=10:=λh=>H (by simp[xY];omega);have A1:¬(c.toNat:Int)=9:=λh=>H (by simp[xY];omega);have J:=FX 47 47 c r;have T:=FX 40 42 c r;by_cases A2:c=47/\r.head?=some 47
   ·rw[abf A2]at D;have J:Go.Lib.hasPrefix (c::r) [47,47]=true:=by rw[J];simp[A2]
    have I:=zN s i (jk (c::r)) (by simp at A5;omega) M;have y:s.drop (i+jk (c::r))=(c::r).drop (jk (c::r)):=by rw[<-an0,U]
    have AD:0<jk (c::r):=by simp[jk,A2.1]
    have ih:=zO s M k R f (i+jk (c::r)) (by simp at A5;omega) (by omega) (by rw[y,adB];exact D);generalize jk (c::r)=n at*;rw[ah];by_cases Y:n<(c::r).length
    ·rw[abf Y]at O;have A6:¬((n:Int)<0):=by omega
     simp[f150]at E I ih O⊢;simp[E,V,A',A0,A1,J,O,A6,I,ih,aw]
    ·rw[aa4 Y]at O;have AA:n=r.length+1:=by simp at Y A5;omega
     subst AA;simp[f150]at E I ih O⊢;simp[E,V,A',A0,A1,J,O,I,ih,aw]
   rw[aa4 A2]at D;have J:Go.Lib.hasPrefix (c::r) [47,47]=false:=by rw[J];simpa using A2
   by_cases A3:c=40/\r.head?=some 42
   ·rw[abf A3]at D;have T:Go.Lib.hasPrefix (c::r) [40,42]=true:=by rw[T];simp[A3]
    have Z:=Im r.tail;have A8:(2:Int)<=(r.length:Int)+1:=by cases r with|nil=>simp at A3|cons d r=>simp;omega
    have A9:r.length-1<4294967281:=by omega
    cases A7:nR r.tail with
    |none=>
     rw[A7]at D Z;simp at D Z E;rw[ah];simp[f150];simp[E,V,A',A0,A1,J,T,A8,A9,Z,D,aw]
    |some m=>
     rw[A7]at D Z;have hm:=zF A7;have AE:r.tail.length=r.length-1:=by simp
     have I:=zN s i (m+4) (by omega) M;have y:s.drop (i+(m+4))=(c::r).drop (m+4):=by rw[<-an0,U]
     have ih:=zO s M k R f (i+(m+4)) (by omega) (by omega) (by rw[y,adB];exact D);have A6:¬((m:Int)<0):=by omega
     have AB:IntKind.i64.wrap ((m:Int)+4)=m+4:=az (by unfold bj;omega);rw[ah];simp[f150]at E I ih Z⊢;simp[E,V,A',A0,A1,J,T,A8,A9,Z,A6,AB,I,ih,aw]
   rw[aa4 A3]at D;have T:Go.Lib.hasPrefix (c::r) [40,42]=false:=by rw[T];simpa using A3
   simp at D E;rw[ah];simp[f150];simp[E,V,A',A0,A1,J,T,D,aw]
theorem aes(s:Tx)(i:Nat)(hi:i<=s.length)(M:s.length<=100000)(f:Nat)(A4:s.length-i<f):
 ai ctx 150 [.ptr 0 0 0] [vj s i]=some (.ret (.d (.bool (gm f (s.drop i)).2)),[(0,vj s (i+(gm f (s.drop i)).1))]):=by
 have Y:=λk R=>zO s M k R f i hi A4;rw[ahK (by simp)];simp[f150]at Y⊢;rw[Y];simp
theorem NQ(c:UInt8)(b:Int):ai ctx 257 [.d (.int .u8 c.toNat),.ptr 0 0 0] [.box [.d (.int .i64 b)]]=some (.ret (.d (.bool (decide ((gF c:Int)<b)))),[(0,.box [.d (.int .i64 b)])]):=by
 rw[ail (by simp)];simp[f257,aw,Iz]
theorem Dl(s:Tx)(H:s.length<=100000)(k:Kt):∀(r n:Nat),n+r=s.length->
 aO ctx 211 (.loop (Code.at (bk f211) [1,1,0,0,0])) ⟨20,aI,[(0,true,.d (.str s)),(1,true,.fn 212 []),(5,true,.d (.int .i64 n))],[]⟩ k=
  k (.exit 0) ⟨20,aI,[(0,true,.d (.str s)),(1,true,.fn 212 []),(5,true,.d (.int .i64 (n+((s.drop n).takeWhile fI).length:Nat))),(16,true,.d (.bool false))],[]⟩
 |0,n,I=>by
  have I:n=s.length:=by omega
  subst I;rw[ah];simp[f211]
 |r+1,n,I=>by
  have E:n<s.length:=by omega
  have ih:=Dl s H k r (n+1) (by omega);have T:IntKind.i64.wrap ((n:Int)+1)=(n:Int)+1:=az (by unfold bj;omega);have J:=rz E;have D:=Iy s[n];have U:s.drop n=s[n]::s.drop (n+1):=anR E;rw[U,List.takeWhile_cons];rw[ah];cases M:fI s[n]with
  |true=>
   rw[M]at D;have e:n+1+(List.takeWhile fI (s.drop (n+1))).length=n+((List.takeWhile fI (s.drop (n+1))).length+1):=by omega
   rw[e]at ih;simp[f211]at ih D⊢;simp[E,J,D,T,ih]
  |false=>
   rw[M]at D;simp[f211]at D⊢;simp[E,J,D]
theorem Ur(s:Tx)(H:s.length<=100000):ai ctx 211 [.d (.str s),.fn 212 []] []=some (.ret (.d (.int .i64 (s.takeWhile fI).length)),[]):=by
 have O:=λk=>Dl s H k s.length 0 (by omega);rw[Xn (by simp)];simp[f211]at O⊢;simp[O]
theorem Dm(s:Tx)(H:s.length<=100000)(b:Nat)(k:Kt):∀(r n:Nat),n+r=s.length->
 aO ctx 211 (.loop (Code.at (bk f211) [1,1,0,0,0])) ⟨20,aI,[(0,true,.d (.str s)),(1,true,.fn 257 [.ptr 0 0 0]),(5,true,.d (.int .i64 n))],[⟨0,0,.box [.d (.int .i64 b)]⟩]⟩ k=
  k (.exit 0) ⟨20,aI,[(0,true,.d (.str s)),(1,true,.fn 257 [.ptr 0 0 0]),(5,true,.d (.int .i64 (n+((s.drop n).takeWhile (λc=>decide (gF c<b))).length:Nat))),(16,true,.d (.bool false))],[⟨0,0,.box [.d (.int .i64 b)]⟩]⟩
 |0,n,I=>by
  have I:n=s.length:=by omega
  subst I;rw[ah];simp[f211]
 |r+1,n,I=>by
  have E:n<s.length:=by omega
  have ih:=Dm s H b k r (n+1) (by omega);have T:IntKind.i64.wrap ((n:Int)+1)=(n:Int)+1:=az (by unfold bj;omega);have J:=rz E;have D:=NQ s[n] b;have U:s.drop n=s[n]::s.drop (n+1):=anR E;rw[U,List.takeWhile_cons];rw[ah];by_cases M:gF s[n]<b
  ·have e:n+1+(List.takeWhile (λc=>decide (gF c<b)) (s.drop (n+1))).length=n+((List.takeWhile (λc=>decide (gF c<b)) (s.drop (n+1))).length+1):=by omega
   rw[e]at ih;simp[f211,M]at ih D⊢;simp[E,J,D,T,ih]
  ·simp[f211,M]at D⊢;simp[E,J,D]
theorem Us(s:Tx)(H:s.length<=100000)(b:Nat):ai ctx 211 [.d (.str s),.fn 257 [.ptr 0 0 0]] [.box [.d (.int .i64 b)]]=
 some (.ret (.d (.int .i64 (s.takeWhile (λc=>decide (gF c<b))).length)),[(0,.box [.d (.int .i64 b)])]):=by
 have O:=λk=>Dm s H b k s.length 0 (by omega);rw[Xn (by simp)];simp[f211]at O⊢;simp[O]
theorem aet(c:UInt8):gF c<=99:=by
 unfold gF qf;split
 ·rename_i h;simp at h;omega
 ·split<;>omega
set_option maxHeartbeats 1000000 in
theorem LO(s:Tx)(AA:s.length<=100000)(b:Nat)(AB:2<=b/\b<=16)(n v:Nat)(E:aH)(U:n<=s.length)(k:Kt)(R:bZ):∀(rest:Tx)(i x:Nat),(s.drop i).take rest.length=rest->i+rest.length=n->x<=9223372036854775807->
 (match G8 b x rest with
  |none=>k .ret ⟨83,aI,[(2,true,.d (.int .i64 0)),(3,true,.d (.int .i64 0)),(4,true,.d (.int .i64 2))],[⟨350,1,.box [.d (.int .i64 b)]⟩,⟨500,v,E⟩]⟩
  |some y=>k (.exit 2) ⟨83,aI,[(0,true,.d (.str s)),(5,true,.ptr 350 1 0),(9,true,.d (.int .i64 n)),(10,true,.d (.int .i64 y)),(11,true,.d (.int .i64 n)),(63,true,.d (.bool false))],[⟨350,1,.box [.d (.int .i64 b)]⟩,⟨500,v,E⟩]⟩)=R->
 aO ctx 215 (.loop (Code.at (bk f215) [1,1,1,1,1,1,0,1,0,0])) ⟨83,aI,[(0,true,.d (.str s)),(5,true,.ptr 350 1 0),(9,true,.d (.int .i64 n)),(10,true,.d (.int .i64 x)),(11,true,.d (.int .i64 i))],[⟨350,1,.box [.d (.int .i64 b)]⟩,⟨500,v,E⟩]⟩ k=R
 |[],i,x,A2,hi,AQ,J=>by
  have hi:i=n:=by simpa using hi
  subst hi;simp[G8]at J;rw[ah];simp[f215,J]
 |c::rest,i,x,A2,hi,AQ,J=>by
  simp only[abb]at hi A2;have D:i<s.length:=by omega
  have V:i<n:=by omega
  have AR:s.drop i=s[i]::s.drop (i+1):=anR D;rw[AR,List.take_succ_cons]at A2;have M:s[i]=c:=(List.cons.inj A2).1;have AS:=(List.cons.inj A2).2;have AH:=rz D;have A':=Iz c;have Aj:=aet c;have AT:IntKind.i64.wrap ((i:Int)+1)=(i:Int)+1:=az (by unfold bj;omega);have AI:IntKind.i64.wrap (9223372036854775807-(gF c:Int))=((9223372036854775807-gF c:Nat):Int):=by rw[az (by unfold bj;omega)];omega
  have AU:(9223372036854775807-gF c)/b<=9223372036854775807:=ajn (Nat.div_le_self _ _) (Nat.sub_le _ _);have AJ:IntKind.i64.wrap (((9223372036854775807-gF c:Nat):Int)/(b:Int))=(((9223372036854775807-gF c)/b:Nat):Int):=by
   rw[<-Int.natCast_ediv];generalize (9223372036854775807-gF c)/b=z at AU;exact az (by unfold bj;omega)
  have AK:b≠0:=by omega
  unfold G8 at J;rw[ah];by_cases A5:(9223372036854775807-gF c)/b<x
  ·have AC:((9223372036854775807-gF c:Nat):Int)/(b:Int)<x:=by rw[<-Int.natCast_ediv];exact Int.ofNat_lt.2 A5
   rw[abf A5]at J;simp at J A';simp[f215];simp[V,D,AH,M,A',AI,AJ,AK,AC,J]
  ·have AC:¬(((9223372036854775807-gF c:Nat):Int)/(b:Int)<x):=by rw[<-Int.natCast_ediv];exact λh=>A5 (Int.ofNat_lt.1 h)
   rw[aa4 A5]at J;have hm:x*b<=9223372036854775807-gF c:=by
    have AD:x<=(9223372036854775807-gF c)/b:=by omega
    have:=adt b AD;have AE:=Nat.div_mul_le_self (9223372036854775807-gF c) b;omega
   have AV:(x:Int)*(b:Int)=((x*b:Nat):Int):=by simp
   have AW:IntKind.i64.wrap ((x:Int)*b)=((x*b:Nat):Int):=by rw[AV];exact az (by unfold bj;omega)
   have AX:IntKind.i64.wrap (((x*b:Nat):Int)+gF c)=((x*b+gF c:Nat):Int):=by rw[az (by unfold bj;omega)];simp
   have ih:=LO s AA b AB n v E U k R rest (i+1) (x*b+gF c) AS (by omega) (by omega) J;generalize Ak:x*b+gF c=Al at*;generalize x*b=An at*;simp[f215]at ih⊢;simp[V,D,AH,M,A',AT,AI,AJ,AW,AX,AK,AC,ih]
theorem kQ{a:UInt8}{p s:Tx}(h:(a::p).isPrefixOf s=true):s.head?=some a/\p.length+1<=s.length:=by
 have Y:=List.isPrefixOf_iff_prefix.1 h;refine⟨?_,by simpa using Y.length_le⟩;obtain⟨t,rfl⟩:=Y;rfl
theorem zP(s:Tx):(Go.Lib.hasPrefix s [50,35]=true/\Go.Lib.hasPrefix s [56,35]=false/\Go.Lib.hasPrefix s [49,54,35]=false/\oZ s=(2,2)/\2<=s.length)\/
 (Go.Lib.hasPrefix s [50,35]=false/\Go.Lib.hasPrefix s [56,35]=true/\Go.Lib.hasPrefix s [49,54,35]=false/\oZ s=(8,2)/\2<=s.length)\/
 (Go.Lib.hasPrefix s [50,35]=false/\Go.Lib.hasPrefix s [56,35]=false/\Go.Lib.hasPrefix s [49,54,35]=true/\oZ s=(16,3)/\3<=s.length)\/
 (Go.Lib.hasPrefix s [50,35]=false/\Go.Lib.hasPrefix s [56,35]=false/\Go.Lib.hasPrefix s [49,54,35]=false/\oZ s=(10,0)/\0<=s.length):=by
 unfold Go.Lib.hasPrefix oZ;have Ao:([50,35]:Tx).isPrefixOf s=true->([56,35]:Tx).isPrefixOf s=true->False:=λh g=>by
  have h:=(kQ h).1;have g:=(kQ g).1;rw[h]at g;revert g;decide
 have Ap:([50,35]:Tx).isPrefixOf s=true->([49,54,35]:Tx).isPrefixOf s=true->False:=λh g=>by
  have h:=(kQ h).1;have g:=(kQ g).1;rw[h]at g;revert g;decide
 have Aq:([56,35]:Tx).isPrefixOf s=true->([49,54,35]:Tx).isPrefixOf s=true->False:=λh g=>by
  have h:=(kQ h).1;have g:=(kQ g).1;rw[h]at g;revert g;decide
 have Ar:([50,35]:Tx).isPrefixOf s=true->2<=s.length:=λh=>(kQ h).2;have As:([56,35]:Tx).isPrefixOf s=true->2<=s.length:=λh=>(kQ h).2;have Au:([49,54,35]:Tx).isPrefixOf s=true->3<=s.length:=λh=>(kQ h).2;cases AE:([50,35]:Tx).isPrefixOf s<;>cases Av:([56,35]:Tx).isPrefixOf s<;>cases Aw:([49,54,35]:Tx).isPrefixOf s<;>simp_all
set_option maxHeartbeats 2000000 in
theorem Ut(s:Tx)(AA:s.length<=100000):ai ctx 215 [.d (.str s)] []=some (.ret (.bg [.d (.int .i64 (ot s).1),.d (.int .i64 (ot s).2.1),.d (.int .i64 (ot s).2.2)]),[]):=by
 obtain⟨b,h,AL,AB,Ax⟩:∃b h,oZ s=(b,h)/\(2<=b/\b<=16)/\h<=s.length:=by
  rcases zP s with ⟨_,_,_,e,O⟩|⟨_,_,_,e,O⟩|⟨_,_,_,e,O⟩|⟨_,_,_,e,O⟩<;>exact⟨_,_,e,by omega,by omega⟩
 have hw:=Us (s.drop h) (by simp;omega) b;obtain⟨H,A6⟩:∃H,H=(s.drop h).takeWhile (λc=>decide (gF c<b)):=⟨_,rfl⟩;rw[<-A6]at hw;have Ay:H.length<=s.length-h:=by
  have:=(ajj (λc=>decide (gF c<b)) (l:=s.drop h)).length_le;rw[<-A6]at this;simpa using this
 have AY:(s.drop h).take H.length=H:=by
  rw[A6];exact List.prefix_iff_eq_take.1 (ajj _) |>.symm
 obtain⟨n,U⟩:∃n,n=h+H.length:=⟨_,rfl⟩;have AZ:n<=s.length:=by omega
 have AM:=λv E k R=>LO s AA b AB n v E AZ k R H h 0 AY U.symm (by omega);have wn:IntKind.i64.wrap ((h:Int)+H.length)=(n:Int):=by rw[az (by unfold bj;omega)];omega
 have Az:¬((n:Int)<0):=by omega
 have B':(0:Int)<=n:=by omega
 obtain⟨F,I⟩:∃F:Nat×Nat×Nat,F=D7 s b h H:=⟨_,rfl⟩;have A_:ot s=F:=by unfold ot;rw[I,AL];simp only[<-A6]
 rw[A_];have Aa:IntKind.i64.wrap 1=1:=az (by unfold bj;omega);have Ab:IntKind.i64.wrap 2=2:=az (by unfold bj;omega);have Ac:IntKind.i64.wrap 3=3:=az (by unfold bj;omega);have Ad:List.range' 0 3=[0,1,2]:=rfl;have key:∀(v:Nat)(E:aH)(k:Kt),n≠h->(n<s.length->fI (jA s n)=false/\jA s n≠35)->
  (∀x,k (.exit 2) ⟨83,aI,[(0,true,.d (.str s)),(5,true,.ptr 350 1 0),(9,true,.d (.int .i64 n)),(10,true,.d (.int .i64 x)),(11,true,.d (.int .i64 n)),(63,true,.d (.bool false))],[⟨350,1,.box [.d (.int .i64 b)]⟩,⟨500,v,E⟩]⟩=some (.ret (.bg [.d (.int .i64 n),.d (.int .i64 x),.d (.int .i64 0)]),[]))->
  (k .ret ⟨83,aI,[(2,true,.d (.int .i64 0)),(3,true,.d (.int .i64 0)),(4,true,.d (.int .i64 2))],[⟨350,1,.box [.d (.int .i64 b)]⟩,⟨500,v,E⟩]⟩=some (.ret (.bg [.d (.int .i64 0),.d (.int .i64 0),.d (.int .i64 2)]),[]))->
  aO ctx 215 (.loop (Code.at (bk f215) [1,1,1,1,1,1,0,1,0,0])) ⟨83,aI,[(0,true,.d (.str s)),(5,true,.ptr 350 1 0),(9,true,.d (.int .i64 n)),(10,true,.d (.int .i64 (0:Nat))),(11,true,.d (.int .i64 h))],[⟨350,1,.box [.d (.int .i64 b)]⟩,⟨500,v,E⟩]⟩ k=
   some (.ret (.bg [.d (.int .i64 F.1),.d (.int .i64 F.2.1),.d (.int .i64 F.2.2)]),[]):=by
  intro v E k AD AE Ae Af;have Ag:¬(H=[]\/∃c,s[h+H.length]?=some c/\(fI c=true\/c=35)):=by
   rintro (M|⟨c,M,T⟩)
   ·exact AD (by rw[U,M];rfl)
   ·rw[<-U]at M;obtain⟨D,Ah⟩:=aa1.1 M;have AF:=AE D;rw[rz D,Ah]at AF;rcases T with T|T
    ·rw[AF.1]at T;cases T
    ·exact AF.2 T
  unfold D7 at I;rw[aa4 Ag,<-U]at I;refine AM v E k _ ?_;cases A':G8 b 0 H with
  |none=>rw[A']at I;rw[I];exact Af
  |some x=>rw[A']at I;rw[I];exact Ae x
 have err:∀c,n<s.length->jA s n=c->(fI c=true\/c=35)->F=(0,0,5):=by
  intro c D M T;unfold D7 at I;rw[I,abf (.inr ⟨c,by rw[<-U,adv D,<-rz D,M],T⟩)]
 have AN:n=h->F=(0,0,5):=by
  intro he;unfold D7 at I;rw[I,abf (.inl (List.length_eq_zero_iff.1 (by omega)))]
 have Z:=Iy (jA s n);have AO:=ady (jA s n) 35 (by omega);simp at AO;clear I AM;rw[aia (by simp)];rcases zP s with ⟨A7,A8,A9,e,O⟩|⟨A7,A8,A9,e,O⟩|⟨A7,A8,A9,e,O⟩|⟨A7,A8,A9,e,O⟩;all_goals
  obtain⟨Y,AG⟩:∃Y:Nat,Y=h:=⟨_,rfl⟩;rw[AL]at e;cases e;have AP:=Int.ofNat_le.2 O;simp[f215]at hw wn AP key AN;simp[f215,Ad];iterate 4 (rw[ah];simp[A7,A8,A9,Aa,Ab,Ac,aw])
  simp[O,AP,hw,wn];by_cases A0:n=Y
  ·have A3:=AN (A0.trans AG);rw[AG]at A0;simp[A0,A3]
  ·have A1:¬((n:Int)=(Y:Int)):=by omega
   rw[AG]at A1 A0;simp at A1;by_cases D:n<s.length
   ·cases V:fI (jA s n)
    ·rw[V]at Z;by_cases A4:jA s n=35
     ·have A3:=err _ D A4 (.inr rfl);rw[A4]at Z;simp at Z;simp[A1,D,Z,A4,A3]
     ·have Ai:¬((jA s n).toNat:Int)=35:=λh=>A4 (AO.1 h);simp[A1,D,Z,Ai];exact key _ _ _ A0 (λ_=>⟨V,A4⟩) (λx=>by simp) (by simp)
    ·have A3:=err _ D rfl (.inl V);rw[V]at Z;simp[A1,D,Z,A3]
   ·simp[A1,D];exact key _ _ _ A0 (λh=>absurd h D) (λx=>by simp) (by simp)
def s8(s:Tx):Nat->List Tx->Int
 |_,[]=> -1
 |i,x::r=>if s=x then (i:Int)else s8 s (i+1) r
theorem LQ(s:Tx):∀(l:List Tx)(i:Nat),decide (0<=s8 s i l)=decide (s∈l)
 |[],i=>by simp[s8]
 |x::r,i=>by
  have:=LQ s r (i+1);unfold s8;by_cases h:s=x
  ·simp[h]
  ·simp only[aa4 h,this];simp[h]
theorem Dp(l:List Tx)(H:l.length<=1000)(s:Tx)(k:Kt)(R:bZ):∀(rest:List Tx)(i:Nat),l.drop i=rest->i+rest.length=l.length->
 ((if 0<=s8 s i rest then k .ret ⟨19,aI,[(4,true,.d (.int .i64 (s8 s i rest)))],[]⟩else k (.exit 0) ⟨19,aI,[(0,true,.d (.list (l.map .str))),(1,true,.d (.str s)),(7,true,.d (.int .i64 l.length)),(8,true,.d (.int .i64 l.length)),(9,true,.d (.bool false))],[]⟩)=R)->
 aO ctx 287 (.loop (Code.at (bk f287) [1,0,1,0,0])) ⟨19,aI,[(0,true,.d (.list (l.map .str))),(1,true,.d (.str s)),(7,true,.d (.int .i64 l.length)),(8,true,.d (.int .i64 i))],[]⟩ k=R
 |[],i,I,hi,h=>by
  have hi:i=l.length:=by simpa using hi
  subst hi;rw[ah];simp[s8]at h;simp[f287,h]
 |x::rest,i,I,hi,h=>by
  have J:i<l.length:=by simp at hi;omega
  have O:l[i]=x:=by
   have:=agt (·[0]?) I;simp at this;simpa [J]using this
  have Y:IntKind.i64.wrap ((i:Int)+1)=(i:Int)+1:=az (by unfold bj;omega);unfold s8 at h;rw[ah];by_cases E:s=x
  ·simp[E]at h;simp[f287];simp[J,O,E,h]
  ·rw[aa4 E]at h;have ih:=Dp l H s k R rest (i+1) (by rw[<-List.tail_drop,I];rfl) (by simp at hi;omega) h;simp[f287]at ih⊢;simp[J,O,E,Y,ih]
theorem LR(s:Tx):∀(l:List Tx)(i:Nat),¬0<=s8 s i l->s8 s i l= -1
 |[],i,_=>rfl
 |x::r,i,h=>by
  unfold s8 at h⊢;split
  ·rename_i E;rw[abf E]at h;omega
  ·rename_i E;rw[aa4 E]at h;exact LR s r (i+1) h
theorem Uu(l:List Tx)(H:l.length<=1000)(s:Tx):ai ctx 287 [.d (.list (l.map .str)),.d (.str s)] []=some (.ret (.d (.int .i64 (s8 s 0 l))),[]):=by
 have T:=λk R h=>Dp l H s k R l 0 rfl (by simp) h;rw[aiq (by simp)];simp[f287]at T⊢;rw[T];split
 ·simp
 ·rename_i h;simp[LR s l 0 h]
theorem LS(l:List Tx)(H:l.length<=1000)(s:Tx):ai ctx 256 [.d (.list (l.map .str)),.d (.str s)] []=some (.ret (.d (.bool (decide (s∈l)))),[]):=by
 have h:=Uu l H s;rw[aik (by simp)];simp[f256,h,<-LQ s l 0]
theorem Uv:ai ctx 140 [.d (.str Wt)] []=some (.ret (.d (.list (kA.map .str))),[]):=bI 300 (by kernel_rfl)
theorem aaf(s:Tx):ai ctx 213 [.d (.str s)] []=some (.ret (.d (.bool (wg s))),[]):=by
 have M:=Uv;have U:=LS kA (by decide) s;unfold Wt at M;generalize kA.map D.str=W at M U;rw[ah8 (by simp)];simp[f213,M,U,wg]
theorem Aq(c:UInt8):∀(l:Tx),0<=Go.Lib.indexByte l c↔c∈l
 |[]=>by simp[Go.Lib.indexByte]
 |b::r=>by
  have ih:=Aq c r;have A5:=Go.Lib.indexByte_ge r c;unfold Go.Lib.indexByte;by_cases h:b=c
  ·simp[h]
  ·have Z:¬c=b:=λe=>h e.symm;simp only[beq_iff_eq,h,adW,abd,Z,false_or,<-ih];split<;>omega
theorem aag(c:UInt8)(r:Tx):tU (c::r)=if Go.Lib.hasPrefix (c::r) [58,61]=true then 2 else if Go.Lib.hasPrefix (c::r) [60,61]=true then 2 else if Go.Lib.hasPrefix (c::r) [62,61]=true then 2 else if Go.Lib.hasPrefix (c::r) [60,62]=true then 2 else if Go.Lib.hasPrefix (c::r) [46,46]=true then 2 else if 0<=Go.Lib.indexByte BI c then 1 else 0:=by
 have hm:=Aq c BI;unfold tU Lh Go.Lib.hasPrefix;simp only[List.any_cons,List.any_nil,Bool.or_false,agr,hm];grind
theorem aah(c:UInt8)(r:Tx):ai ctx 216 [.d (.str (c::r))] []=some (.ret (.d (.int .i64 (tU (c::r)))),[]):=by
 have y:List.range' 0 5=[0,1,2,3,4]:=rfl;have A':IntKind.i64.wrap 1=1:=az (by unfold bj;omega);have A0:IntKind.i64.wrap 2=2:=az (by unfold bj;omega);have A1:IntKind.i64.wrap 3=3:=az (by unfold bj;omega);have A2:IntKind.i64.wrap 4=4:=az (by unfold bj;omega);have A3:IntKind.i64.wrap 5=5:=az (by unfold bj;omega);have V:=Ap BI c;rw[aib (by simp)];simp[f216,y];iterate 6 (try (rw[ah];simp[A',A0,A1,A2,A3,aw]))
 have A4:jA (c::r) 0=c:=rfl;rw[aag];unfold BI at V⊢;simp[A4,V];grind
theorem QS(s:Tx):(ot s).1<=s.length:=by
 unfold ot D7;rcases zP s with ⟨_,_,_,e,D⟩|⟨_,_,_,e,D⟩|⟨_,_,_,e,D⟩|⟨_,_,_,e,D⟩;all_goals
  rw[e];simp only
  split
  ·simp
  ·split
   ·simp
   ·rename_i x _;simp only
    have:=(ajj (λc=>decide (gF c<(oZ s).1)) (l:=s.drop (oZ s).2)).length_le;rw[e]at this;simp only[ags]at this;omega
theorem LU(c:UInt8)(r:Tx):tU (c::r)<=(c::r).length:=by
 unfold tU;split
 ·rename_i h;simp only[Lh,List.any_cons,List.any_nil,Bool.or_false,agr]at h;rcases h with h|h|h|h|h<;>exact (kQ h).2
 ·simp only
  split<;>simp
set_option maxHeartbeats 1000000 in
theorem aai(c:UInt8)(r:Tx)(Z:(c::r).length<=100000)(line FY:Int):ai ctx 152 [.d (.str (c::r)),.d (rr ⟨0,[],0,line,FY⟩)] []=
 some (.ret (.bg [.d (rr ⟨(kZ (c::r)).2.1,(c::r).take (kZ (c::r)).2.2.1,(kZ (c::r)).2.2.2,line,FY⟩),.d (.int .i64 (kZ (c::r)).1)]),[]):=by
 have J:jA (c::r) 0=c:=rfl;have D:=Ge c;have M:=BR c;have hw:=Ur (c::r) Z;have V:=Ut (c::r) Z;have y:=aah c r;have T:((c::r).takeWhile fI).length<=(c::r).length:=(ajj _).length_le;have U:=QS (c::r);have Y:=LU c r;have O:=aaf ((c::r).take ((c::r).takeWhile fI).length);unfold kZ;generalize A1:((c::r).takeWhile fI).length=A' at*;generalize A2:tU (c::r)=A0 at*;generalize A3:ot (c::r)=F at*;obtain⟨n,x,e⟩:=F;simp only at V U;rw[ahM (by simp)];simp only[abb]at T U Y;cases H:rq c with
 |true=>
  rw[H]at D;cases E:wg ((c::r).take A')with
  |true=>
   rw[E]at O;simp[f152,aw,J,D,hw,T,O,H,E]
  |false=>
   rw[E]at O;by_cases I:16<A'
   ·simp[f152,aw,J,D,hw,T,O,H,E,I];omega
   ·simp[f152,aw,J,D,hw,T,O,H,E,I];omega
 |false=>
  rw[H]at D;cases E:qf c with
  |true=>
   rw[E]at M;by_cases I:e=0
   ·simp[f152,aw,J,D,M,V,U,H,E,I]
   ·simp[f152,aw,J,D,M,V,U,H,E,I]
  |false=>
   rw[E]at M;by_cases I:A0=0
   ·simp[f152,aw,J,D,M,y,Y,H,E,I]
   ·simp[f152,aw,J,D,M,y,Y,H,E,I]
theorem aaj{s:Tx}(h:(ot s).2.2=0):1<=(ot s).1:=by
 unfold ot D7 at h⊢;split
 ·rename_i O;rw[abf O]at h;simp at h
 ·rename_i O;rw[aa4 O]at h;split
  ·rename_i A3;rw[A3]at h;simp at h
  ·simp only
   simp only[anS]at O;have:=List.length_pos_iff.2 O.1;omega
theorem aak{c:UInt8}{r:Tx}(h:(kZ (c::r)).1=0):1<=(kZ (c::r)).2.2.1/\(kZ (c::r)).2.2.1<=(c::r).length:=by
 have y:((c::r).takeWhile fI).length<=(c::r).length:=(ajj _).length_le;have A4:=QS (c::r);have A5:=LU c r;have A6:rq c=true->1<=((c::r).takeWhile fI).length:=by
  intro U;have:fI c=true:=by unfold fI;rw[U];rfl
  simp[this]
 have A7:=aaj (s:=c::r);unfold kZ at h⊢;simp only at h⊢;generalize ((c::r).takeWhile fI).length=AJ at*;generalize tU (c::r)=AK at*;generalize ot (c::r)=F at*;by_cases V:rq c=true
 ·simp only[abf V]at h⊢;have:=A6 V;split at h
  ·rename_i hw;rw[abf hw];exact⟨this,y⟩
  ·rename_i hw;rw[aa4 hw];split at h
   ·simp at h
   ·rename_i A8;rw[aa4 A8];exact⟨this,y⟩
 ·simp only[aa4 V]at h⊢;by_cases A':qf c=true
  ·simp only[abf A']at h⊢;split at h
   ·rename_i he;rw[abf he];exact⟨A7 he,A4⟩
   ·rename_i he;exact absurd h he
  ·simp only[aa4 A']at h⊢;split at h
   ·simp at h
   ·rename_i he;rw[aa4 he];exact⟨by simp only;omega,A5⟩
set_option maxHeartbeats 1000000 in
theorem LW(s:Tx)(A9:s.length<=16384):∀(f i:Nat)(out:List fR)(v4 v5 E:Nat)(H I:aH),i<=s.length->s.length-i<f->out.length<=i->
 aO ctx 92 (.loop (Code.at (bk f92) [1,1,1,1,0,0])) ⟨62,aI,[(4,true,.ptr 300 1 0),(5,true,.ptr 950 1 0),(6,true,.vec 400 v4 0 out.length)],
  [⟨200,1,.vec 5 []⟩,⟨300,1,.box [.d (.int .i64 0),.d (.str []),.d (.int .i64 0),.d (.int .i64 0),.d (.int .i64 0)]⟩,⟨400,v4,.vec 5 (out.map rr)⟩,⟨500,v5,H⟩,⟨550,E,I⟩,⟨950,1,vj s i⟩]⟩
  (D4 0 (D5 Tryz.prog S7 0 [.tmp 2,.tmp 3,.cell 4 55]))=some (.ret (.bg [.d (.list ((D8 s f i out).1.map rr)),.d (.int .i64 (D8 s f i out).2.1),.d (rr (D8 s f i out).2.2)]),[])
 |0,i,out,v4,v5,E,H,I,hi,AA,AB=>by omega
 |f+1,i,out,v4,v5,E,H,I,hi,AA,AB=>by
  have D:=aes s i hi (by omega) (s.length+1) (by omega);have AC:=Cu (s.length+1) (s.drop i);unfold D8;generalize gm (s.length+1) (s.drop i)=g at*;obtain⟨n,ok⟩:=g;simp only[ags]at AC;simp only at D⊢;obtain⟨j,AD⟩:∃j,j=i+n:=⟨_,rfl⟩;have AE:j<=s.length:=by omega
  have AL:((i+n:Nat):Int)=(i:Int)+n:=by omega
  rw[<-AD]at D⊢;have J:=LN s j AE;generalize M:gG (s.take j)=p at*;obtain⟨l,c⟩:=p;rw[ah];cases ok with
  |false=>
   simp[M]at D;simp[f92,aw,D,here]
  |true=>
   simp only[Bool.true_eq_false,adW];cases Y:s.drop j with
   |nil=>
    rw[Y]at J;simp[M]at D J;have g1:(out.length+1)*48<=140737488355328/\out.length<=4611686018427387903:=by omega
    simp[f92,aw,D,J,here,g1]
   |cons a r=>
    rw[Y]at J;have AM:j+(r.length+1)=s.length:=by have:=agt List.length Y;simp at this;omega
    have T:=aai a r (by simp;omega) l c;have A0:=aak (c:=a) (r:=r);have AF:¬(a::r=[]):=by simp
    simp only[aa4 AF];generalize kZ (a::r)=F at*;obtain⟨e,AG,m,x⟩:=F;simp only at T A0⊢;simp[M]at D J;have g1:(out.length+1)*48<=140737488355328/\out.length<=4611686018427387903:=by omega
    by_cases he:e=0
    ·subst he;obtain⟨AN,AH⟩:=A0 rfl;simp only[abb]at AH;have A1:=zN s j m (by omega) (by omega);have ih:=λv4 v5 E H I=>LW s A9 f (j+m) (out++[⟨AG,(a::r).take m,x,l,c⟩]) v4 v5 E H I (by omega) (by omega) (by simp;omega);have A2:min m (r.length+1)=m:=by omega
     have AO:((min m (r.length+1):Nat):Int)=m:=by rw[A2]
     simp at T;simp[f92,M]at ih A1⊢;simp[aw,D,J,T,g1,A2,A1,ih]
    ·simp at T;have AI:¬((e:Int)=0):=by omega
     simp[f92,aw,D,J,T,he,AI,here]
theorem aeu(s:Tx):ai ctx 92 [.d (.str s)] []=some (.ret (.bg [.d (.list ((G9 s).1.map rr)),.d (.int .i64 (G9 s).2.1),.d (rr (G9 s).2.2)]),[]):=by
 rw[amS (by simp)];unfold G9;by_cases h:16384<s.length
 ·have Z:(16384:Int)<s.length:=by omega
  simp[f92,aw,h,Z]
 ·have Z:¬((16384:Int)<s.length):=by omega
  have U:=λv4 v5 E H I=>LW s (by omega) (s.length+1) 0 [] v4 v5 E H I (by omega) (by omega) (by simp);rw[aa4 h];generalize D8 s (s.length+1) 0 []=L at*;have M:gG []=(1,1):=rfl;simp[f92,M]at U;simp[f92,aw,h,Z];exact U _ _ _ _ _
end Go.Am
end
section
namespace Go.Am
open Go Go.Proofs
variable [Inhabited b7]
def ID(p q:Int×Int):Prop:=p.1<q.1\/(p.1=q.1/\p.2<q.2)
theorem LZ(p:Int×Int)(c:UInt8):ID p (kz p c):=by
 unfold ID kz;split
 ·left;simp only;omega
 ·right;simp only;exact⟨trivial,by omega⟩
theorem XB{p q r:Int×Int}(h:ID p q)(k:ID q r):ID p r:=by
 unfold ID at*;omega
theorem QU{s:Tx}:∀(d i:Nat),i+d+1<=s.length->ID (gG (s.take i)) (gG (s.take (i+d+1)))
 |0,i,h=>by
  rw[BH (show i+0<s.length by omega)];exact LZ _ _
 |d+1,i,h=>by
  have:=QU (s:=s) d i (by omega);rw[BH (show i+(d+1)<s.length by omega)];exact XB this (LZ _ _)
theorem QV{s:Tx}{i j:Nat}(h:i<j)(O:j<=s.length):¬((gG (s.take j)).1=(gG (s.take i)).1/\(gG (s.take j)).2=(gG (s.take i)).2):=by
 have:=QU (s:=s) (j-i-1) i (by omega);rw[show i+(j-i-1)+1=j by omega]at this;unfold ID at this;omega
inductive Laid(s:Tx):Nat->List fR->Prop
 |fin (i:Nat) (h:i<=s.length):Laid s i [here (gG (s.take s.length))]
 |sign (i j m:Nat) (k n:Int) (r:List fR) (J:i<=j) (D:j+m<=s.length) (E:1<=m) (h:Laid s (j+m) r):
  Laid s i (⟨k,(s.drop j).take m,n,(gG (s.take j)).1,(gG (s.take j)).2⟩::r)
theorem Laid.weaken{s:Tx}{i H:Nat}{r:List fR}(h:Laid s i r)(hi:H<=i):Laid s H r:=by
 cases h with
 |fin _ h=>exact .fin H (by omega)
 |sign _ j m k n r J D E h=>exact .sign H j m k n r (by omega) D E h
theorem Laid.step{s:Tx}{i:Nat}{t:fR}{r:List fR}(h:Laid s i (t::r))(hi:i<=s.length):
 (¬(t.line=(gG (s.take i)).1/\t.FY=(gG (s.take i)).2)/\i<s.length/\Laid s (i+1) (t::r))\/
 ((t.line=(gG (s.take i)).1/\t.FY=(gG (s.take i)).2)/\t.text.length<=s.length-i/\(s.drop i).take t.text.length=t.text/\((i<s.length/\Laid s (i+1) r)\/(i=s.length/\r=[]))):=by
 cases h with
 |fin _ h=>
  by_cases he:i=s.length
  ·subst he;right;simp[here]
  ·left;have I:i<s.length:=by omega
   exact⟨QV I (aa7 _),I,.fin _ (by omega)⟩
 |sign _ j m k n r J D E h=>
  by_cases he:i=j
  ·subst he;right;have M:((s.drop i).take m).length=m:=by simp;omega
   refine⟨⟨rfl,rfl⟩,?_,?_,.inl ⟨by omega,h.weaken (by omega)⟩⟩
   ·simp only[M];omega
   ·simp only[M]
  ·left;have I:i<j:=by omega
   exact⟨QV I (by omega),by omega,.sign _ j m k n r (by omega) D E h⟩
end Go.Am
end
section
namespace Go.Am
open Go Go.Proofs Go.Proofs.Tryz
variable [Inhabited b7]
set_option maxRecDepth 100000
theorem aev(x y E H I J M O:D)(aj:List D):G6 ctx 93 [.ptr 0 0 0,.ptr 1 0 0,.ptr 2 0 0,.lit .nilIface] [.box [.d x,.vec 3 0 0 aj.length,.d y],.box [.d E],.box [.d H,.d I,.d J,.d M,.d O],.vec 8 aj]=
 some (.ret (.bg []),[(0,.box [.d x,.vec 3 1 0 aj.length,.d y]),(0,.box [.d E]),(0,.box [.d H,.d I,.d J,.d M,.d O]),(1,.vec 8 aj)]):=by
 rw[amT (by rfl) (by rfl) (by simp)];simp[f93];erw[Wq rfl];simp
theorem XF{Y:Tx}{U:List fR}{a:Tx}{R c:List D}{n m:Int}(A0:G9 Y=(U,0,⟨0,[],0,0,0⟩))
 (Z:ai ctx 94 [.ptr 0 0 0] [.box [.d (.list (U.map rr)),.d (.int .i64 0),.d (.int .i64 0),.vec 1 0 0 0],.vec 8 []]=
  some (.ret (.agg [.d (.str a),.vec 1 1 0 R.length,.d (.list c)]),[(0,.box [.d (.list (U.map rr)),.d (.int .i64 n),.d (.int .i64 m),.vec 1 1 0 R.length]),(1,.vec 8 R)])):
 ai ctx 57 [.d (.str Y)] []=some (.ret (.bg [.d (.agg [.str a,.list R,.list c]),.d (.int .i64 0),.d (.agg [.int .i64 0,.str [],.int .i64 0,.int .i64 0,.int .i64 0])]),[]):=by
 have V:=aeu Y;rw[A0]at V;have A':=λx y E H I J M O=>aev x y E H I J M O R;simp only at V;generalize U.map rr=T at*;have A1:List.take R.length R=R:=List.take_length;rw[amI (by simp)];simp at V A' Z;simp[f57,Bf,Of,nP,dfv,V,aw,Z,A',A1]
end Go.Am
end
section
namespace Go.Am
open Go
def QW(n:Int):Int:=IntKind.i64.wrap (-n)
def j8(x:Ex):Option (Int×Bool):=
 if b6 x=1 then some (iK x,false)
 else if b6 x=2 then some (iK x,true)
 else if b6 x=6 then (match de x with
  |[y]=>if b6 y=1 then some (QW (iK y),false)else none
  |_=>none)
 else none
def o6:List Ex->Option (List (Int×Bool))
 |[]=>some []
 |x::r=>match j8 x with
  |some p=>(match o6 r with
   |some l=>some (p::l)
   |none=>none)
  |none=>none
def m4(n:Int)(t:Bool)(line:Int):Ex:=
 if t=true then .mk 2 n [] [] [] line
 else if 0<=n then .mk 1 n [] [] [] line
 else .mk 6 0 [] [] [.mk 1 (QW n) [] [] [] line] line
def L3(op:Int):List (Int×Bool)->Option (Int×Bool×Int)
 |[a]=>some (tv op a.1 a.2)
 |[a,b]=>if a.2=b.2 then some (xU op a.1 b.1 a.2)else none
 |_=>none
def lU(x:Ex):Ex:=
 if b6 x<6\/(j8 x).isSome then x
 else match o6 (de x)with
  |none=>x
  |some l=>match L3 (b6 x) l with
   |none=>x
   |some r=>if r.2.2≠0\/(r.2.1=false/\r.1= -9223372036854775808)then x else m4 r.1 r.2.1 (kB x)
mutual
def dk:Ex->Ex
 | .mk op n name field sub line=>lU (.mk op n name field (df sub) line)
def df:List Ex->List Ex
 |[]=>[]
 |x::r=>dk x::df r
end
theorem nB:∀l:List Ex,df l=l.map dk
 |[]=>rfl
 |x::r=>by simp[df,nB r]
mutual
def tB:Sm->Sm
 | .mk op name to val conds D fields blocks line=>.mk op name (dk to) (dk val) (df conds) D fields (iV blocks) line
def dX:List Sm->List Sm
 |[]=>[]
 |x::r=>tB x::dX r
def iV:List (List Sm)->List (List Sm)
 |[]=>[]
 |b::r=>dX b::iV r
end
def XG(p:Pg):Pg:=⟨p.name,p.vars,dX p.body⟩
def Dq:Vr:=⟨[],0,0,false,0,0,0,0⟩
def qP:List Vr->Tx->Int->Int×Vr
 |[],_,_=>(0,Dq)
 |v::r,s,n=>if v.name=s then (n,v)else qP r s (n+bV v)
def cw(vs:List Vr)(s:Tx):Int×Vr:=qP vs s 0
def cx:List Vr->Int
 |[]=>0
 |v::r=>bV v+cx r
def BS:List Pn->Tx->Nat->Option (Nat×Pn)
 |[],_,_=>none
 |p::r,s,i=>if p.name=s then some (i,p)else BS r s (i+1)
def Hg:Pn:=⟨[],0,false⟩
def iW(vs:List Vr)(s f:Tx):Int×Pn:=
 if (bq vs s).isSome=true/\2<(cw vs s).2.ty/\f≠[]then
  (match BS (bJ (cw vs s).2.ty) f 0 with
   |some (i,p)=>((cw vs s).1+i,p)
   |none=>(0,Hg))
 else (0,Hg)
def n9(k:Nat)(x:au):au:=if (x.op=9\/x.op=10)/\0<=x.a then {x with a:=x.a+k} else x
def iX(k:Nat)(l:List au):List au:=l.map (n9 k)
def jn(a b:List au):List au:=a++iX a.length b
def vk(to:Int)(x:au):au:=if x.op=9/\x.a= -1 then {x with a:=to} else x
def oN(to:Int)(x:au):au:=if x.op=9/\x.a= -2 then {x with a:=to} else x
def ins(op a b n m:Int):au:=⟨op,a,b,n,m⟩
mutual
def ar(vs:List Vr):Ex->List au×Bool
 | .mk op n name field sub _=>
  if op=1\/op=2 then ([ins 1 0 0 n 0],decide (op=2))
  else if op=3 then ([ins (1+(cw vs name).2.ty) (cw vs name).1 0 0 0],decide ((cw vs name).2.ty=2))
  else if op=5 then ([ins (1+(iW vs name field).2.ty) (iW vs name field).1 0 0 0],decide ((iW vs name field).2.ty=2))
  else if op=4 then (qp vs sub++[ins (3+(cw vs name).2.ty) (cw vs name).1 0 (cw vs name).2.lo (cw vs name).2.hi],decide ((cw vs name).2.ty=2))
  else ((iO vs sub).1++[ins 8 (if (iO vs sub).2=true then 1 else 0) op 0 0],decide (op=7\/12<op))
def iO(vs:List Vr):List Ex->List au×Bool
 |[]=>([],false)
 |[x]=>ar vs x
 |x::r=>((ar vs x).1++(iO vs r).1,(iO vs r).2)
def qp(vs:List Vr):List Ex->List au
 |[]=>[]
 |x::_=>(ar vs x).1
end
mutual
def aR(h:Int):Ex->Int
 | .mk op _ _ _ sub _=>if op=1\/op=2\/op=3\/op=5 then h+1 else max (h+1) (gn h sub)
def gn(h:Int):List Ex->Int
 |[]=>0
 |x::r=>max (aR h x) (gn (h+1) r)
end
def dh:List (List au)->List (List au)->List au
 |_,[]=>[]
 |[],b::r=>if r=[]then b else jn (b++[ins 9 (b.length+1+(dh [] r).length) 0 0 0]) (dh [] r)
 |t::ts,b::r=>
  let out:=dh ts r
  let part:=if r=[]then b else b++[ins 9 (b.length+1+out.length) 0 0 0]
  jn (t++[ins 10 (t.length+1+part.length) 0 0 0]++iX (t.length+1) part) out
def eH(cell:Int):List Int->List au
 |a::b::r=>ins 14 cell 0 a b::ins 8 1 21 0 0::eH cell r
 |_=>[]
def en(vs:List Vr)(name:Tx):List Tx->List Ex->List au
 |f::E,x::xs=>(ar vs x).1++ins 6 (iW vs name f).1 0 0 0::en vs name E xs
 |_,_=>[]
def rA(l:List au):List au:=l.map (vk l.length)
def iY(t b:List au):List au:=rA (ins 11 0 0 0 0::t++[ins 10 (t.length+3+b.length) 0 0 0]++iX (t.length+2) b++[ins 9 0 0 0 0])
def nC(t b:List au):List au:=rA (b++ins 11 0 0 0 0::t++[ins 10 0 0 0 0])
def ml(at_ cell:Int)(b:List au):List au:=
 rA ([ins 11 0 0 0 0,ins 13 at_ cell 0 0,ins 10 (b.length+8) 0 0 0]++iX 3 b++[ins 2 at_ 0 0 0,ins 2 (cell+1) 0 0 0,ins 8 0 8 0 0,ins 6 at_ 0 0 0,ins 9 0 0 0 0])
mutual
def dn(vs:List Vr):Sm->Int->List au×Int
 | .mk op name to val conds D fields blocks _,c=>
  if op=1 then
   (if b6 to=3 then (ar vs val).1++[ins 6 (cw vs (dU to)).1 0 0 0]
    else qp vs (de to)++((ar vs val).1++[ins 7 (cw vs (dU to)).1 0 (cw vs (dU to)).2.lo (cw vs (dU to)).2.hi]),c)
  else if op=2 then (dh (conds.map λx=>(ar vs x).1) (aA vs blocks c).1,(aA vs blocks c).2)
  else if op=3 then (jn ((ar vs val).1++[ins 6 c 0 0 0]) (dh (D.map λl=>ins 1 0 0 0 0::eH c l) (aA vs blocks (c+1)).1),(aA vs blocks (c+1)).2)
  else if op=4 then (jn ((iO vs conds).1++[ins 6 (c+1) 0 0 0,ins 6 c 0 0 0,ins 6 (cw vs name).1 0 0 0]) (ml (cw vs name).1 c (mQ vs blocks (c+2)).1),(mQ vs blocks (c+2)).2)
  else if op=5 then (iY (ar vs val).1 (mQ vs blocks c).1,(mQ vs blocks c).2)
  else if op=6 then (nC (ar vs val).1 (mQ vs blocks c).1,(mQ vs blocks c).2)
  else if op=7 then ([ins 9 (-1) 0 0 0],c)
  else if op=8 then ([ins 9 (-2) 0 0 0],c)
  else (en vs name fields conds++[ins 12 (cw vs name).1 (cw vs name).2.ty 0 0],c)
def ag(vs:List Vr):List Sm->Int->List au×Int
 |[],c=>([],c)
 |x::r,c=>(jn (jn [ins 11 0 0 0 0] (dn vs x c).1) (ag vs r (dn vs x c).2).1,(ag vs r (dn vs x c).2).2)
def aA(vs:List Vr):List (List Sm)->Int->List (List au)×Int
 |[],c=>([],c)
 |b::r,c=>((ag vs b c).1::(aA vs r (ag vs b c).2).1,(aA vs r (ag vs b c).2).2)
def mQ(vs:List Vr):List (List Sm)->Int->List au×Int
 |[],c=>([],c)
 |b::_,c=>ag vs b c
end
def kR:List Ex->Int
 |[]=>0
 |x::r=>max (aR 0 x) (kR r)
mutual
def gS:Sm->Int
 | .mk op _ to val conds D _ blocks _=>
  if op=1 then (if b6 to=3 then aR 0 val else max (gn 0 (de to)) (aR 1 val))
  else if op=2 then max (kR conds) (cd blocks)
  else if op=3 then max (aR 0 val) (max (if D=[]then 0 else 2) (cd blocks))
  else if op=4 then max (max (gn 0 conds) 3) (cd blocks)
  else if op=5\/op=6 then max (aR 0 val) (cd blocks)
  else if op=7\/op=8 then 0
  else kR conds
def bn:List Sm->Int
 |[]=>0
 |x::r=>max (gS x) (bn r)
def cd:List (List Sm)->Int
 |[]=>0
 |b::r=>max (bn b) (cd r)
end
def BT(p:Pg):Option (List au×Int×Int):=
 let g:=ag p.vars (dX p.body) (cx p.vars)
 if 4096<g.1.length+1\/64<bn (dX p.body)then none
 else some (g.1.map (oN g.1.length)++[ins 15 0 0 0 0],cx p.vars,g.2)
@[simp] theorem mG(k:Nat)(l:List au):(iX k l).length=l.length:=by simp[iX]
@[simp] theorem pf(l:List au):(rA l).length=l.length:=by simp[rA]
theorem eG(a b:List au):(jn a b).length=a.length+b.length:=by simp[jn]
theorem L4(k:Nat)(x:au):(n9 k x).op=x.op:=by unfold n9;split<;>rfl
theorem XH(k:Int)(x:au):(vk k x).op=x.op:=by unfold vk;split<;>rfl
theorem XI(k:Int)(x:au):(oN k x).op=x.op:=by unfold oN;split<;>rfl
def s9(vs:List Vr)(x:Sm)(c:Int):List au:=jn [ins 11 0 0 0 0] (dn vs x c).1
theorem aal(vs:List Vr)(x:Sm)(c:Int):(s9 vs x c).length=(dn vs x c).1.length+1:=by unfold s9;rw[eG];simp;omega
mutual
def ff:Ex->Bool
 | .mk _ n _ _ sub _=>decide (-9223372036854775808<=n/\n<=9223372036854775807)&&eJ sub
def eJ:List Ex->Bool
 |[]=>true
 |x::r=>ff x&&eJ r
end
def Hh(n:Int):Bool:=decide (-9223372036854775808<=n/\n<=9223372036854775807)
mutual
def qq:Sm->Bool
 | .mk _ _ to val conds D _ blocks _=>ff to&&(ff val&&(eJ conds&&(D.all (λl=>l.all Hh)&&iP blocks)))
def iQ:List Sm->Bool
 |[]=>true
 |x::r=>qq x&&iQ r
def iP:List (List Sm)->Bool
 |[]=>true
 |b::r=>iQ b&&iP r
end
theorem XJ{n:Int}(h: -9223372036854775808<n/\n<=9223372036854775807):QW n= -n:=by
 unfold QW;simp only[IntKind.wrap,IntKind.bits,IntKind.signed];simp;omega
theorem ajb(b:Bool):ei b=0\/ei b=1:=by cases b<;>simp[ei]
def QX(r:Int×Bool×Int)(t:Bool):Prop:=r.2.2=0->r.2.1=t/\(t=true->r.1=0\/r.1=1)/\(-9223372036854775808<=r.1/\r.1<=9223372036854775807)
theorem yo(t:Bool):QX mK t:=λh=>by simp[mK]at h
theorem lN(b:Bool):QX (ei b,true,0) true:=λ_=>by rcases ajb b with h|h<;>simp[h]
theorem CE(z:Int):QX (xp (mg z)) false:=by
 intro h;unfold xp mg at h⊢;split<;>simp_all;all_goals omega
theorem ajc{a b:Int}(D: -9223372036854775808<=a/\a<=9223372036854775807)(h:¬(a= -9223372036854775808/\b= -1)): -9223372036854775808<=a.tdiv b/\a.tdiv b<=9223372036854775807:=by
 have J:(a.tdiv b).natAbs<=a.natAbs:=by rw[Int.natAbs_tdiv];exact Nat.div_le_self _ _
 by_cases hm:a= -9223372036854775808
 ·by_cases E:b=1
  ·subst E;simp only[Int.tdiv_one];omega
  ·by_cases M:b=0
   ·subst M;simp
   ·have I:2<=b.natAbs:=by omega
    have O:(a.tdiv b).natAbs<=a.natAbs/2:=by rw[Int.natAbs_tdiv];exact Nat.div_le_div_left I (by omega)
    omega
 ·omega
theorem ajd{a b:Int}(D: -9223372036854775808<=a/\a<=9223372036854775807): -9223372036854775808<=a.tmod b/\a.tmod b<=9223372036854775807:=by
 have J:(a.tmod b).natAbs<=a.natAbs:=by rw[Int.natAbs_tmod];exact Nat.mod_le _ _
 have I:0<=a->0<=a.tmod b:=λh=>Int.tmod_nonneg _ h;have O:a<=0->a.tmod b<=0:=λh=>by
  have:=Int.tmod_nonneg (a:= -a) b (by omega);rw[Int.neg_tmod]at this;omega
 omega
theorem aew{a b:Int}(D: -9223372036854775808<=a/\a<=9223372036854775807):QX (rn (BE a b)) false:=by
 intro h;by_cases E:b=0
 ·simp[rn,BE,E]at h
 ·by_cases hm:a= -9223372036854775808/\b= -1
  ·simp[rn,BE,hm]at h
  ·have:=ajc D hm;simp[rn,BE,E,hm,this]
theorem aex{a b:Int}(D: -9223372036854775808<=a/\a<=9223372036854775807):QX (rn (D6 a b)) false:=by
 intro h;by_cases E:b=0
 ·simp[rn,D6,E]at h
 ·have:=ajd (b:=b) D;simp[rn,D6,E,this]
def aje(op:Int):Prop:=op=6\/(8<=op/\op<=12)\/(15<=op/\op<=18)
instance (op:Int):Decidable (aje op):=inferInstanceAs (Decidable (_\/_))
theorem ajf{op:Int}{l:List (Int×Bool)}{r:Int×Bool×Int}(h:L3 op l=some r)(H:∀p∈l, -9223372036854775808<=p.1/\p.1<=9223372036854775807):
 QX r (!decide (op=6\/(8<=op/\op<=12))):=by
 unfold L3 at h;split at h
 ·rename_i a;cases h;have D:=H a (by simp);unfold tv;split
  ·split
   ·exact yo _
   ·split
    ·rename_i T;subst T;exact lN _
    ·exact yo _
  ·split
   ·rename_i U;subst U;exact CE _
   ·exact yo _
 ·rename_i a b;have D:=H a (by simp);have E:=H b (by simp);split at h
  ·cases h;unfold xU;split
   ·split
    ·exact yo _
    ·unfold K9;split
     ·rename_i e;subst e;exact lN _
     ·split
      ·rename_i e;have:(!decide (op=6\/(8<=op/\op<=12)))=true:=by simp;omega
       rw[this];exact lN _
      ·split
       ·rename_i e;subst e;exact lN _
       ·split
        ·rename_i e;subst e;exact lN _
        ·exact yo _
   ·unfold FQ;split
    ·rename_i e;subst e;exact CE _
    ·split
     ·rename_i e;subst e;exact CE _
     ·split
      ·rename_i e;subst e;exact CE _
      ·split
       ·rename_i e;subst e;exact aew D
       ·split
        ·rename_i e;subst e;exact aex D
        ·split
         ·rename_i e;subst e;exact lN _
         ·split
          ·rename_i e;subst e;exact lN _
          ·split
           ·rename_i e;subst e;exact lN _
           ·split
            ·rename_i e;subst e;exact lN _
            ·split
             ·rename_i e;subst e;exact lN _
             ·split
              ·rename_i e;subst e;exact lN _
              ·exact yo _
  ·cases h
 ·cases h
def Kp(vs:List Vr)(x y:Ex):Prop:=bz y=true/\ff y=true/\aL vs y=aL vs x/\kB y=kB x
theorem XK{vs:List Vr}{y:Ex}{p:Int×Bool}(h:j8 y=some p)(I:bz y=true)(H:ff y=true)(he:(aL vs y).e=0):
 aL vs y=fm (if p.2=true then 2 else 1)/\(-9223372036854775808<=p.1/\p.1<=9223372036854775807):=by
 obtain⟨op,n,name,field,sub,line⟩:=y;simp only[ff,Ds,aa8]at H;by_cases J:op=1
 ·simp only[j8,oM,yh,J,afz,abp]at h;subst h;simp[aL,J,H.1]
 ·by_cases U:op=2
  ·simp only[j8,oM,yh,J,U,adW,afz,abp,Int.reduceEq]at h;subst h;simp[aL,U,H.1]
  ·by_cases V:op=6
   ·simp only[j8,oM,yh,qg,V,adW,afz,Int.reduceEq]at h;split at h
    ·rename_i z;split at h
     ·rename_i A0;cases h;obtain⟨AF,A1,AG,AH,AI,AJ⟩:=z;simp only[oM]at A0;subst A0 V;simp only[eJ,ff,anV,Ds,aa8]at H;have A7:0<=A1:=by
       simp[bz,bO,dY]at I;omega
      have M:=XJ (n:=A1) ⟨by omega,by omega⟩;refine⟨?_,?_⟩
      ·simp[aL,tw,cv,fm,gL,ie]
      ·simp only[yh,M];omega
     ·cases h
    ·cases h
   ·simp only[j8,oM,J,U,V,adW]at h;cases h
theorem QY:∀{l:List Ex}{ps:List (Int×Bool)},o6 l=some ps->ps.length=l.length/\∀(i:Nat) y p,l[i]?=some y->ps[i]?=some p->j8 y=some p
 |[],ps,h=>by simp only[o6]at h;cases h;exact⟨rfl,λi y p h=>by simp at h⟩
 |x::r,ps,h=>by
  simp only[o6]at h;split at h
  ·rename_i p Y;split at h
   ·rename_i l H;cases h;obtain⟨i1,i2⟩:=QY H;refine⟨by simp[i1],λi y q D O=>?_⟩;cases i with
    |zero=>simp at D O;subst D O;exact Y
    |succ i=>simp at D O;exact i2 i y q D O
   ·cases h
  ·cases h
theorem aey(vs:List Vr){n:Int}{t:Bool}{line:Int}(h:t=true->n=0\/n=1)(hi: -9223372036854775808<=n/\n<=9223372036854775807)(hm:¬(t=false/\n= -9223372036854775808)):
 bz (m4 n t line)=true/\ff (m4 n t line)=true/\aL vs (m4 n t line)=fm (if t=true then 2 else 1)/\kB (m4 n t line)=line:=by
 unfold m4;cases t with
 |true=>
  have:=h rfl;refine⟨?_,?_,?_,?_⟩
  ·simp[bz,bO,dY];omega
  ·simp[ff,eJ];omega
  ·simp[aL]
  ·simp
 |false=>
  simp only[agb,adW];split
  ·rename_i A8;refine⟨?_,?_,?_,?_⟩
   ·simp[bz,bO,dY];omega
   ·simp[ff,eJ];omega
   ·simp[aL]
   ·simp
  ·rename_i A8;have A7:n≠ -9223372036854775808:=λe=>hm ⟨rfl,e⟩;have M:=XJ (n:=n) ⟨by omega,by omega⟩;refine⟨?_,?_,?_,?_⟩
   ·simp[bz,bO,dY,M];omega
   ·simp[ff,eJ,M];omega
   ·simp[aL,tw,cv,fm,gL,ie]
   ·simp
theorem ajg{vs:List Vr}{x:Ex}(I:bz x=true)(H:ff x=true)(he:(aL vs x).e=0):Kp vs x (lU x):=by
 have self:Kp vs x x:=⟨I,H,rfl,rfl⟩;unfold lU;split
 ·exact self
 ·rename_i A2;split
  ·exact self
  ·rename_i l A3;split
   ·exact self
   ·rename_i r A4;split
    ·exact self
    ·rename_i Z;simp only[anS,Int.not_lt]at A2 Z;obtain⟨op,n,name,field,sub,line⟩:=x;simp only[oM,qg,Wu]at A2 A3 A4⊢;obtain⟨AK,A9⟩:=QY A3;have A5:=I;simp only[bz,Ds,aa8]at A5;obtain⟨_,E,_,_,AA⟩:=A5;have A6:=H;simp only[ff,Ds]at A6;have AB:∀y∈sub,ff y=true:=by
      have:∀l:List Ex,eJ l=true->∀y∈l,ff y=true:=by
       intro l;induction l with
       |nil=>intro _ y D;simp at D
       |cons z l ih=>
        intro h y D;simp only[eJ,Ds]at h;rcases abd.1 D with rfl|D
        ·exact h.1
        ·exact ih h.2 y D
      exact this sub A6.2
     have A':aL vs (.mk op n name field sub line)=tw vs op line sub:=by
      unfold aL;rw[aa4 (by omega),aa4 (by omega)]
     have AC:∀y∈sub,bz y=true:=(jH sub).1 AA;have AD:∀y∈sub,(aL vs y).e=0:=by
      rw[A']at he;intro y D;match sub,D,he,E with
      |[a],D,he,_=>
       simp at D;subst D;exact (iE he).1
      |[a,b],D,he,_=>
       simp at D;rcases D with rfl|rfl
       ·exact (iE he).1
       ·exact (iE he).2.1
      |a::b::c::d,D,he,E=>
       exfalso;simp only[dY]at E;split at E
       ·simp at E
       ·split at E<;>simp at E
     have AE:∀p∈l, -9223372036854775808<=p.1/\p.1<=9223372036854775807:=by
      intro p Y;obtain⟨i,hi⟩:=an5 Y;have AL:=(aa1.1 hi).1;have D:∃y,sub[i]?=some y:=⟨sub[i]'(by omega),by simp[show i<sub.length by omega]⟩
      obtain⟨y,D⟩:=D;have hm:=abk D;exact (XK (A9 i y p D hi) (AC y hm) (AB y hm) (AD y hm)).2
     obtain⟨q1,q2,q3⟩:=ajf A4 AE (by simpa using Z.1);have T:=aey vs (n:=r.1) (t:=r.2.1) (line:=line) (by rw[q1];exact q2) q3 (λh=>Z.2 h);refine⟨T.1,T.2.1,?_,by rw[T.2.2.2];rfl⟩;rw[T.2.2.1,q1,A'];rw[A']at he;have key:tw vs op line sub=fm (ie op):=by
      match sub,he,E with
      |[a],he,_=>exact (iE he).2.2.2.2
      |[a,b],he,_=>exact (iE he).2.2.2.2
      |[],he,E=>
       exfalso;simp only[dY,abn]at E;split at E
       ·simp at E
       ·split at E
        ·simp at E
        ·omega
      |a::b::c::d,he,E=>
       exfalso;simp only[dY]at E;split at E
       ·simp at E
       ·split at E<;>simp at E
     rw[key];unfold ie;by_cases h:op=6\/(8<=op/\op<=12)<;>simp[h]
theorem CF{op n:Int}{name field:Tx}{sub:List Ex}{line:Int}(h:bz (.mk op n name field sub line)=true):sub.length=dY op/\bO sub=true:=by
 simp only[bz,Ds,aa8]at h;exact⟨h.2.1,h.2.2.2.2⟩
theorem Hi{vs:List Vr}{op n:Int}{name field:Tx}{sub:List Ex}{line:Int}(H:bz (.mk op n name field sub line)=true)(he:(aL vs (.mk op n name field sub line)).e=0):∀y∈sub,(aL vs y).e=0:=by
 obtain⟨E,_⟩:=CF H;intro y D;unfold aL at he;by_cases V:op=1\/op=2
 ·have M:sub=[]:=abv (by rw[E];unfold dY;rcases V with h|h<;>subst h<;>decide);subst M;simp at D
 ·rw[aa4 V]at he;by_cases Y:op=3\/op=4\/op=5
  ·rw[abf Y]at he;by_cases A0:op=4
   ·subst A0;obtain⟨z,rfl⟩:∃z,sub=[z]:=by
     match sub,E with
     |[z],_=>exact⟨z,rfl⟩
     |[],h=>simp[dY]at h
     |_::_::_,h=>simp[dY]at h
    simp at D;subst D;split at he
    ·simp[cL]at he
    ·rw[aa4 (by decide)]at he;split at he
     ·simp[cL]at he
     ·rw[abf rfl]at he;simp only[yi]at he;by_cases I:(aL vs y).e=0
      ·exact I
      ·rw[abf I]at he;exact absurd he I
   ·have M:sub=[]:=abv (by rw[E];unfold dY;rw[aa4 (by omega),aa4 (by omega)]);subst M;simp at D
  ·rw[aa4 Y]at he;match sub,D,he,E with
   |[a],D,he,_=>
    simp at D;subst D;exact (iE he).1
   |[a,b],D,he,_=>
    simp at D;rcases D with rfl|rfl
    ·exact (iE he).1
    ·exact (iE he).2.1
   |a::b::c::d,D,he,E=>
    exfalso;simp only[dY]at E;split at E
    ·simp at E
    ·split at E<;>simp at E
theorem aez{op n:Int}{name field:Tx}{sub:List Ex}{line:Int}(h:ff (.mk op n name field sub line)=true):(-9223372036854775808<=n/\n<=9223372036854775807)/\eJ sub=true:=by
 simp only[ff,Ds,aa8]at h;exact h
theorem wA:∀l:List Ex,eJ l=true↔∀x∈l,ff x=true
 |[]=>by simp[eJ]
 |x::r=>by simp[eJ,wA r]
section
variable {vs:List Vr}
theorem aeA{op n:Int}{name field:Tx}{sub J:List Ex}{line:Int}(T:J.length=sub.length)(h:∀(i:Nat) x y,sub[i]?=some x->J[i]?=some y->aL vs y=aL vs x/\kB y=kB x):
 aL vs (.mk op n name field J line)=aL vs (.mk op n name field sub line):=by
 unfold aL;have A1:∀t,yi vs t J=yi vs t sub:=by
  intro t;match sub,J,T,h with
  |[],[],_,_=>rfl
  |x::r,y::q,_,h=>
   obtain⟨O,U⟩:=h 0 x y rfl rfl;simp only[yi,O,U]
 have A2:tw vs op line J=tw vs op line sub:=by
  match sub,J,T,h with
  |[],[],_,_=>rfl
  |[x],[y],_,h=>
   obtain⟨O,U⟩:=h 0 x y rfl rfl;simp only[tw,O]
  |x::A3::r,y::A4::q,_,h=>
   obtain⟨O,_⟩:=h 0 x y rfl rfl;obtain⟨U,_⟩:=h 1 A3 A4 rfl rfl;simp only[tw,O,U]
 rw[A2];simp only[A1]
theorem Gf:∀x:Ex,bz x=true->ff x=true->(aL vs x).e=0->Kp vs x (dk x)
 | .mk op n name field sub line,H,T,he=>by
  obtain⟨f1,f2⟩:=CF H;obtain⟨A5,A6⟩:=aez T;have M:=Hi H he;have ih:∀y∈sub,Kp vs y (dk y):=λy D=>Gf y ((jH sub).1 f2 y D) ((wA sub).1 A6 y D) (M y D);have E:(df sub).length=sub.length:=by rw[nB];simp
  have A7:bz (.mk op n name field (df sub) line)=true:=by
   have A8:bO (df sub)=true:=by
    rw[jH,nB];intro y D;obtain⟨z,I,rfl⟩:=abz.1 D;exact (ih z I).1
   simp only[bz,Ds]at H⊢;refine⟨H.1,?_,H.2.2.1,H.2.2.2.1,A8⟩;rw[E];exact H.2.1
  have A9:ff (.mk op n name field (df sub) line)=true:=by
   simp only[ff,Ds,aa8];refine⟨A5,?_⟩;rw[wA,nB];intro y D;obtain⟨z,I,rfl⟩:=abz.1 D;exact (ih z I).2.1
  have Z:aL vs (.mk op n name field (df sub) line)=aL vs (.mk op n name field sub line):=by
   refine aeA E λi x y A' D=>?_;rw[nB,adz,A']at D;cases D;have:=ih x (abk A');exact this.2.2
  have:=ajg (vs:=vs) A7 A9 (by rw[Z];exact he);obtain⟨AA,AB,AC,AD⟩:=this;exact⟨AA,AB,AC.trans Z,AD⟩
termination_by x=>SizeOf.sizeOf x
decreasing_by all_goals (simp_wf;have:=List.sizeOf_lt_of_mem D;omega)
end
theorem cn{a b:EL}:(fJ a b).1=0↔a.1=0/\b.1=0:=by
 unfold fJ;by_cases h:a.1=0
 ·rw[aa4 (λM=>M h)];simp[h]
 ·rw[abf h];simp[h]
theorem pG{vs:List Vr}{x:Ex}{t:Int}:(dG vs x t).1=0↔(aL vs x).e=0/\(aL vs x).t=t:=by
 unfold dG;by_cases h:(aL vs x).e=0
 ·rw[aa4 (λM=>M h)];by_cases E:(aL vs x).t=t
  ·rw[aa4 (λM=>M E)];simp[h,E]
  ·rw[abf E];simp[E]
 ·rw[abf h];simp[h]
theorem Q0{x:Ex}(h:dZ x=true):dk x=x:=by
 obtain⟨op,n,name,field,sub,line⟩:=x;simp only[dZ,oM,yh,BL,Li,qg,Ds]at h;obtain⟨H,E,J⟩:=h;have H:op=0:=adL H;have J:=adL J;have Z:sub=[]:=abv (by omega);subst H Z;simp[dk,df,lU]
theorem ajh{op n:Int}{name field:Tx}{sub:List Ex}{line:Int}(h:op<6):dk (.mk op n name field sub line)=.mk op n name field (df sub) line:=by
 show lU _=_;unfold lU;rw[abf (.inl (by simpa using h))]
section
variable {vs:List Vr}
theorem ug{x:Ex}{t:Int}(I:bz x=true)(D:ff x=true)(h:(dG vs x t).1=0):bz (dk x)=true/\ff (dk x)=true/\(dG vs (dk x) t).1=0:=by
 obtain⟨H,E⟩:=pG.1 h;obtain⟨A1,A2,A3,_⟩:=Gf x I D H;exact⟨A1,A2,pG.2 (by rw[A3];exact⟨H,E⟩)⟩
theorem L5{t:Int}:∀l:List Ex,bO l=true->eJ l=true->(lM vs t l).1=0->bO (df l)=true/\eJ (df l)=true/\(lM vs t (df l)).1=0
 |[],_,_,_=>⟨rfl,rfl,rfl⟩
 |x::r,I,D,h=>by
  simp only[bO,eJ,Ds]at I D;obtain⟨H,E⟩:=cn.1 h;obtain⟨O,a2,a3⟩:=ug I.1 D.1 H;obtain⟨T,U,V⟩:=L5 r I.2 D.2 E;simp only[df,bO,eJ,Ds];exact⟨⟨O,T⟩,⟨a2,U⟩,cn.2 ⟨a3,V⟩⟩
theorem Q1{k line:Int}:∀(Y:List Tx)(xs:List Ex)(p:List Tx),xs.length=Y.length->bO xs=true->eJ xs=true->(jm vs k line Y xs p).1=0->bO (df xs)=true/\eJ (df xs)=true/\(jm vs k line Y (df xs) p).1=0
 |[],[],p,_,_,_,_=>⟨rfl,rfl,rfl⟩
 |f::Y,x::xs,p,A4,I,D,h=>by
  simp only[bO,eJ,Ds]at I D;unfold jm at h;simp only[df,bO,eJ,Ds];unfold jm;cases y:mi k f with
  |none=>rw[y]at h;simp at h
  |some q=>
   rw[y]at h;simp only at h⊢;split at h
   ·simp at h
   ·rename_i H;split at h
    ·simp at h
    ·rename_i E;obtain⟨J,A5⟩:=cn.1 h;obtain⟨O,a2,a3⟩:=ug I.1 D.1 J;obtain⟨T,U,V⟩:=Q1 Y xs (p++[f]) (by simpa using A4) I.2 D.2 A5;rw[aa4 H,aa4 E];exact⟨⟨O,T⟩,⟨a2,U⟩,cn.2 ⟨a3,V⟩⟩
 |[],_::_,_,D,_,_,_=>by simp at D
 |_::_,[],_,D,_,_,_=>by simp at D
theorem L6:∀l:List (List Sm),(iV l).length=l.length
 |[]=>rfl
 |b::r=>by simp[iV,L6 r]
theorem aan(l:List Ex):(df l).length=l.length:=by rw[nB];simp
theorem aao{x:Ex}(h:bz x=true):dZ x=false:=by
 obtain⟨op,n,name,field,sub,line⟩:=x;simp only[bz,Ds,ago,afM]at h;have:op≠0:=by
  intro e;apply h.1;omega
 simp[dZ,this]
theorem am8{to val:Ex}{line:Int}(J:b6 to=3\/b6 to=4)(f1:bz to=true)(f2:bz val=true)(A6:ff to=true)(A7:ff val=true)(h:(F5 vs to val line).1=0):
 (bz (dk to)=true/\bz (dk val)=true)/\(ff (dk to)=true/\ff (dk val)=true)/\(F5 vs (dk to) (dk val) line).1=0/\b6 (dk to)=b6 to:=by
 have A':dk to=.mk (b6 to) (iK to) (dU to) (ga to) (df (de to)) (kB to):=by
  obtain⟨op,n,name,field,sub,l⟩:=to;simp only[oM]at J;exact ajh (by omega)
 have A8:dU (dk to)=dU to:=by rw[A'];rfl
 have A9:b6 (dk to)=b6 to:=by rw[A'];rfl
 unfold F5 at h⊢;rw[A8];cases A0:bq vs (dU to)with
 |none=>rw[A0]at h;simp at h
 |some v=>
  rw[A0]at h;simp only at h⊢;split at h
  ·simp at h
  ·rename_i Z;rw[aa4 Z];obtain⟨q1,q2⟩:=cn.1 h;obtain⟨q2,q3⟩:=cn.1 q2;obtain⟨O,a2,a3,_⟩:=Gf to f1 A6 q1;obtain⟨T,U,V,_⟩:=Gf val f2 A7 q2;refine⟨⟨O,T⟩,⟨a2,U⟩,?_,A9⟩;rw[a3,V];exact h
end
section
variable {vs:List Vr}
mutual
theorem aji(I:Bool):∀s:Sm,jU s=true->qq s=true->(kU vs I s).1=0->jU (tB s)=true/\qq (tB s)=true/\(kU vs I (tB s)).1=0
 | .mk op name to val conds U fields blocks line,J,H,h=>by
  simp only[jU,Ds,aa8]at J;obtain⟨AK,AL,A1,A3,AC,y,AM,AN,A5⟩:=J;simp only[qq,Ds]at H;obtain⟨AJ,A6,AD,AO,A7⟩:=H
  --Ac Ad to be shown,from Ae parts
  have fin:(if op=1 then decide (b6 (dk to)=3\/b6 (dk to)=4)&&bz (dk to)else dZ (dk to))=true->
   (if op=1\/op=3\/op=5\/op=6 then !dZ (dk val)&&bz (dk val)else dZ (dk val))=true->bO (df conds)=true->cW (iV blocks)=true->
   ff (dk to)=true->ff (dk val)=true->eJ (df conds)=true->iP (iV blocks)=true->
   (kU vs I (.mk op name (dk to) (dk val) (df conds) U fields (iV blocks) line)).1=0->
   jU (tB (.mk op name to val conds U fields blocks line))=true/\qq (tB (.mk op name to val conds U fields blocks line))=true/\(kU vs I (tB (.mk op name to val conds U fields blocks line))).1=0:=by
   intro A' a2 a3 a4 a5 AP AQ AR a9;simp only[tB,jU,qq,Ds,aa8,aan,L6];exact⟨⟨AK,AL,A',a2,a3,y,AM,AN,a4⟩,⟨a5,AP,AQ,AO,AR⟩,a9⟩
  have AS:¬op=1->(if op=1 then decide (b6 (dk to)=3\/b6 (dk to)=4)&&bz (dk to)else dZ (dk to))=true/\ff (dk to)=true:=by
   intro E;rw[aa4 E]at A1⊢;rw[Q0 A1];exact⟨A1,AJ⟩
  have AE:¬(op=1\/op=3\/op=5\/op=6)->(if op=1\/op=3\/op=5\/op=6 then !dZ (dk val)&&bz (dk val)else dZ (dk val))=true/\ff (dk val)=true:=by
   intro E;rw[aa4 E]at A3⊢;rw[Q0 A3];exact⟨A3,A6⟩
  have vv:(op=1\/op=3\/op=5\/op=6)->bz (dk val)=true->(if op=1\/op=3\/op=5\/op=6 then !dZ (dk val)&&bz (dk val)else dZ (dk val))=true:=by
   intro E M;rw[abf E,aao M,M];rfl
  have AA:(op=1\/op=3\/op=5\/op=6)->bz val=true:=by
   intro E;rw[abf E]at A3;simp only[Ds]at A3;exact A3.2
  unfold kU at h;by_cases E:op=1
  ·subst E;rw[abf rfl]at h;have D:cF 1 conds.length U.length fields.length blocks.length=true:=y;simp[cF]at D;obtain⟨rfl,_,_,rfl⟩:=D;rw[abf rfl]at A1;simp only[Ds,aa8]at A1;obtain⟨⟨AT,AU⟩,⟨AV,AW⟩,AX,AY⟩:=am8 A1.1 A1.2 (AA (.inl rfl)) AJ A6 h;refine fin (by rw[abf rfl,AY,AT];simp[A1.1]) (vv (.inl rfl) AU) rfl rfl AV AW rfl rfl ?_;unfold kU;rw[abf rfl];exact AX
  ·rw[aa4 E]at h;obtain⟨t1,t2⟩:=AS E;by_cases M:op=2
   ·subst M;rw[abf rfl]at h;have D:cF 2 conds.length U.length fields.length blocks.length=true:=y;simp[cF]at D;obtain⟨v1,v2⟩:=AE (by decide);obtain⟨V,Y,O,T,AF⟩:=Gg I conds blocks AC AD A5 A7 (by omega) h;refine fin t1 v1 V O t2 v2 Y T ?_;unfold kU;rw[aa4 E,abf rfl];exact AF
   ·rw[aa4 M]at h;by_cases A0:op=3
    ·subst A0;rw[abf rfl]at h;have D:cF 3 conds.length U.length fields.length blocks.length=true:=y;simp[cF]at D;obtain⟨rfl,_⟩:=D;obtain⟨q1,q2⟩:=cn.1 h;obtain⟨v1,v2,v3⟩:=ug (AA (.inr (.inl rfl))) A6 q1;obtain⟨V,Y,O,T,AF⟩:=Gg I [] blocks rfl rfl A5 A7 (by simp) q2;refine fin t1 (vv (.inr (.inl rfl)) v1) rfl O t2 v2 rfl T ?_;unfold kU;rw[aa4 E,aa4 M,abf rfl];exact cn.2 ⟨v3,AF⟩
    ·rw[aa4 A0]at h;by_cases A4:op=4
     ·subst A4;rw[abf rfl]at h;have D:cF 4 conds.length U.length fields.length blocks.length=true:=y;simp[cF]at D;obtain⟨_,_,_,A8⟩:=D;obtain⟨v1,v2⟩:=AE (by decide);cases A2:bq vs name with
      |none=>rw[A2]at h;simp at h
      |some v=>
       rw[A2]at h;simp only at h;split at h
       ·simp at h
       ·rename_i g1;split at h
        ·simp at h
        ·rename_i g2;obtain⟨q1,q2⟩:=cn.1 h;obtain⟨V,Y,AG⟩:=L5 conds AC AD q1;obtain⟨O,T,Z⟩:=L9 blocks A5 A7 A8 q2;refine fin t1 v1 V O t2 v2 Y T ?_;unfold kU;rw[aa4 E,aa4 M,aa4 A0,abf rfl,A2];simp only
         rw[aa4 g1,aa4 g2];exact cn.2 ⟨AG,Z⟩
     ·rw[aa4 A4]at h;by_cases A9:op=5
      ·subst A9;rw[abf rfl]at h;have D:cF 5 conds.length U.length fields.length blocks.length=true:=y;simp[cF]at D;obtain⟨rfl,_,_,A8⟩:=D;obtain⟨q1,q2⟩:=cn.1 h;obtain⟨v1,v2,v3⟩:=ug (AA (.inr (.inr (.inl rfl)))) A6 q1;obtain⟨O,T,Z⟩:=L9 blocks A5 A7 A8 q2;refine fin t1 (vv (.inr (.inr (.inl rfl))) v1) rfl O t2 v2 rfl T ?_;unfold kU;rw[aa4 E,aa4 M,aa4 A0,aa4 A4,abf rfl];exact cn.2 ⟨v3,Z⟩
      ·rw[aa4 A9]at h;by_cases AB:op=6
       ·subst AB;rw[abf rfl]at h;have D:cF 6 conds.length U.length fields.length blocks.length=true:=y;simp[cF]at D;obtain⟨rfl,_,_,A8⟩:=D;obtain⟨q1,q2⟩:=cn.1 h;obtain⟨v1,v2,v3⟩:=ug (AA (.inr (.inr (.inr rfl)))) A6 q2;obtain⟨O,T,Z⟩:=L9 blocks A5 A7 A8 q1;refine fin t1 (vv (.inr (.inr (.inr rfl))) v1) rfl O t2 v2 rfl T ?_;unfold kU;rw[aa4 E,aa4 M,aa4 A0,aa4 A4,aa4 A9,abf rfl];exact cn.2 ⟨Z,v3⟩
       ·rw[aa4 AB]at h;obtain⟨v1,v2⟩:=AE (by omega);by_cases AH:op=7
        ·subst AH;rw[abf rfl]at h;have D:cF 7 conds.length U.length fields.length blocks.length=true:=y;simp[cF]at D;obtain⟨rfl,_,_,rfl⟩:=D;refine fin t1 v1 rfl rfl t2 v2 rfl rfl ?_;unfold kU;rw[aa4 E,aa4 M,aa4 A0,aa4 A4,aa4 A9,aa4 AB,abf rfl];exact h
        ·rw[aa4 AH]at h;by_cases AZ:op=9
         ·subst AZ;rw[abf rfl]at h;have D:cF 9 conds.length U.length fields.length blocks.length=true:=y;simp[cF]at D;obtain⟨A_,_,rfl⟩:=D;cases A2:bq vs name with
          |none=>rw[A2]at h;simp at h
          |some v=>
           rw[A2]at h;simp only at h;split at h
           ·simp at h
           ·rename_i g1;obtain⟨V,Y,AG⟩:=Q1 fields conds [] A_ AC AD h;refine fin t1 v1 V rfl t2 v2 Y rfl ?_;unfold kU;rw[aa4 E,aa4 M,aa4 A0,aa4 A4,aa4 A9,aa4 AB,aa4 AH,abf rfl,A2];simp only
            rw[aa4 g1];exact AG
         ·have Aa:op=8:=by omega
          subst Aa;have D:cF 8 conds.length U.length fields.length blocks.length=true:=y;simp[cF]at D;obtain⟨rfl,_,_,rfl⟩:=D;refine fin t1 v1 rfl rfl t2 v2 rfl rfl ?_;unfold kU;simp
theorem uh(I:Bool):∀l:List Sm,eR l=true->iQ l=true->(eX vs I l).1=0->eR (dX l)=true/\iQ (dX l)=true/\(eX vs I (dX l)).1=0
 |[],_,_,_=>⟨rfl,rfl,rfl⟩
 |x::r,J,H,h=>by
  simp only[eR,iQ,Ds]at J H;obtain⟨E,M⟩:=cn.1 h;obtain⟨A',a2,a3⟩:=aji I x J.1 H.1 E;obtain⟨O,T,Z⟩:=uh I r J.2 H.2 M;simp only[dX,eR,iQ,Ds];exact⟨⟨A',O⟩,⟨a2,T⟩,cn.2 ⟨a3,Z⟩⟩
theorem Gg(I:Bool):∀(cs:List Ex)(l:List (List Sm)),bO cs=true->eJ cs=true->cW l=true->iP l=true->cs.length<=l.length->(gf vs I cs l).1=0->
 bO (df cs)=true/\eJ (df cs)=true/\cW (iV l)=true/\iP (iV l)=true/\(gf vs I (df cs) (iV l)).1=0
 |[],[],_,_,_,_,_,_=>⟨rfl,rfl,rfl,rfl,rfl⟩
 |[],b::r,V,Y,J,H,_,h=>by
  simp only[cW,iP,Ds]at J H;obtain⟨E,M⟩:=cn.1 h;obtain⟨A',a2,a3⟩:=uh I b J.1 H.1 E;obtain⟨_,_,O,T,Z⟩:=Gg I [] r rfl rfl J.2 H.2 (by simp) M;simp only[df,iV,bO,eJ,cW,iP,Ds];exact⟨trivial,trivial,⟨A',O⟩,⟨a2,T⟩,cn.2 ⟨a3,Z⟩⟩
 |c::cs,b::r,V,Y,J,H,AI,h=>by
  simp only[cW,iP,Ds]at J H;simp only[bO,eJ,Ds]at V Y;obtain⟨Ab,A0⟩:=cn.1 h;obtain⟨E,M⟩:=cn.1 A0;obtain⟨q1,q2,q3⟩:=ug V.1 Y.1 Ab;obtain⟨A',a2,a3⟩:=uh I b J.1 H.1 E;obtain⟨d1,d2,O,T,Z⟩:=Gg I cs r V.2 Y.2 J.2 H.2 (by simpa using AI) M;simp only[df,iV,bO,eJ,cW,iP,Ds];exact⟨⟨q1,d1⟩,⟨q2,d2⟩,⟨A',O⟩,⟨a2,T⟩,cn.2 ⟨q3,cn.2 ⟨a3,Z⟩⟩⟩
 |_::_,[],_,_,_,_,AI,_=>by simp at AI
theorem L9:∀(l:List (List Sm)),cW l=true->iP l=true->l.length=1->(wj vs l).1=0->cW (iV l)=true/\iP (iV l)=true/\(wj vs (iV l)).1=0
 |[b],J,H,_,h=>by
  simp only[cW,iP,anV]at J H;obtain⟨A',a2,a3⟩:=uh true b J H h;simp only[iV,cW,iP,anV];exact⟨A',a2,a3⟩
 |[],_,_,H,_=>by simp at H
 |_::_::_,_,_,H,_=>by simp at H
end
end
inductive MC(vs:List Vr)(lp:Bool):Sm->Prop
 |asg {to val:Ex} {line:Int} {v:Vr} (D:b6 to=3\/b6 to=4) (T:bq vs (dU to)=some v) (V:¬v.sec=1) (ft:bz to=true) (AG:(aL vs to).e=0) (A3:bz val=true) (AH:(aL vs val).e=0) (h:(aL vs val).t=(aL vs to).t):MC vs lp (.mk 1 [] to val [] [] [] [] line)
 |cnd {to val:Ex} {conds:List Ex} {blocks:List (List Sm)} {line:Int} (D:dZ to=true) (E:dZ val=true) (A6:bO conds=true) (O:1<=conds.length) (I:conds.length<=blocks.length) (H:blocks.length<=conds.length+1) (A1:cW blocks=true) (h:(gf vs lp conds blocks).1=0):MC vs lp (.mk 2 [] to val conds [] [] blocks line)
 |cas {to val:Ex} {A0:List (List Int)} {blocks:List (List Sm)} {line:Int} (D:dZ to=true) (A3:bz val=true) (A5:(dG vs val 1).1=0) (I:A0.length<=blocks.length) (H:blocks.length<=A0.length+1) (AI:A0.all ru=true) (A1:cW blocks=true) (h:(gf vs lp [] blocks).1=0):MC vs lp (.mk 3 [] to val [] A0 [] blocks line)
 |cnt {name:Tx} {to val x y z:Ex} {b:List Sm} {line:Int} {v:Vr} (A7:dq name=true) (D:dZ to=true) (E:dZ val=true) (T:bq vs name=some v) (V:¬v.sec=1) (Z:v.arr=false) (A2:v.ty=1) (AJ:bz x=true) (AK:(dG vs x 1).1=0) (AL:bz y=true) (AM:(dG vs y 1).1=0) (AN:bz z=true) (AO:(dG vs z 1).1=0) (A1:eR b=true) (h:(eX vs true b).1=0):MC vs lp (.mk 4 name to val [x,y,z] [] [] [b] line)
 |whl {to val:Ex} {b:List Sm} {line:Int} (D:dZ to=true) (A3:bz val=true) (A5:(dG vs val 2).1=0) (A1:eR b=true) (h:(eX vs true b).1=0):MC vs lp (.mk 5 [] to val [] [] [] [b] line)
 |rep {to val:Ex} {b:List Sm} {line:Int} (D:dZ to=true) (A3:bz val=true) (A5:(dG vs val 2).1=0) (A1:eR b=true) (h:(eX vs true b).1=0):MC vs lp (.mk 6 [] to val [] [] [] [b] line)
 |ext {to val:Ex} {line:Int} (D:dZ to=true) (E:dZ val=true) (h:lp=true):MC vs lp (.mk 7 [] to val [] [] [] [] line)
 |ret {to val:Ex} {line:Int} (D:dZ to=true) (E:dZ val=true):MC vs lp (.mk 8 [] to val [] [] [] [] line)
 |cal {name:Tx} {to val:Ex} {conds:List Ex} {fields:List Tx} {line:Int} {v:Vr} (A7:dq name=true) (D:dZ to=true) (E:dZ val=true) (T:bq vs name=some v) (A2:2<v.ty) (A6:bO conds=true) (AP:conds.length=fields.length) (A4:fields.all dq=true) (h:(jm vs v.ty line fields conds []).1=0):MC vs lp (.mk 9 name to val conds [] fields [] line)
theorem vo{α:Type}{l:List α}(h:l.length=0):l=[]:=abv h
theorem Hj{α:Type}{l:List α}(h:l.length=1):∃a,l=[a]:=by
 match l,h with
 |[a],_=>exact⟨a,rfl⟩
theorem aui{α:Type}{l:List α}(h:l.length=3):∃a b c,l=[a,b,c]:=by
 match l,h with
 |[a,b,c],_=>exact⟨a,b,c,rfl⟩
theorem Uw{vs:List Vr}{b:List Sm}(h:(wj vs [b]).1=0):(eX vs true b).1=0:=by simpa [wj]using h
theorem Q2{vs:List Vr}{lp:Bool}{x:Sm}(A4:jU x=true)(h:(kU vs lp x).1=0):MC vs lp x:=by
 obtain⟨op,name,to,val,conds,A0,fields,blocks,line⟩:=x;simp only[jU,Ds]at A4;obtain⟨A8,J,D,E,A',M,A9,AA,Y⟩:=A4;simp only[aa8]at A8;unfold kU at h;have AB:op=1\/op=2\/op=3\/op=4\/op=5\/op=6\/op=7\/op=8\/op=9:=by omega
 rcases AB with rfl|rfl|rfl|rfl|rfl|rfl|rfl|rfl|rfl
 ·simp[cF]at J D E M h;obtain⟨rfl,rfl,rfl,rfl⟩:=M;subst J;unfold F5 at h;cases T:bq vs (dU to)with
  |none=>rw[T]at h;simp at h
  |some v=>
   rw[T]at h;simp only at h;by_cases V:v.sec=1
   ·simp[V]at h
   ·rw[aa4 V]at h;obtain⟨O,I⟩:=cn.1 h;obtain⟨I,H⟩:=cn.1 I;refine .asg D.1 T V D.2 O E.2 I ?_;apply Classical.byContradiction;intro hh;rw[abf hh]at H;simp at H
 ·simp[cF]at J D E M h;obtain⟨O,I,H,U,AC⟩:=M;subst J I H;exact .cnd D E A' (by omega) (by omega) (by omega) Y h
 ·simp[cF]at J D E M h;obtain⟨O,H,U,AC⟩:=M;subst J O H;obtain⟨g1,g2⟩:=cn.1 h;exact .cas D E.2 g1 (by omega) (by omega) AA Y g2
 ·simp[cF]at J D E M h;obtain⟨O,I,H,U⟩:=M;obtain⟨x,y,z,rfl⟩:=aui O;obtain⟨b,rfl⟩:=Hj U;subst I H;cases T:bq vs name with
  |none=>rw[T]at h;simp at h
  |some v=>
   rw[T]at h;simp only at h;by_cases V:v.sec=1
   ·simp[V]at h
   ·rw[aa4 V]at h;by_cases Z:v.arr=true\/¬v.ty=1
    ·rw[abf Z]at h;simp at h
    ·rw[aa4 Z]at h;simp only[anS,Bool.not_eq_true,Classical.not_not]at Z;obtain⟨g1,g2⟩:=cn.1 h;simp only[lM]at g1;obtain⟨AD,g1⟩:=cn.1 g1;obtain⟨AE,g1⟩:=cn.1 g1;obtain⟨AF,g1⟩:=cn.1 g1;simp only[bO,Ds]at A';simp only[cW,Ds]at Y;exact .cnt J D E T V Z.1 Z.2 A'.1 AD A'.2.1 AE A'.2.2.1 AF Y.1 (Uw g2)
 ·simp[cF]at J D E M h;obtain⟨O,I,H,U⟩:=M;obtain⟨b,rfl⟩:=Hj U;subst J O I H;obtain⟨g1,g2⟩:=cn.1 h;simp only[cW,Ds]at Y;exact .whl D E.2 g1 Y.1 (Uw g2)
 ·simp[cF]at J D E M h;obtain⟨O,I,H,U⟩:=M;obtain⟨b,rfl⟩:=Hj U;subst J O I H;obtain⟨g1,g2⟩:=cn.1 h;simp only[cW,Ds]at Y;exact .rep D E.2 g2 Y.1 (Uw g1)
 ·simp[cF]at J D E M h;obtain⟨O,I,H,U⟩:=M;subst J O I H U;refine .ext D E ?_;cases lp with
  |true=>rfl
  |false=>simp at h
 ·simp[cF]at J D E M h;obtain⟨O,I,H,U⟩:=M;subst J O I H U;exact .ret D E
 ·simp[cF]at J D E M h;obtain⟨O,I,H⟩:=M;subst I H;cases T:bq vs name with
  |none=>rw[T]at h;simp at h
  |some v=>
   rw[T]at h;simp only at h;by_cases A2:v.ty<=2
   ·rw[abf A2]at h;simp at h
   ·rw[aa4 A2]at h;exact .cal J D E T (by omega) A' O (adA.2 (by simpa using A9)) h
end Go.Am
end
section
namespace Go.Am
theorem IE{E:Int->Nat}{cells last:Int}:∀{ins:List au}{i0:Nat},u4 E cells last i0 ins=true↔∀i x,ins[i]?=some x->dx E cells last ((i0+i:Nat):Int) x=true
 |[],i0=>by simp[u4]
 |y::r,i0=>by
  constructor
  ·intro h i x D;exact sK h i x D
  ·intro h;simp only[u4,Ds];refine⟨by simpa using h 0 y rfl,IE.2 (λi x D=>?_)⟩;have:=h (i+1) x (by simpa using D);rw[show i0+1+i=i0+(i+1) by omega];exact this
def sM(i:Nat)(x:au):Bool:=decide (x.op=9\/x.op=10)&&decide (x.a.toNat=i)
theorem Hk(i:Nat):∀(l:List au)(T:List Bool),i<T.length->
 (l.foldl (λl x=>if x.op=9\/x.op=10 then l.set x.a.toNat true else l) T).getD i false=(T.getD i false||l.any (sM i))
 |[],T,h=>by simp
 |x::r,T,h=>by
  simp only[agc,List.any_cons];by_cases e:x.op=9\/x.op=10
  ·rw[abf e,Hk i r _ (by simpa using h)];have:(T.set x.a.toNat true).getD i false=(T.getD i false||sM i x):=by
    simp only[adN,List.getElem?_set,sM,e,decide_true,aiR];by_cases H:x.a.toNat=i
    ·subst H;simp[h]
    ·simp[H]
   rw[this,Bool.or_assoc]
  ·rw[aa4 e,Hk i r _ h];simp[sM,e]
theorem IF{ins:List au}{i:Nat}(h:i<ins.length):(FR ins).getD i false=ins.any (sM i):=by
 unfold FR;rw[Hk i ins _ (by simpa using h)];simp[adN,h]
def Bd(succ:Nat->List Nat):Nat->Nat->Prop
 |0,i=>succ i=[]
 |h+1,i=>∀j∈succ i,Bd succ h j
theorem Bd.succ{succ:Nat->List Nat}:∀{h i:Nat},Bd succ h i->Bd succ (h+1) i
 |0,i,T=>λj D=>by rw[show succ i=[]from T]at D;simp at D
 |h+1,i,T=>λj D=>(T j D).succ
theorem Bd.le{succ:Nat->List Nat}{h AB i:Nat}(T:Bd succ h i)(Z:h<=AB):Bd succ AB i:=by
 induction Z with
 |refl=>exact T
 |step _ ih=>exact ih.succ
theorem Q3{succ:Nat->List Nat}:∀(l:List Nat),(∀j∈l,∃h,Bd succ h j)->∃h,∀j∈l,Bd succ h j
 |[],_=>⟨0,λj h=>by simp at h⟩
 |x::r,h=>by
  obtain⟨I,AH⟩:=h x (by simp);obtain⟨J,AI⟩:=Q3 r (λj D=>h j (by simp[D]));refine⟨max I J,λj D=>?_⟩;rcases abd.1 D with rfl|D
  ·exact AH.le (by omega)
  ·exact (AI j D).le (by omega)
theorem Q4{succ:Nat->List Nat}{i:Nat}(h:Ends succ i):∃h,Bd succ h i:=by
 induction h with
 |mk i _ ih=>
  obtain⟨h,T⟩:=Q3 (succ i) ih;exact⟨h+1,T⟩
theorem least{P:Nat->Prop}(h:∃n,P n):∃n,P n/\∀m,m<n->¬P m:=by
 obtain⟨n,U⟩:=h;induction n using Nat.strongRecOn with
 |ind n ih=>
  by_cases hm:∃m,m<n/\P m
  ·obtain⟨m,I,J⟩:=hm;exact ih m I J
  ·exact⟨n,U,λm I J=>hm ⟨m,I,J⟩⟩
theorem ajp{succ:Nat->List Nat}:∃r:Nat->Nat,∀i,Ends succ i->∀j∈succ i,r j<r i:=by
 classical
 let r:Nat->Nat:=λi=>if h:∃n,Bd succ n i then Classical.choose (least h)else 0
 refine⟨r,λi hi j D=>?_⟩;have A2:=Q4 hi;have A3:∃n,Bd succ n j:=Q4 (by cases hi with|mk _ h=>exact h j D);have AJ:r i=Classical.choose (least A2):=dif_pos A2;have AK:r j=Classical.choose (least A3):=dif_pos A3;obtain⟨V,a2⟩:=akt (least A2);obtain⟨AL,AC⟩:=akt (least A3);rw[<-AJ]at V a2;rw[<-AK]at AL AC;cases AD:r i with
 |zero=>
  rw[AD]at V;rw[show succ i=[]from V]at D;simp at D
 |succ n=>
  rw[AD]at V;have A':Bd succ n j:=V j D;exact Classical.byContradiction λU=>AC n (by omega) A'
theorem Ma{succ:Nat->List Nat}{N:Nat}{r:Nat->Nat}(h:∀i<N,∀j∈succ i,j<N/\r j<r i):∀i<N,Ends succ i:=by
 have key:∀(m i:Nat),r i<m->i<N->Ends succ i:=by
  intro m;induction m with
  |zero=>intro i hi;omega
  |succ m ih=>
   intro i hi AE;exact .mk i (λj D=>ih j (by have:=(h i AE j D).2;omega) (h i AE j D).1)
 exact λi hi=>key _ i (Nat.lt_succ_self _) hi
def fq(x:au):Prop:=x.op=9\/x.op=10
instance (x:au):Decidable (fq x):=inferInstanceAs (Decidable (_\/_))
structure Good(H:Int->Nat)(cells:Int)(l:List au)(r:Nat->Nat)(st:Nat->List Bool):Prop where
 len:1<=l.length/\l.length<=4096
 last:∀x,l[l.length-1]?=some x->x.op=15
 form:∀(i:Nat) x,l[i]?=some x->dx H cells ((l.length:Int)-1) i x=true
 st0:st 0=[]
 mv:∀(i:Nat) x,l[i]?=some x->cK x (st i)=some (st (i+1))
 Ak:∀(i:Nat) x,l[i]?=some x->fq x->st x.a.toNat=[]
 auj:∀(i:Nat) x,l[i]?=some x->x.op≠11->∀j∈Cs l i,r j<r i
theorem Good.tgt{H cells l r st}(h:Good H cells l r st){i:Nat}{x:au}(E:l[i]?=some x)(D:fq x):0<=x.a/\x.a.toNat<l.length:=by
 have:=h.form i x E;unfold dx at this;have I:=h.len.1;rcases D with e|e
 ·simp[e]at this;omega
 ·simp[e]at this;omega
theorem Good.Q5{H cells l r st}(h:Good H cells l r st){i:Nat}{x:au}(E:l[i]?=some x):x.op=15↔i+1=l.length:=by
 constructor
 ·intro e;have:=h.form i x E;unfold dx at this;simp[e]at this;have:=h.len.1;omega
 ·intro e;exact h.last x (by rw[show l.length-1=i by omega];exact E)
theorem Mb(Ak:List Bool):∀(l:List au)(i:Nat)(S:List Bool),u5 Ak i l S=true->∃st:Nat->List Bool,st i=S/\∀k x,l[k]?=some x->(Ak.getD (i+k) false=true->st (i+k)=[])/\cK x (st (i+k))=some (st (i+k+1))
 |[],i,S,_=>⟨λ_=>S,rfl,λk x h=>by simp at h⟩
 |x::r,i,S,h=>by
  unfold u5 at h;split at h
  ·cases h
  ·rename_i Z;cases hm:cK x S with
   |none=>rw[hm]at h;cases h
   |some AM=>
    rw[hm]at h;obtain⟨st,I,J⟩:=Mb Ak r (i+1) AM h;refine⟨λk=>if k=i then S else st k,by simp,λk y M=>?_⟩;cases k with
    |zero=>
     simp at M;subst M;simp only[af5,afz];refine⟨λO=>?_,by rw[aa4 (by omega),I];exact hm⟩;rw[O]at Z;simpa using Z
    |succ k=>
     have:=J k y (by simpa using M);simp only[show ¬(i+(k+1)=i) by omega,show ¬(i+(k+1)+1=i) by omega,adW];rw[show i+1+k=i+(k+1) by omega]at this;exact this
theorem Md(Ak:List Bool)(st:Nat->List Bool):∀(l:List au)(i:Nat),(∀k x,l[k]?=some x->(Ak.getD (i+k) false=true->st (i+k)=[])/\cK x (st (i+k))=some (st (i+k+1)))->u5 Ak i l (st i)=true
 |[],i,_=>rfl
 |x::r,i,h=>by
  have A4:=h 0 x rfl;simp only[af5]at A4;unfold u5;rw[aa4,A4.2]
  ·exact Md Ak st r (i+1) (λk y M=>by
    have:=h (k+1) y (by simpa using M);rw[show i+(k+1)=i+1+k by omega]at this;exact this)
  ·intro A5;simp only[Ds,ago,List.isEmpty_eq_false_iff]at A5;exact A5.2 (A4.1 A5.1)
theorem aeC{H:Int->Nat}{l:List au}{vars cells:Int}(h:BF H l vars cells=true):(0<=cells/\cells<=8192/\0<=vars/\vars<=cells)/\∃r st,Good H cells l r st:=by
 simp only[BF,Ds]at h;obtain⟨⟨I,J⟩,A'⟩:=h;have AN:=I;simp only[rp,Ji,Ds,aa8]at I;obtain⟨⟨⟨⟨⟨⟨⟨V,a2⟩,a3⟩,a4⟩,a5⟩,AO⟩,A6⟩,AF⟩:=I;refine⟨⟨a3,a4,a5,AO⟩,?_⟩;obtain⟨r,A7⟩:=ajp (succ:=rW l);obtain⟨st,AP,A0⟩:=Mb _ _ _ _ J;have AQ:∀i<l.length,Ends (rW l) i:=by
  intro i hi;exact Classical.byContradiction λU=>by
   have:=(Il AN).2 ⟨i,hi,U⟩;rw[this]at A';cases A'
 refine⟨r,st,⟨by omega,by omega⟩,λx E=>?_,λi x E=>?_,AP,λi x E=>?_,λi x E D=>?_,λi x E AR j D=>?_⟩
 ·unfold xX at A6;rw[anQ,E]at A6;simpa using A6
 ·have:=sK AF i x E;simpa using this
 ·have:=(A0 i x E).2;simpa using this
 ·have Y:=sK AF i x E;have hi:=(aa1.1 E).1;have AG:x.a.toNat<l.length:=by
   unfold dx at Y;rcases D with e|e
   ·simp[e]at Y;omega
   ·simp[e]at Y;omega
  have O:=IF AG;have:l.any (sM x.a.toNat)=true:=by
   rw[List.any_eq_true];refine⟨x,abk E,?_⟩;unfold sM;have:(x.op=9\/x.op=10):=D;simp[this]
  rw[this]at O;obtain⟨y,M⟩:∃y,l[x.a.toNat]?=some y:=⟨_,adv AG⟩;have:=(A0 _ y M).1;simp only[afO]at this;exact this O
 ·have hi:=(aa1.1 E).1;refine A7 i (AQ i hi) j ?_;unfold rW;rw[aa4]
  ·exact D
  ·unfold xW;rw[E];simpa using AR
theorem aap{H cells l r st}(h:Good H cells l r st){i j:Nat}(hi:i<l.length)(D:j∈Cs l i):j<l.length:=by
 have E:l[i]?=some l[i]:=by simp[hi]
 unfold Cs at D;rw[E]at D;simp only at D;have AS:=h.Q5 E;by_cases A8:l[i].op=9
 ·have:=h.tgt E (.inl A8);simp[A8]at D;omega
 ·by_cases A9:l[i].op=10
  ·have:=h.tgt E (.inr A9);simp[A9]at D;omega
  ·by_cases AA:l[i].op=15
   ·simp[AA]at D
   ·simp[A8,A9,AA]at D;have:¬(i+1=l.length):=λh=>AA (AS.2 h);omega
theorem ana{H:Int->Nat}{l:List au}{vars cells:Int}{r:Nat->Nat}{st:Nat->List Bool}(AW:0<=cells/\cells<=8192/\0<=vars/\vars<=cells)(h:Good H cells l r st):BF H l vars cells=true:=by
 have Y:rp H l vars cells=true:=by
  simp only[rp,Ji,Ds,aa8];have I:=h.len;refine⟨⟨⟨⟨⟨⟨⟨by omega,by omega⟩,by omega⟩,by omega⟩,by omega⟩,by omega⟩,?_⟩,IE.2 (λi x E=>by simpa using h.form i x E)⟩;unfold xX;rw[anQ,adv (by omega)];have:=h.last l[l.length-1] (by rw[adv (by omega)]);simpa using this
 have A0:u5 (FR l) 0 l []=true:=by
  have:=Md (FR l) st l 0 (λk x E=>by
   refine⟨λO=>?_,by simpa using h.mv k x E⟩;simp only[afO]at O⊢;have AT:=(aa1.1 E).1;rw[IF AT,List.any_eq_true]at O;obtain⟨y,M,A1⟩:=O;unfold sM at A1;simp only[Ds,aa8]at A1;obtain⟨i,hi,rfl⟩:=List.getElem_of_mem M;have:=h.Ak i l[i] (by simp[hi]) A1.1;rw[A1.2]at this;exact this)
  rw[h.st0]at this;exact this
 have A7:rounds (Ct l) (l.length+1) (List.range l.length) (List.replicate l.length 0)=false:=by
  cases AU:rounds (Ct l) (l.length+1) (List.range l.length) (List.replicate l.length 0)with
  |false=>rfl
  |true=>
   obtain⟨i,hi,U⟩:=(Il Y).1 AU;refine absurd (Ma (N:=l.length) (r:=r) (λi hi j D=>?_) i hi) U;unfold rW at D;split at D
   ·simp at D
   ·rename_i AV;refine⟨aap h hi D,h.auj i l[i] (by simp[hi]) (λe=>AV ?_) j D⟩;unfold xW;rw[adv hi];simpa using e
 unfold BF;rw[Y,A0,A7];rfl
end Go.Am
end
section
namespace Go.Am
open Go
theorem Me{s:Tx}{v:Vr}:∀{l:List Vr}{n:Int},bq l s=some v->(qP l s n).2=v
 |x::r,n,h=>by
  unfold bq at h;unfold qP;split at h
  ·rename_i e;cases h;rw[abf e]
  ·rename_i e;rw[aa4 e];exact Me h
theorem jr{vs:List Vr}{s:Tx}{v:Vr}(h:bq vs s=some v):(cw vs s).2=v:=Me h
theorem IG{s:Tx}{v:Vr}:∀{l:List Vr}{n:Int},(∀v∈l,0<=bV v)->bq l s=some v->n<=(qP l s n).1/\(qP l s n).1+bV v<=n+cx l
 |x::r,n,I,h=>by
  have Y:=I x (by simp);have Z:0<=cx r:=by
   have:∀l:List Vr,(∀v∈l,0<=bV v)->0<=cx l:=by
    intro l;induction l with
    |nil=>intro _;simp[cx]
    |cons y l ih=>intro h;have:=ih (λv H=>h v (by simp[H]));have:=h y (by simp);simp only[cx];omega
   exact this r (λv H=>I v (by simp[H]))
  unfold bq at h;unfold qP;simp only[cx];split at h
  ·rename_i e;cases h;rw[abf e];simp only;omega
  ·rename_i e;rw[aa4 e];have:=IG (n:=n+bV x) (λv H=>I v (by simp[H])) h;omega
theorem wB{vs:List Vr}{s:Tx}{v:Vr}(I:∀v∈vs,0<=bV v)(h:bq vs s=some v):0<=(cw vs s).1/\(cw vs s).1+bV v<=cx vs:=by
 have:=IG (n:=0) I h;simp only[Int.zero_add]at this;exact this
theorem aeD:∀x∈Lj,∀p∈x.2,p.ty=1\/p.ty=2:=by decide
theorem IH{k:Int}{p:Pn}:∀{l:List (Int×List Pn)},p∈tV l k->∃x∈l,p∈x.2
 |(a,q)::r,h=>by
  unfold tV at h;split at h
  ·exact⟨(a,q),by simp,h⟩
  ·obtain⟨x,E,D⟩:=IH h;exact⟨x,by simp[E],D⟩
theorem XL{k:Int}{p:Pn}(h:p∈bJ k):p.ty=1\/p.ty=2:=by
 obtain⟨x,E,D⟩:=IH h;exact aeD x E p D
theorem Mf{f:Tx}{p:Pn}:∀{l:List Pn}{i:Nat},zJ l f=some p->f≠[]/\p∈l/\∃j,BS l f i=some (j,p)/\i<=j/\j<i+l.length
 |q::r,i,h=>by
  unfold zJ at h;unfold BS;split at h
  ·rename_i e;cases h;exact⟨e.2,by simp,i,by rw[abf e.1],by omega,by simp⟩
  ·rename_i e;obtain⟨E,D,j,J,A',O⟩:=Mf (i:=i+1) h;exact⟨E,by simp[D],j,by rw[aa4 (λe'=>e ⟨e',E⟩)];exact J,by omega,by simp;omega⟩
theorem yt{vs:List Vr}{s f:Tx}{v:Vr}{p:Pn}(H:bq vs s=some v)(T:2<v.ty)(U:mi v.ty f=some p):
 (iW vs s f).2=p/\p∈bJ v.ty/\∃j:Nat,(iW vs s f).1=(cw vs s).1+j/\j<(bJ v.ty).length:=by
 obtain⟨E,D,j,J,_,O⟩:=Mf (i:=0) U;have V:=jr H;unfold iW;rw[H,V,abf ⟨rfl,T,E⟩,J];exact⟨rfl,D,j,rfl,by omega⟩
def cf:List au->List Bool->Option (List Bool)
 |[],S=>some S
 |x::r,S=>(cK x S).bind (cf r)
theorem dr:∀(a b:List au)(S:List Bool),cf (a++b) S=(cf a S).bind (cf b)
 |[],b,S=>rfl
 |x::a,b,S=>by
  simp only[agd,cf];cases cK x S with
  |none=>rfl
  |some M=>exact dr a b M
theorem XM{f:au->au}(h:∀x,f x=x\/((x.op=9\/x.op=10)/\(f x).op=x.op))(x:au)(S:List Bool):cK (f x) S=cK x S:=by
 rcases h x with e|⟨E,D⟩
 ·rw[e]
 ·rcases E with e|e
  ·have D:(f x).op=9:=by rw[D,e]
   simp[cK,D,e]
  ·have D:(f x).op=10:=by rw[D,e]
   simp[cK,D,e]
theorem rB{f:au->au}(h:∀x,f x=x\/((x.op=9\/x.op=10)/\(f x).op=x.op)):∀(l:List au)(S:List Bool),cf (l.map f) S=cf l S
 |[],S=>rfl
 |x::r,S=>by
  simp only[adC,cf,XM h];cases cK x S with
  |none=>rfl
  |some M=>exact rB h r M
theorem XN(k:Nat)(x:au):n9 k x=x\/((x.op=9\/x.op=10)/\(n9 k x).op=x.op):=by
 unfold n9;split
 ·rename_i h;exact .inr ⟨h.1,rfl⟩
 ·exact .inl rfl
theorem Mg(k:Int)(x:au):vk k x=x\/((x.op=9\/x.op=10)/\(vk k x).op=x.op):=by
 unfold vk;split
 ·rename_i h;exact .inr ⟨.inl h.1,rfl⟩
 ·exact .inl rfl
theorem Mh(k:Int)(x:au):oN k x=x\/((x.op=9\/x.op=10)/\(oN k x).op=x.op):=by
 unfold oN;split
 ·rename_i h;exact .inr ⟨.inl h.1,rfl⟩
 ·exact .inl rfl
theorem Hl(k:Nat)(l:List au)(S:List Bool):cf (iX k l) S=cf l S:=rB (XN k) l S
theorem lO{t:Bool}{S:List Bool}(h:S.length<64):oY t S=some (S++[t]):=by unfold oY;rw[abf h]
theorem BW(S:List Bool)(f:Bool):oq 1 false (S++[f])=some S:=by
 unfold oq;rw[aa4 (by simp)];simp
theorem Gi(S:List Bool):oq 1 true (S++[true])=some S:=by
 unfold oq;rw[aa4 (by simp)];simp
theorem aaq(S:List Bool)(f g:Bool):oq 2 false (S++[f]++[g])=some S:=by
 unfold oq;rw[aa4 (by simp)];simp
theorem adE(S:List Bool):oq 2 true (S++[true]++[true])=some S:=by
 unfold oq;rw[aa4 (by simp)];simp
inductive XC(vs:List Vr):Ex->Prop
 |num {n:Int} {line:Int} (h:0<=n):XC vs (.mk 1 n [] [] [] line)
 |tt {n:Int} {line:Int} (h:n=0\/n=1):XC vs (.mk 2 n [] [] [] line)
 |var {name:Tx} {line:Int} {v:Vr} (E:bq vs name=some v) (A6:v.arr=false) (M:v.ty<=2):XC vs (.mk 3 0 name [] [] line)
 |idx {name:Tx} {line:Int} {v:Vr} {y:Ex} (E:bq vs name=some v) (A6:v.arr=true) (M:v.ty<=2) (A0:bz y=true) (A1:(aL vs y).e=0) (ty:(aL vs y).t=1):XC vs (.mk 4 0 name [] [y] line)
 |fld {name field:Tx} {line:Int} {v:Vr} {q:Pn} (E:bq vs name=some v) (M:2<v.ty) (V:mi v.ty field=some q) (Y:dq field=true):XC vs (.mk 5 0 name field [] line)
 |one {op line:Int} {y:Ex} (A7:op=6\/op=7) (A0:bz y=true) (A1:(aL vs y).e=0) (ty:(aL vs y).t=gL op (aL vs y).t):XC vs (.mk op 0 [] [] [y] line)
 |two {op line:Int} {y z:Ex} (A7:8<=op/\op<=21) (A0:bz y=true) (A1:(aL vs y).e=0) (AF:bz z=true) (AG:(aL vs z).e=0) (ty:(aL vs y).t=gL op (aL vs y).t) (AH:(aL vs z).t=gL op (aL vs y).t):XC vs (.mk op 0 [] [] [y,z] line)
theorem Hm{vs:List Vr}{x:Ex}(Y:bz x=true)(he:(aL vs x).e=0):XC vs x:=by
 obtain⟨op,n,name,field,sub,line⟩:=x;simp only[bz,Ds,aa8,ago,afM]at Y;obtain⟨A2,J,H,D,I⟩:=Y;simp only[anS,not_and]at A2;obtain⟨A8,A9,AA,AI,AJ⟩:=A2;unfold aL at he;by_cases Z:op=1\/op=2
 ·rw[aa4 (by omega)]at H D;simp only[aa8]at H D;subst H D;have O:sub=[]:=vo (by rw[J];unfold dY;rcases Z with h|h<;>subst h<;>decide);subst O;rcases Z with h|h
  ·subst h;exact .num (by have:=A8 rfl;omega)
  ·subst h;have:=A9 rfl;exact .tt (by omega)
 ·rw[aa4 Z]at he;have AB:n=0:=by
   have:=AA (by omega);simpa using this
  subst AB;by_cases A':op=3\/op=4\/op=5
  ·rw[abf A']at he;rw[abf A']at H;cases E:bq vs name with
   |none=>rw[E]at he;simp[cL]at he
   |some v=>
    rw[E]at he;simp only at he;by_cases A3:op=5
    ·subst A3;rw[abf rfl]at he D;by_cases M:v.ty<=2
     ·rw[abf M]at he;simp[cL]at he
     ·rw[aa4 M]at he;have O:sub=[]:=vo (by rw[J];decide);subst O;cases V:mi v.ty field with
      |none=>rw[V]at he;simp[cL]at he
      |some q=>exact .fld E (by omega) V D
    ·rw[aa4 A3]at he D;simp only[aa8]at D;subst D;by_cases T:v.arr≠decide (op=4)\/2<v.ty
     ·rw[abf T]at he;simp[cL]at he
     ·rw[aa4 T]at he;simp only[anS,ne_eq,Classical.not_not]at T;by_cases AC:op=4
      ·subst AC;rw[abf rfl]at he;obtain⟨y,rfl⟩:=Hj (l:=sub) (by rw[J];decide);simp only[bO,Ds]at I;simp only[yi]at he;by_cases U:(aL vs y).e=0
       ·rw[aa4 (by simpa using U)]at he;by_cases A4:(aL vs y).t=1
        ·exact .idx E (by simpa using T.1) (by omega) I.1 U A4
        ·rw[abf A4]at he;simp[cL]at he
       ·rw[abf U]at he;exact absurd he U
      ·have AD:op=3:=by omega
       subst AD;have O:sub=[]:=vo (by rw[J];decide);subst O;exact .var E (by simpa using T.1) (by omega)
  ·rw[aa4 A']at he H;rw[aa4 (by omega)]at D;simp only[aa8]at H D;subst H D;by_cases A5:op=6\/op=7
   ·obtain⟨y,rfl⟩:=Hj (l:=sub) (by rw[J];unfold dY;rcases A5 with h|h<;>subst h<;>decide);simp only[bO,Ds]at I;simp only[tw]at he;obtain⟨g1,g2,g3,g4,g5⟩:=iE he;exact .one A5 I.1 g1 g3
   ·have AE:sub.length=2:=by rw[J];unfold dY;rw[aa4 (by omega),abf (by omega)]
    match sub,AE with
    |[y,z],_=>
     simp only[bO,Ds]at I;simp only[tw]at he;obtain⟨g1,g2,g3,g4,g5⟩:=iE he;exact .two (by omega) I.1 g1 I.2.1 g2 g3 g4
theorem kS(vs:List Vr)(x:Ex):1<=(ar vs x).1.length:=by
 obtain⟨op,n,name,field,sub,line⟩:=x;unfold ar;split
 ·simp
 ·split
  ·simp
  ·split
   ·simp
   ·split
    ·simp
    ·simp
def kV(n:Nat)(x:au):au:=if x.op=9\/x.op=10 then {x with a:=if 0<=x.a then x.a+n else 0} else x
def cU(n:Nat)(l:List au):List au:=l.map (kV n)
theorem Jo{n:Nat}{a:Int}(h:0<=a):kV n (ins 9 a 0 0 0)=ins 9 (a+n) 0 0 0:=by simp[kV,ins,h]
theorem BX{n:Nat}{a:Int}(h:0<=a):kV n (ins 10 a 0 0 0)=ins 10 (a+n) 0 0 0:=by simp[kV,ins,h]
@[simp] theorem nU(n:Nat)(l:List au):(cU n l).length=l.length:=by simp[cU]
theorem rC(n:Nat)(a b:List au):cU n (a++b)=cU n a++cU n b:=by simp[cU]
@[simp] theorem yu(n:Nat):cU n []=[]:=rfl
theorem pg(n:Nat)(x:au)(l:List au):cU n (x::l)=kV n x::cU n l:=rfl
theorem aju(n k:Nat)(x:au):kV n (n9 k x)=kV (n+k) x:=by
 obtain⟨op,a,b,c,d⟩:=x;unfold kV n9;by_cases h:op=9\/op=10
 ·by_cases U:0<=a
  ·simp only[h,U,and_self,afz,au.mk.injEq,anU,and_true];rw[abf (by omega)];omega
  ·simp only[h,U,and_false,adW,afz]
 ·simp only[h,false_and,adW]
theorem BY(n k:Nat)(l:List au):cU n (iX k l)=cU (n+k) l:=by
 unfold cU iX;rw[List.map_map];congr 1;funext x;exact aju n k x
theorem Mi(n:Nat)(a b:List au):cU n (jn a b)=cU n a++cU (n+a.length) b:=by rw[jn,rC,BY]
def Flat(l:List au):Prop:=∀x∈l,x.op≠9/\x.op≠10
theorem Flat.cU{l:List au}(h:Flat l)(n:Nat):Am.cU n l=l:=by
 unfold Am.cU;conv=>rhs;rw[<-List.map_id l]
 refine anT λx D=>?_;have:=h x D;simp[kV,this.1,this.2]
theorem Flat.app{a b:List au}(Z:Flat a)(A':Flat b):Flat (a++b):=λx D=>(abo.1 D).elim (Z x) (A' x)
theorem Flat.nil:Flat []:=λ_ h=>by simp at h
theorem Flat.one{x:au}(h:x.op≠9/\x.op≠10):Flat [x]:=λy H=>by simp at H;subst H;exact h
theorem Flat.cons{x:au}{l:List au}(h:x.op≠9/\x.op≠10)(A0:Flat l):Flat (x::l):=λy H=>by
 rcases abd.1 H with rfl|H
 ·exact h
 ·exact A0 y H
def cO(k:Int):Nat->List au->List Int
 |_,[]=>[]
 |n,x::r=>if x.op=9/\x.a=k then (n:Int)::cO k (n+1) r else cO k (n+1) r
theorem jW(k:Int):∀(a b:List au)(n:Nat),cO k n (a++b)=cO k n a++cO k (n+a.length) b
 |[],b,n=>by simp[cO]
 |x::a,b,n=>by
  simp only[agd,cO,jW k a b (n+1),abb];rw[show n+1+a.length=n+(a.length+1) by omega];split<;>simp
theorem rD{k:Int}{l:List au}(h:Flat l)(n:Nat):cO k n l=[]:=by
 induction l generalizing n with
 |nil=>rfl
 |cons x r ih=>
  simp only[cO];rw[aa4 (λhh=>(h x (by simp)).1 hh.1)];exact ih (λy H=>h y (by simp[H])) _
theorem Mj{k:Int}{f:au->au}(h:∀x,((f x).op=9/\(f x).a=k)↔(x.op=9/\x.a=k)):∀(l:List au)(n:Nat),cO k n (l.map f)=cO k n l
 |[],n=>rfl
 |x::r,n=>by
  simp only[adC,cO,Mj h r];by_cases D:x.op=9/\x.a=k
  ·rw[abf D,abf ((h x).2 D)]
  ·rw[aa4 D,aa4 (λhh=>D ((h x).1 hh))]
theorem Jp{k:Int}(J:k<0)(j:Nat)(l:List au)(n:Nat):cO k n (iX j l)=cO k n l:=by
 refine Mj (λx=>?_) l n;unfold n9;split
 ·rename_i h;simp only;omega
 ·exact an1
theorem Jq{k:Int}(J:k<0)(a b:List au)(n:Nat):cO k n (jn a b)=cO k n a++cO k (n+a.length) b:=by rw[jn,jW,Jp J]
def kI(k to:Int)(x:au):au:=if x.op=9/\x.a=k then {x with a:=to} else x
theorem ajv{k to:Int}(h:to≠k):∀(l:List au)(n:Nat),cO k n (l.map (kI k to))=[]
 |[],n=>rfl
 |x::r,n=>by
  simp only[adC,cO,ajv h r];rw[aa4];unfold kI;split
  ·rintro ⟨_,hh⟩;exact h hh
  ·assumption
theorem Ux{k T to:Int}(A1:to≠T)(A2:k≠T)(l:List au)(n:Nat):cO T n (l.map (kI k to))=cO T n l:=by
 refine Mj (λx=>?_) l n;unfold kI;split
 ·rename_i h;simp only
  constructor
  ·rintro ⟨_,hh⟩;exact absurd hh A1
  ·rintro ⟨_,hh⟩;exact absurd (h.2.symm.trans hh) A2
 ·exact an1
def setAt(l:List au)(i:Int)(v:Int):List au:=l.modify i.toNat λx=>{x with a:=v}
def jX(l:List au)(ps:List Int)(v:Int):List au:=ps.foldl (λl i=>setAt l i v) l
@[simp] theorem XO(l:List au)(i v:Int):(setAt l i v).length=l.length:=by simp[setAt]
@[simp] theorem Gj:∀(ps:List Int)(l:List au)(v:Int),(jX l ps v).length=l.length
 |[],l,v=>rfl
 |i::r,l,v=>by
  show (jX (setAt l i v) r v).length=_;rw[Gj r];simp
theorem sN(pre:List au)(x:au)(post:List au)(v:Int):setAt (pre++x::post) pre.length v=pre++{x with a:=v}::post:=by
 unfold setAt;rw[Int.toNat_natCast];induction pre with
 |nil=>rfl
 |cons y r ih=>simp only[agd,abb,List.modify_succ_cons,ih]
theorem r6(l:List au)(i:Int)(r:List Int)(v:Int):jX l (i::r) v=jX (setAt l i v) r v:=rfl
theorem anb{n:Nat}{k to:Int}{x:au}(h:x.op=9/\x.a=k)(M:0<=to)(J:k<0):({kV n x with a:=to+n}:au)=kV n (kI k to x):=by
 obtain⟨op,a,b,c,d⟩:=x;obtain⟨rfl,rfl⟩:=h;simp[kV,kI,M]
theorem sO{k to:Int}(J:k<0)(M:0<=to)(base:Nat):∀(l pre post:List au)(n:Nat),pre.length=n->jX (pre++cU base l++post) (cO k n l) (to+base)=pre++cU base (l.map (kI k to))++post
 |[],pre,post,n,h=>by simp[cO,jX]
 |x::r,pre,post,n,h=>by
  have ih:=sO J M base r;simp only[cO,adC,pg];split
  ·rename_i D;rw[r6];have e:pre++kV base x::cU base r++post=pre++kV base x::(cU base r++post):=by simp
   rw[e,<-h,sN,anb D M J];have:=ih (pre++[kV base (kI k to x)]) post (pre.length+1) (by simp);simpa using this
  ·rename_i D;have O:kI k to x=x:=by unfold kI;rw[aa4 D]
   rw[O];have:=ih (pre++[kV base x]) post (n+1) (by simp[h]);simpa using this
def kC(E:Int):Nat->List (List au)->List (List au)->List au
 |_,_,[]=>[]
 |n,[],b::r=>if r=[]then cU n b else cU n b++ins 9 E 0 0 0::kC E (n+b.length+1) [] r
 |n,t::ts,b::r=>
  if r=[]then t++ins 10 (n+t.length+1+b.length) 0 0 0::cU (n+t.length+1) b
  else t++ins 10 (n+t.length+2+b.length) 0 0 0::(cU (n+t.length+1) b++ins 9 E 0 0 0::kC E (n+t.length+2+b.length) ts r)
theorem yw(E:Int):∀(n:Nat)(ts bs:List (List au)),(kC E n ts bs).length=(dh ts bs).length
 |_,_,[]=>by simp[kC,dh]
 |n,[],b::r=>by
  simp only[kC,dh];split
  ·simp
  ·simp[yw E _ [] r,eG];omega
 |n,t::ts,b::r=>by
  simp only[kC,dh];split
  ·rename_i h;subst h;simp[eG,dh]
  ·simp[yw E _ ts r,eG];omega
theorem Ml:∀(n:Nat)(ts bs:List (List au)),(∀t∈ts,Flat t)->∀E:Int,E=n+(dh ts bs).length->kC E n ts bs=cU n (dh ts bs)
 |n,_,[],_,_,_=>by simp[kC,dh]
 |n,[],b::r,_,E,I=>by
  simp only[kC,dh]at I⊢;split
  ·rfl
  ·rename_i h;rw[aa4 h]at I;rw[Mi,rC];have e:E=((n+b.length+1:Nat):Int)+(dh [] r).length:=by rw[I];simp[eG];omega
   rw[Ml (n+b.length+1) [] r (by simp) E e];have A3:kV n (ins 9 (b.length+1+(dh [] r).length) 0 0 0)=ins 9 E 0 0 0:=by
    rw[Jo (by omega)];congr 1;omega
   have O:cU n [ins 9 (b.length+1+(dh [] r).length) 0 0 0]=[ins 9 E 0 0 0]:=by rw[pg,A3];rfl
   rw[O];simp[adB]
 |n,t::ts,b::r,V,E,I=>by
  have Y:Flat t:=V t (by simp);simp only[kC,dh]at I⊢;rw[Mi];by_cases h:r=[]
  ·subst h;simp only[afz,rC,BY,Y.cU,dh,yu,afy,pg];have e:kV n (ins 10 (t.length+1+b.length) 0 0 0)=ins 10 (n+t.length+1+b.length) 0 0 0:=by
    rw[BX (by omega)];congr 1;omega
   rw[e];simp[adB]
  ·simp only[aa4 h]at I⊢;have e:E=((n+t.length+2+b.length:Nat):Int)+(dh ts r).length:=by rw[I];simp[eG];omega
   rw[Ml (n+t.length+2+b.length) ts r (λt M=>V t (by simp[M])) E e];simp only[rC,BY,Y.cU,pg,yu,aa9,abb,abn,mG];have A4:kV n (ins 10 (t.length+1+(b.length+(0+1):Nat)) 0 0 0)=ins 10 (n+t.length+2+b.length) 0 0 0:=by
    rw[BX (by omega)];congr 1;omega
   have O:kV (n+(t.length+1)) (ins 9 (b.length+1+(dh ts r).length) 0 0 0)=ins 9 E 0 0 0:=by
    rw[Jo (by omega)];congr 1;omega
   rw[A4,O,show n+(t.length+(0+1)+(b.length+(0+1)))=n+t.length+2+b.length by omega];simp[adB]
theorem auk{k to:Int}(I:k<0)(D:0<=to)(j:Nat)(x:au):kI k (to+j) (n9 j x)=n9 j (kI k to x):=by
 obtain⟨op,a,b,c,d⟩:=x;unfold kI n9;by_cases h:op=9/\a=k
 ·obtain⟨rfl,rfl⟩:=h;have A1:¬0<=a:=by omega
  simp[A1,D]
 ·by_cases A':(op=9\/op=10)/\0<=a
  ·have:¬(op=9/\a+(j:Int)=k):=by omega
   simp[h,A',this]
  ·simp[h,A']
theorem adH{k to:Int}(I:k<0)(D:0<=to)(j:Nat)(l:List au):(iX j l).map (kI k (to+j))=iX j (l.map (kI k to)):=by
 unfold iX;rw[List.map_map,List.map_map];congr 1;funext x;exact auk I D j x
theorem XP{l:List au}(h:Flat l)(k to:Int):l.map (kI k to)=l:=by
 conv=>rhs;rw[<-List.map_id l]
 refine anT λx A2=>?_;have:=h x A2;simp[kI,this.1]
theorem wC{k to:Int}{x:au}(h:x.op=9->x.a≠k):kI k to x=x:=by
 unfold kI;rw[aa4];exact λhh=>h hh.1 hh.2
theorem ui(l:List au):rA l=l.map (kI (-1) l.length):=rfl
theorem Eg{n:Nat}{x:au}(h:x.op≠9/\x.op≠10):kV n x=x:=by simp[kV,h.1,h.2]
theorem Uy{out t b:List au}(D:Flat t){n:Nat}(M:out.length=n){H:Int}(Y:H=n+t.length+3+b.length):
 jX (out++(ins 11 0 0 0 0::t++(ins 10 H 0 0 0::cU (n+t.length+2) b++[ins 9 n 0 0 0]))) (cO (-1) (n+t.length+2) b) H=out++cU n (iY t b):=by
 have T:=sO (k:= -1) (to:=b.length+1) (by decide) (by omega) (n+t.length+2) b (out++(ins 11 0 0 0 0::t++[ins 10 H 0 0 0])) [ins 9 n 0 0 0] (n+t.length+2) (by simp;omega);have O:((b.length:Int)+1)+((n+t.length+2:Nat):Int)=H:=by rw[Y];omega
 rw[O]at T;have U:out++(ins 11 0 0 0 0::t++(ins 10 H 0 0 0::cU (n+t.length+2) b++[ins 9 n 0 0 0]))=out++(ins 11 0 0 0 0::t++[ins 10 H 0 0 0])++cU (n+t.length+2) b++[ins 9 n 0 0 0]:=by simp
 rw[U,T];unfold iY;rw[ui];have Z:((ins 11 0 0 0 0::t++[ins 10 (t.length+3+b.length) 0 0 0]++iX (t.length+2) b++[ins 9 0 0 0 0]).length:Int)=((b.length:Int)+1)+((t.length+2:Nat):Int):=by simp;omega
 rw[Z];simp only[anW,adC,List.map_nil,XP D,adH (show (-1:Int)<0 by decide) (show 0<=(b.length:Int)+1 by omega),rC,pg,yu,D.cU,BY];rw[wC (by simp[ins]),wC (by simp[ins]),wC (by simp[ins]),Eg (by simp[ins]),BX (by omega),Jo (by omega)];have J:ins 10 (t.length+3+b.length+n) 0 0 0=ins 10 H 0 0 0:=by congr 1;omega
 rw[J,show n+(t.length+2)=n+t.length+2 by omega];simp
theorem XQ{k:Int}(I:k<0)(A0:k≠ -1){t b:List au}(D:Flat t)(n:Nat):cO k n (iY t b)=cO k (n+t.length+2) b:=by
 unfold iY;rw[ui,Ux (by omega) (by omega)];have O:ins 11 0 0 0 0::t++[ins 10 (t.length+3+b.length) 0 0 0]++iX (t.length+2) b++[ins 9 0 0 0 0]=[ins 11 0 0 0 0]++(t++([ins 10 (t.length+3+b.length) 0 0 0]++(iX (t.length+2) b++[ins 9 0 0 0 0]))):=by simp
 rw[O,jW];rw[rD (Flat.one (by simp[ins])),jW,rD D,jW,jW,Jp I];have e:∀m,cO k m [ins 10 (t.length+3+b.length) 0 0 0]=[]:=λm=>by simp[cO,ins]
 have J:∀m,cO k m [ins 9 0 0 0 0]=[]:=λm=>by simp[cO,ins];omega
 rw[e,J];simp only[afJ,afy,abb,abn];congr 1;omega
theorem Mm(l:List au)(n:Nat):cO (-1) n (rA l)=[]:=ajv (by omega) l n
theorem aas{out t b:List au}(D:Flat t){n:Nat}(M:out.length=n){H:Int}(Y:H=n+b.length+t.length+2):
 jX (out++(cU n b++(ins 11 0 0 0 0::t++[ins 10 n 0 0 0]))) (cO (-1) n b) H=out++cU n (nC t b):=by
 have T:=sO (k:= -1) (to:=b.length+t.length+2) (by decide) (by omega) n b out (ins 11 0 0 0 0::t++[ins 10 n 0 0 0]) n M;have O:((b.length:Int)+t.length+2)+(n:Int)=H:=by rw[Y];omega
 rw[O]at T;rw[<-afw,T];unfold nC;rw[ui];have Z:((b++ins 11 0 0 0 0::t++[ins 10 0 0 0 0]).length:Int)=(b.length:Int)+t.length+2:=by simp;omega
 rw[Z];simp only[anW,adC,List.map_nil,XP D,rC,pg,yu,D.cU];rw[wC (by simp[ins]),wC (by simp[ins]),Eg (by simp[ins]),BX (by omega)];simp
theorem aeE{k:Int}(I:k<0)(A0:k≠ -1){t b:List au}(D:Flat t)(n:Nat):cO k n (nC t b)=cO k n b:=by
 unfold nC;rw[ui,Ux (by omega) (by omega)];have O:b++ins 11 0 0 0 0::t++[ins 10 0 0 0 0]=b++([ins 11 0 0 0 0]++(t++[ins 10 0 0 0 0])):=by simp
 rw[O,jW,jW];rw[rD (Flat.one (by simp[ins])),jW,rD D];have e:∀m,cO k m [ins 10 0 0 0 0]=[]:=λm=>by simp[cO,ins]
 rw[e];simp
theorem aat{out b:List au}{at_ cell:Int}{n:Nat}(M:out.length=n){H:Int}(Y:H=n+b.length+8):
 jX (out++(ins 11 0 0 0 0::ins 13 at_ cell 0 0::ins 10 H 0 0 0::cU (n+3) b++[ins 2 at_ 0 0 0,ins 2 (cell+1) 0 0 0,ins 8 0 8 0 0,ins 6 at_ 0 0 0,ins 9 n 0 0 0])) (cO (-1) (n+3) b) H=out++cU n (ml at_ cell b):=by
 have T:=sO (k:= -1) (to:=b.length+5) (by decide) (by omega) (n+3) b (out++[ins 11 0 0 0 0,ins 13 at_ cell 0 0,ins 10 H 0 0 0]) [ins 2 at_ 0 0 0,ins 2 (cell+1) 0 0 0,ins 8 0 8 0 0,ins 6 at_ 0 0 0,ins 9 n 0 0 0] (n+3) (by simp[M]);have O:((b.length:Int)+5)+((n+3:Nat):Int)=H:=by rw[Y];omega
 rw[O]at T;have U:out++(ins 11 0 0 0 0::ins 13 at_ cell 0 0::ins 10 H 0 0 0::cU (n+3) b++[ins 2 at_ 0 0 0,ins 2 (cell+1) 0 0 0,ins 8 0 8 0 0,ins 6 at_ 0 0 0,ins 9 n 0 0 0])=out++[ins 11 0 0 0 0,ins 13 at_ cell 0 0,ins 10 H 0 0 0]++cU (n+3) b++[ins 2 at_ 0 0 0,ins 2 (cell+1) 0 0 0,ins 8 0 8 0 0,ins 6 at_ 0 0 0,ins 9 n 0 0 0]:=by simp
 rw[U,T];unfold ml;rw[ui];have Z:(([ins 11 0 0 0 0,ins 13 at_ cell 0 0,ins 10 (b.length+8) 0 0 0]++iX 3 b++[ins 2 at_ 0 0 0,ins 2 (cell+1) 0 0 0,ins 8 0 8 0 0,ins 6 at_ 0 0 0,ins 9 0 0 0 0]).length:Int)=((b.length:Int)+5)+((3:Nat):Int):=by simp;omega
 rw[Z];simp only[anW,adC,List.map_nil,adH (show (-1:Int)<0 by decide) (show 0<=(b.length:Int)+5 by omega),rC,pg,yu,BY];have V:∀x:au,(x.op≠9/\x.op≠10)->∀to,kV n (kI (-1) to x)=x:=λx h to=>by rw[wC (λhh=>absurd hh h.1),Eg h]
 have A3:kI (-1) (b.length+5+((3:Nat):Int)) (ins 10 (b.length+8) 0 0 0)=ins 10 (b.length+8) 0 0 0:=wC (by simp[ins]);have A4:kI (-1) (b.length+5+((3:Nat):Int)) (ins 9 0 0 0 0)=ins 9 0 0 0 0:=wC (by simp[ins]);rw[A3,A4,V _ (by simp[ins]),V (ins 13 at_ cell 0 0) (by simp[ins]),V (ins 2 at_ 0 0 0) (by simp[ins]),V (ins 2 (cell+1) 0 0 0) (by simp[ins]),V (ins 8 0 8 0 0) (by simp[ins]),V (ins 6 at_ 0 0 0) (by simp[ins]),BX (by omega),Jo (by omega)];have J:ins 10 (b.length+8+n) 0 0 0=ins 10 H 0 0 0:=by congr 1;omega
 rw[J];simp
theorem aeF{k:Int}(I:k<0)(A0:k≠ -1){b:List au}{at_ cell:Int}(n:Nat):cO k n (ml at_ cell b)=cO k (n+3) b:=by
 unfold ml;rw[ui,Ux (by omega) (by omega)];rw[jW,jW,Jp I];have e:∀m,cO k m [ins 11 0 0 0 0,ins 13 at_ cell 0 0,ins 10 (b.length+8) 0 0 0]=[]:=λm=>by simp[cO,ins]
 have J:∀m,cO k m [ins 2 at_ 0 0 0,ins 2 (cell+1) 0 0 0,ins 8 0 8 0 0,ins 6 at_ 0 0 0,ins 9 0 0 0 0]=[]:=λm=>by simp[cO,ins];omega
 rw[e,J];simp
def gg:Nat->List (List au)->List (List au)->List Int
 |_,_,[]=>[]
 |n,[],b::r=>if r=[]then []else ((n+b.length:Nat):Int)::gg (n+b.length+1) [] r
 |n,t::ts,b::r=>if r=[]then []else ((n+t.length+1+b.length:Nat):Int)::gg (n+t.length+2+b.length) ts r
def wD(k:Int):Nat->List (List au)->List (List au)->List Int
 |_,_,[]=>[]
 |n,[],b::r=>cO k n b++(if r=[]then []else wD k (n+b.length+1) [] r)
 |n,t::ts,b::r=>cO k (n+t.length+1) b++(if r=[]then []else wD k (n+t.length+2+b.length) ts r)
theorem Hn(E:Int):∀(n:Nat)(ts bs:List (List au))(pre:List au),pre.length=n->jX (pre++kC 0 n ts bs) (gg n ts bs) E=pre++kC E n ts bs
 |n,_,[],pre,M=>by simp[kC,gg,jX]
 |n,[],b::r,pre,M=>by
  simp only[kC,gg];split
  ·rfl
  ·rw[r6];have U:pre++(cU n b++ins 9 0 0 0 0::kC 0 (n+b.length+1) [] r)=(pre++cU n b)++ins 9 0 0 0 0::kC 0 (n+b.length+1) [] r:=by simp
   have J:((n+b.length:Nat):Int)=((pre++cU n b).length:Int):=by simp;omega
   rw[U,J,sN];have ih:=Hn E (n+b.length+1) [] r (pre++cU n b++[ins 9 E 0 0 0]) (by simp;omega);simp only[afw,List.singleton_append]at ih⊢;exact ih
 |n,t::ts,b::r,pre,M=>by
  simp only[kC,gg];split
  ·rfl
  ·rw[r6];have U:pre++(t++ins 10 (n+t.length+2+b.length) 0 0 0::(cU (n+t.length+1) b++ins 9 0 0 0 0::kC 0 (n+t.length+2+b.length) ts r))=(pre++(t++ins 10 (n+t.length+2+b.length) 0 0 0::cU (n+t.length+1) b))++ins 9 0 0 0 0::kC 0 (n+t.length+2+b.length) ts r:=by simp
   have J:((n+t.length+1+b.length:Nat):Int)=((pre++(t++ins 10 (n+t.length+2+b.length) 0 0 0::cU (n+t.length+1) b)).length:Int):=by simp;omega
   rw[U,J,sN];have ih:=Hn E (n+t.length+2+b.length) ts r (pre++(t++ins 10 (n+t.length+2+b.length) 0 0 0::cU (n+t.length+1) b)++[ins 9 E 0 0 0]) (by simp;omega);simp only[afw,agd,List.singleton_append]at ih⊢;exact ih
theorem Gk{k:Int}(I:k<0):∀(n:Nat)(ts bs:List (List au)),(∀t∈ts,Flat t)->cO k n (dh ts bs)=wD k n ts bs
 |n,_,[],_=>by simp[dh,wD,cO]
 |n,[],b::r,y=>by
  simp only[dh,wD];split
  ·simp
  ·rw[Jq I,jW,Gk I _ [] r (by simp)];have e:∀m,cO k m [ins 9 (b.length+1+(dh [] r).length) 0 0 0]=[]:=λm=>by simp[cO,ins];omega
   rw[e];simp[adB]
 |n,t::ts,b::r,y=>by
  have A5:Flat t:=y t (by simp);simp only[dh,wD];rw[Jq I,jW,jW,rD A5,Jp I,Gk I _ ts r (λt D=>y t (by simp[D]))];have e:∀m a,cO k m [ins 10 a 0 0 0]=[]:=λm a=>by simp[cO,ins]
  rw[e];by_cases h:r=[]
  ·subst h;simp[wD,adB]
  ·simp only[aa4 h,jW];have J:∀m,cO k m [ins 9 (b.length+1+(dh ts r).length) 0 0 0]=[]:=λm=>by simp[cO,ins];omega
   rw[J];simp only[afJ,afy,aa9,abb,abn,mG];rw[show n+(t.length+(0+1))=n+t.length+1 by omega,show n+(t.length+(0+1)+(b.length+(0+1)))=n+t.length+2+b.length by omega]
theorem aeG{pre:List au}{n:Nat}(M:pre.length=n){ts bs:List (List au)}(y:∀t∈ts,Flat t):jX (pre++kC 0 n ts bs) (gg n ts bs) (n+(dh ts bs).length)=pre++cU n (dh ts bs):=by
 rw[Hn _ n ts bs pre M,Ml n ts bs y _ rfl]
def Rm(u:Bool)(a D:EL):Prop:=a.1=0->D.1=if u=true then 9 else 0
theorem Rm.or{J V:Bool}{a D b Y:EL}(E:Rm J a D)(M:Rm V b Y):Rm (J||V) (fJ a b) (fJ D Y):=by
 intro h;unfold fJ at h⊢;by_cases I:a.1=0
 ·rw[aa4 (λh=>h I)]at h;have E:=E I;have M:=M h;cases J with
  |true=>simp at E;rw[abf (by rw[E];decide),E];simp
  |false=>simp at E;rw[aa4 (λh=>h E)];simpa using M
 ·rw[abf I]at h;exact absurd h I
theorem Rm.zero:Rm false (0,0) (0,0):=λ_=>rfl
theorem Rm.same{u:Bool}{a D:EL}(hu:u=false)(h:D=a):Rm u a D:=by
 subst hu h;intro h;simpa using h
section
variable {vs O:List Vr} {H:Tx} (T:H≠[]) (U:∀s,bq O s=if s=H then none else bq vs s)
include T U
end
section
variable {vs O:List Vr} {H:Tx} (T:H≠[]) (U:∀s,bq O s=if s=H then none else bq vs s)
include T U
end
theorem pH{v:Vr}(h:dM v=true):0<=bV v:=by
 simp only[dM,Ds]at h;obtain⟨_,_,h,_⟩:=h;unfold bV;split
 ·rename_i D;rw[abf D]at h;have:=adL h;omega
 ·split<;>omega
end Go.Am
end

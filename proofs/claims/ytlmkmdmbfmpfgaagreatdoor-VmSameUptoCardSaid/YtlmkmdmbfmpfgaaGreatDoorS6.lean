/-
  Texts of one proof, one behind the other.
-/
import Derived.Test.YtlmkmdmbfmpfgaaGreatDoorS5
set_option linter.all false
section
namespace Go.Am
open Go Go.Proofs Go.Proofs.Tryz
variable [Inhabited bO]
set_option maxRecDepth 20000
set_option maxHeartbeats 4000000
def Mk.aD(m:Mk)(l:List ar)(t:Int):Mk:={m with out:=m.out++l,most:=max m.most t}
def KE(p:Pg)(x:Ex):Prop:=∀(m:Mk)(h:Int),0<=h->h<=m.out.length->0<=m.most->m.out.length+(ai p.vars x).1.length<100000000->
 iX p (m.aD (ai p.vars x).1 (aV h x)) (h+1) (.ret (.d (.bool (ai p.vars x).2))) (aj ctx 101 [.ptr 0 0 0,.d (.agg [.int .i64 (bQ x),.int .i64 (iS x),.str (eh x),.str (ic x),.list ((di x).map cm),.int .i64 (lQ x)])] (iW p m h))
def afT{k:Int}{q:Pn}(h:q∈dQ k):q.ty=1\/q.ty=2:=by
 by_cases A0:k∈jx
 .have all:∀q∈dQ k,q.ty=1\/q.ty=2:=by
   simp only[jx,ac4,adL,apQ]at A0;rcases A0 with rfl|rfl|rfl|rfl|rfl|rfl|rfl|rfl|rfl|rfl|rfl|rfl|rfl|rfl|rfl|rfl|rfl|rfl|rfl|rfl|rfl<;>decide
  exact all q h
 .rw[tL A0]at h;simp at h
section
variable {p:Pg} (Y:p.vars.length<=1000) (U:∀v∈p.vars,dr v=true)
theorem alq{n line:Int}:KE p (.mk 1 n [] [] [] line):=by
 intro m h Z hh hm J;simp[ai]at J;obtain⟨v1,v2,v3,D⟩:=mD p m h 1 (ins 1 0 0 n 0) (by omega) ((b9 _));have e:m.aD (ai p.vars (.mk 1 n [] [] [] line)).1 (aV h (.mk 1 n [] [] [] line))=m.put (ins 1 0 0 n 0) (h+1):=by simp[ai,aV,Mk.aD,Mk.put]
 rw[e];generalize m.put (ins 1 0 0 n 0) (h+1)=M at*;simp[ins]at D;rw[zm (by simp)];simp[f101,D,ai];exact⟨_,_,_,rfl⟩
theorem alr{n line:Int}:KE p (.mk 2 n [] [] [] line):=by
 intro m h Z hh hm J;simp[ai]at J;obtain⟨v1,v2,v3,D⟩:=mD p m h 1 (ins 1 0 0 n 0) (by omega) ((b9 _));have e:m.aD (ai p.vars (.mk 2 n [] [] [] line)).1 (aV h (.mk 2 n [] [] [] line))=m.put (ins 1 0 0 n 0) (h+1):=by simp[ai,aV,Mk.aD,Mk.put]
 rw[e];generalize m.put (ins 1 0 0 n 0) (h+1)=M at*;simp[ins]at D;rw[zm (by simp)];simp[f101,D,ai];exact⟨_,_,_,rfl⟩
include Y U
theorem als{s:Tx}{v:Vr}(H:bj p.vars s=some v)(V:v.ty<=2):v.ty=1\/v.ty=2:=by
 have hm:v∈p.vars:=by
  have key:∀l:List Vr,bj l s=some v->v∈l:=by
   intro l;induction l with
   |nil=>intro h;simp[bj]at h
   |cons w r ih=>
    intro h;simp only[bj]at h;split at h
    .cases h;simp
    .exact aep _ (ih h)
  exact key _ H
 have:=U v hm;simp only[dr,Ds,ams,ac2]at this;rcases this.2.1.2 with h|h
 .exact h
 .have:v.ty∉jx\/v.ty∈jx:=by by_cases h:v.ty∈jx<;>simp[h]
  rcases this with T|T
  .unfold tN at h;rw[tL T]at h;simp at h
  .simp only[jx,ac4,adL,apQ]at T;omega
theorem alu{name:Tx}{line:Int}{v:Vr}(H:bj p.vars name=some v)(V:v.ty<=2):KE p (.mk 3 0 name [] [] line):=by
 intro m h Z hh hm J;simp[ai]at J;have I:=u6 p Y U name;have O:=eI H;rw[H]at I;have A':=als Y U H V;obtain⟨v1,v2,v3,D⟩:=JX p m h (bu p.vars name).1 v.ty (by omega) ((b9 _));have A1:(if v.ty=2 then (3:Int)else 2)=1+v.ty:=by rcases A' with h|h<;>rw[h]<;>rfl
 rw[A1]at D;have e:m.aD (ai p.vars (.mk 3 0 name [] [] line)).1 (aV h (.mk 3 0 name [] [] line))=m.put (ins (1+v.ty) (bu p.vars name).1 0 0 0) (h+1):=by simp[ai,aV,Mk.aD,Mk.put,O]
 have A2:(ai p.vars (.mk 3 0 name [] [] line)).2=decide (v.ty=2):=by simp[ai,O]
 rw[e,A2];rw[O]at I;generalize m.put (ins (1+v.ty) (bu p.vars name).1 0 0 0) (h+1)=M at*;simp at D;rw[zm (by simp)];simp[f101,I,bF,dK,D,ak];exact⟨_,_,_,rfl⟩
theorem alv{name field:Tx}{line:Int}{v:Vr}{q:Pn}(H:bj p.vars name=some v)(V:2<v.ty)(A5:mn v.ty field=some q)(A7:dV field=true):KE p (.mk 5 0 name field [] line):=by
 intro m h Z hh hm J;simp[ai]at J;obtain⟨b,I⟩:=QM p Y U name field;have O:(eH p.vars name field).2=q:=(qM H V A5).1;have A':q.ty=1\/q.ty=2:=afT (qM H V A5).2.1;obtain⟨v1,v2,v3,D⟩:=JX p m h (eH p.vars name field).1 q.ty (by omega) ((b9 _));have A1:(if q.ty=2 then (3:Int)else 2)=1+q.ty:=by rcases A' with h|h<;>rw[h]<;>rfl
 rw[A1]at D;have e:m.aD (ai p.vars (.mk 5 0 name field [] line)).1 (aV h (.mk 5 0 name field [] line))=m.put (ins (1+q.ty) (eH p.vars name field).1 0 0 0) (h+1):=by simp[ai,aV,Mk.aD,Mk.put,O]
 have A2:(ai p.vars (.mk 5 0 name field [] line)).2=decide (q.ty=2):=by simp[ai,O]
 rw[e,A2];rw[O]at I;generalize m.put (ins (1+q.ty) (eH p.vars name field).1 0 0 0) (h+1)=M at*;simp at D;simp[gz]at I;rw[zm (by simp)];simp[f101,I,D,ak];exact⟨_,_,_,rfl⟩
theorem alw{name:Tx}{line:Int}{v:Vr}{y:Ex}(H:bj p.vars name=some v)(V:v.ty<=2)(A6:KE p y):KE p (.mk 4 0 name [] [y] line):=by
 intro m h Z hh hm J;have O:=eI H;have A3:(ai p.vars (.mk 4 0 name [] [y] line))=((ai p.vars y).1++[ins (3+v.ty) (bu p.vars name).1 0 v.lo v.hi],decide (v.ty=2)):=by simp[ai,oQ,O]
 rw[A3]at J;simp at J;have I:=u6 p Y U name;rw[H,O]at I;have A':=als Y U H V;obtain⟨v1,v2,v3,A4⟩:=A6 m h Z hh hm (by omega);have A8:=ny p.vars y;obtain⟨A9,AA,AB,D⟩:=mD p (m.aD (ai p.vars y).1 (aV h y)) (h+1) 0 (ins (3+v.ty) (bu p.vars name).1 0 v.lo v.hi) (by simp[Mk.aD];omega) ((b9 _));have e:m.aD (ai p.vars (.mk 4 0 name [] [y] line)).1 (aV h (.mk 4 0 name [] [y] line))=(m.aD (ai p.vars y).1 (aV h y)).put (ins (3+v.ty) (bu p.vars name).1 0 v.lo v.hi) (h+1+0):=by
  rw[A3];simp[aV,iF,Mk.aD,Mk.put];omega
 rw[e,A3];generalize (m.aD (ai p.vars y).1 (aV h y)).put (ins (3+v.ty) (bu p.vars name).1 0 v.lo v.hi) (h+1+0)=M at*;generalize m.aD (ai p.vars y).1 (aV h y)=N at*;simp[ins]at D A4;rw[zm (by simp)];rcases A' with T|T
 .simp[T]at D;simp[f101,I,bF,dK,az,A4,D,ak,T];exact⟨_,_,_,rfl⟩
 .simp[T]at D;simp[f101,I,bF,dK,az,A4,D,ak,T];exact⟨_,_,_,rfl⟩
end
section
variable {p:Pg}
theorem alx{op line:Int}{y:Ex}(V:op=6\/op=7)(Y:KE p y):KE p (.mk op 0 [] [] [y] line):=by
 intro m h AA hh hm Z;have AB:¬(op=1\/op=2):=by omega
 have J:¬op=3:=by omega
 have O:¬op=4:=by omega
 have T:¬op=5:=by omega
 have A':¬op=1:=by omega
 have A0:¬op=2:=by omega
 have U:(ai p.vars (.mk op 0 [] [] [y] line))=((ai p.vars y).1++[ins 8 (if (ai p.vars y).2=true then 1 else 0) op 0 0],decide (op=7\/12<op)):=by simp[ai,gO,AB,J,O,T];rfl
 rw[U]at Z;simp at Z;obtain⟨v1,v2,v3,I⟩:=Y m h AA hh hm (by omega);have AE:=ny p.vars y;obtain⟨AF,AG,AH,D⟩:=mD p (m.aD (ai p.vars y).1 (aV h y)) (h+1) 0 (ins 8 (if (ai p.vars y).2=true then 1 else 0) op 0 0) (by simp[Mk.aD];omega) ((b9 _));have e:m.aD (ai p.vars (.mk op 0 [] [] [y] line)).1 (aV h (.mk op 0 [] [] [y] line))=(m.aD (ai p.vars y).1 (aV h y)).put (ins 8 (if (ai p.vars y).2=true then 1 else 0) op 0 0) (h+1+0):=by
  rw[U];have AC:¬(op=1\/op=2\/op=3\/op=5):=by omega
  simp[aV,iF,Mk.aD,Mk.put,AC];omega
 rw[e,U];generalize (m.aD (ai p.vars y).1 (aV h y)).put (ins 8 (if (ai p.vars y).2=true then 1 else 0) op 0 0) (h+1+0)=M at*;generalize m.aD (ai p.vars y).1 (aV h y)=N at*;generalize (ai p.vars y).2=B at*;have H:IntKind.i64.wrap 1=1:=rfl;have w0:IntKind.i64.wrap 0=0:=rfl;simp[ins]at D I;rw[zm (by simp)];have A1:decide (13<=op)=decide (12<op):=by rw[ahL];omega
 cases B with
 |true=>
  simp at D;simp[f101,A',A0,J,O,T,az];rw[ah];simp[f101,az,I,H,w0];rw[ah];simp[f101,I,D,H,w0,A1];exact⟨_,_,_,rfl⟩
 |false=>
  simp at D;simp[f101,A',A0,J,O,T,az];rw[ah];simp[f101,az,I,H,w0];rw[ah];simp[f101,I,D,H,w0,A1];exact⟨_,_,_,rfl⟩
theorem alz{op line:Int}{y z:Ex}(V:8<=op)(Y:KE p y)(AI:KE p z):KE p (.mk op 0 [] [] [y,z] line):=by
 intro m h AA hh hm Z;have AB:¬(op=1\/op=2):=by omega
 have J:¬op=3:=by omega
 have O:¬op=4:=by omega
 have T:¬op=5:=by omega
 have A':¬op=1:=by omega
 have A0:¬op=2:=by omega
 have U:(ai p.vars (.mk op 0 [] [] [y,z] line))=((ai p.vars y).1++((ai p.vars z).1++[ins 8 (if (ai p.vars z).2=true then 1 else 0) op 0 0]),decide (op=7\/12<op)):=by simp[ai,gO,AB,J,O,T];rfl
 rw[U]at Z;simp at Z;have AE:=ny p.vars y;have AP:=ny p.vars z;obtain⟨v1,v2,v3,I⟩:=Y m h AA hh hm (by omega);obtain⟨t1,t2,t3,A2⟩:=AI (m.aD (ai p.vars y).1 (aV h y)) (h+1) (by omega) (by simp[Mk.aD];omega) (by simp[Mk.aD];omega) (by simp[Mk.aD];omega);obtain⟨AF,AG,AH,D⟩:=mD p ((m.aD (ai p.vars y).1 (aV h y)).aD (ai p.vars z).1 (aV (h+1) z)) (h+1+1) (-1) (ins 8 (if (ai p.vars z).2=true then 1 else 0) op 0 0) (by simp[Mk.aD];omega) ((b9 _));rw[show h+1+1+ -1=h+1 by omega]at D;have e:m.aD (ai p.vars (.mk op 0 [] [] [y,z] line)).1 (aV h (.mk op 0 [] [] [y,z] line))=((m.aD (ai p.vars y).1 (aV h y)).aD (ai p.vars z).1 (aV (h+1) z)).put (ins 8 (if (ai p.vars z).2=true then 1 else 0) op 0 0) (h+1):=by
  rw[U];have AC:¬(op=1\/op=2\/op=3\/op=5):=by omega
  simp[aV,iF,Mk.aD,Mk.put,AC];omega
 rw[e,U];generalize ((m.aD (ai p.vars y).1 (aV h y)).aD (ai p.vars z).1 (aV (h+1) z)).put (ins 8 (if (ai p.vars z).2=true then 1 else 0) op 0 0) (h+1)=M at*;generalize (m.aD (ai p.vars y).1 (aV h y)).aD (ai p.vars z).1 (aV (h+1) z)=AQ at*;generalize m.aD (ai p.vars y).1 (aV h y)=N at*;generalize (ai p.vars z).2=B at*;generalize (ai p.vars y).2=AR at*;have H:IntKind.i64.wrap 1=1:=rfl;have w0:IntKind.i64.wrap 0=0:=rfl;have A7:IntKind.i64.wrap 2=2:=rfl;have AD:IntKind.i64.wrap (-1)= -1:=rfl;have A1:decide (13<=op)=decide (12<op):=by rw[ahL];omega
 simp[ins]at D I A2;rw[zm (by simp)];cases B with
 |true=>
  simp at D A2;simp[f101,A',A0,J,O,T,az];rw[ah];simp[f101,az,I,H,w0];rw[ah];simp[f101,az,A2,H,w0,A7];rw[ah];simp[f101,D,H,w0,A7,AD,A1];exact⟨_,_,_,rfl⟩
 |false=>
  simp at D A2;simp[f101,A',A0,J,O,T,az];rw[ah];simp[f101,az,I,H,w0];rw[ah];simp[f101,az,A2,H,w0,A7];rw[ah];simp[f101,D,H,w0,A7,AD,A1];exact⟨_,_,_,rfl⟩
end
def pf{p:Pg}(A8:p.vars.length<=1000)(A9:∀v∈p.vars,dr v=true):∀x:Ex,bm x=true->(aE p.vars x).e=0->KE p x
 | .mk op n name field sub line,AJ,ex=>by
  have ih:∀y∈sub,bm y=true->(aE p.vars y).e=0->KE p y:=λy Y=>pf A8 A9 y;have AK:=qN AJ ex;cases AK with
  |num h=>exact alq
  |qX h=>exact alr
  |var A3 D A4=>exact alu A8 A9 A3 A4
  |idx A3 D A4 A5 A6 ty=>exact alw A8 A9 A3 A4 (ih _ (by simp) A5 A6)
  |GY A3 A4 AL AM=>exact alv A8 A9 A3 A4 AL AM
  |one V A5 A6 ty=>exact alx V (ih _ (by simp) A5 A6)
  |two V A5 A6 AN AO ty AS=>exact alz V.1 (ih _ (by simp) A5 A6) (ih _ (by simp) AN AO)
termination_by x=>SizeOf.sizeOf x
decreasing_by all_goals (simp_wf;have:=apM Y;omega)
end Go.Am
end
section
namespace Go.Am
open Go
set_option maxRecDepth 20000
set_option maxHeartbeats 4000000
def jY(ex:List (List Int))(a:List Int):List (List Int):=
 match ex.getLast? with
 |some r=>ex.dropLast++[r++a]
 |none=>[]
def lU(ex:List (List Int))(r a:List Int):jY (ex++[r]) a=ex++[r++a]:=by simp[jY]
def qy(ex:List (List Int)):jY ex []=ex:=by
 rcases aiB ex with h|⟨l,r,h⟩
 .subst h;rfl
 .rw[h,alR,lU,agV]
def MS(ex:List (List Int))(a b:List Int):jY (jY ex a) b=jY ex (a++b):=by
 rcases aiB ex with h|⟨l,r,h⟩
 .subst h;rfl
 .rw[h,alR,lU,lU,lU,adM]
@[simp] def ZG(ex:List (List Int))(a:List Int):(jY ex a).length=ex.length:=by
 rcases aiB ex with h|⟨l,r,h⟩
 .subst h;rfl
 .rw[h,alR,lU];simp
def Mk.aX(m:Mk)(l:List ar)(c t:Int):Mk:=
 ⟨m.out++dE m.out.length l,c,max m.most t,jY m.ex (dz (-1) m.out.length l),m.lv++dz (-2) m.out.length l⟩
def Gp(m:Mk)(a b:List ar)(c I t J:Int):(m.aX a c t).aX b I J=m.aX (jn a b) I (max t J):=by
 unfold Mk.aX;simp only[Mk.mk.injEq,acY,qO];rw[P6,NO (by decide),NO (by decide),MS];simp[adM,Int.max_assoc]
def ab8(m:Mk)(h:0<=m.most):m.aX [] m.cells 0=m:=by
 unfold Mk.aX;simp[dz,qy];cases m;simp at h⊢;omega
def sS{m:Mk}{l:List ar}(h:Flat l)(t:Int):m.aX l m.cells t=m.aD l t:=by
 unfold Mk.aX Mk.aD;rw[h.dE,u0 h,u0 h,qy];simp
def Di{m:Mk}{l:List ar}{x:ar}{t u:Int}:(m.aD l t).put x u=m.aD (l++[x]) (max t u):=by
 unfold Mk.aD Mk.put;simp[adM,Int.max_assoc]
def MT{m:Mk}{l r:List ar}{t u:Int}:(m.aD l t).aD r u=m.aD (l++r) (max t u):=by
 unfold Mk.aD;simp[adM,Int.max_assoc]
def ab9{m:Mk}{x:ar}{u:Int}:m.put x u=m.aD [x] u:=rfl
def Al{m:Mk}{l:List ar}{t u:Int}(h:max m.most t=max m.most u):m.aD l t=m.aD l u:=by
 unfold Mk.aD;rw[h]
def qz{m:Mk}{l:List ar}{c t u:Int}(h:max m.most t=max m.most u):m.aX l c t=m.aX l c u:=by
 unfold Mk.aX;rw[h]
def pr(h:Int)(x:Ex):h+1<=aV h x:=by
 obtain⟨op,n,name,field,sub,line⟩:=x;unfold aV;split
 .exact al4 _
 .omega
def Ft(k:Int):∀(l:List ar)(n:Nat),∀i∈dz k n l,∃j:Nat,i=j/\j<n+l.length
 |[],n,i,h=>by simp[dz]at h
 |x::r,n,i,h=>by
  simp only[dz]at h;have key:i∈dz k (n+1) r->∃j:Nat,i=j/\j<n+(x::r).length:=λh=>by
   obtain⟨j,e,O⟩:=Ft k r (n+1) i h;exact⟨j,e,by simp;omega⟩
  split at h
  .rcases ac4.1 h with rfl|h
   .exact⟨n,rfl,by simp⟩
   .exact key h
  .exact key h
def u7(k:Int):∀(l:List ar)(n:Nat),(dz k n l).length<=l.length
 |[],n=>by simp[dz]
 |x::r,n=>by
  have:=u7 k r (n+1);simp only[dz];split<;>simp<;>omega
def kS(m:Mk):Prop:=m.lv.length<=m.out.length/\∀r∈m.ex,r.length<=m.out.length
def ZH{ex:List (List Int)}{a r:List Int}(h:r∈jY ex a):∃H∈ex,r.length<=H.length+a.length:=by
 rcases aiB ex with e|⟨l,q,e⟩
 .subst e;simp[jY]at h
 .rw[e,alR]at h⊢;rw[lU]at h;rcases ada.1 h with h|h
  .exact⟨r,by simp[h],by omega⟩
  .simp at h;subst h;exact⟨q,by simp,by simp⟩
def kS.put{m:Mk}(h:kS m)(x:ar)(t:Int):kS (m.put x t):=
 ⟨by have:=h.1;simp[Mk.put];omega,λr D=>by have:=h.2 r D;simp[Mk.put];omega⟩
def kS.aD{m:Mk}(h:kS m)(l:List ar)(t:Int):kS (m.aD l t):=
 ⟨by have:=h.1;simp[Mk.aD];omega,λr D=>by have:=h.2 r D;simp[Mk.aD];omega⟩
def kS.aX{m:Mk}(h:kS m)(l:List ar)(c t:Int):kS (m.aX l c t):=by
 refine⟨?_,λr D=>?_⟩
 .have:=h.1;have:=u7 (-2) l m.out.length;simp[Mk.aX];omega
 .obtain⟨H,M,D⟩:=ZH D;have:=h.2 H M;have:=u7 (-1) l m.out.length;simp[Mk.aX];omega
def kS.lead{m:Mk}(h:kS m)(i:Int):kS (m.lead i):=by
 have e:(m.lead i).out.length=m.out.length:=by simp[Mk.lead]
 exact⟨by rw[e];exact h.1,λr D=>by rw[e];exact h.2 r D⟩
end Go.Am
end
section
namespace Go.Am
open Go Go.Proofs Go.Proofs.Tryz
variable [Inhabited bO]
set_option maxRecDepth 20000
set_option maxHeartbeats 4000000
section
variable {p:Pg} (D:p.vars.length<=1000) (H:∀v∈p.vars,dr v=true)
include D H
theorem ZI{name:Tx}{U V:Int}{v:Vr}{val:Ex}(T:bj p.vars name=some v)(Y:bm val=true)(Z:(aE p.vars val).e=0)(m:Mk)(hm:0<=m.most)(A0:m.out.length+(ai p.vars val).1.length<99999999):
 iX p (m.aD ((ai p.vars val).1++[ins 6 (bu p.vars name).1 0 0 0]) (aV 0 val)) 0 (.ret (.bq [])) (aj ctx 98 [.ptr 0 0 0,.d (bZ (.mk 1 [] (.mk 3 0 name [] [] U) val [] [] [] [] V))] (iW p m 0)):=by
 have I:=u6 p D H name;rw[T]at I;obtain⟨v1,v2,v3,J⟩:=pf D H val Y Z m 0 (by omega) (by omega) hm (by omega);obtain⟨A1,A2,A3,O⟩:=u5 p (m.aD (ai p.vars val).1 (aV 0 val)) 1 (bu p.vars name).1 (by simp[Mk.aD];omega) (by decide);have e:m.aD ((ai p.vars val).1++[ins 6 (bu p.vars name).1 0 0 0]) (aV 0 val)=(m.aD (ai p.vars val).1 (aV 0 val)).put (ins 6 (bu p.vars name).1 0 0 0) (1+ -1):=by
  rw[Di];exact Al (by have:=pr 0 val;omega)
 rw[e];generalize (m.aD (ai p.vars val).1 (aV 0 val)).put (ins 6 (bu p.vars name).1 0 0 0) (1+ -1)=M at*;generalize m.aD (ai p.vars val).1 (aV 0 val)=N at*;simp at J O;rw[ad4 (by simp)];simp[f98,bU,I,bF,dK,J,O,ak];exact⟨_,_,_,rfl⟩
theorem ZJ{name:Tx}{U V:Int}{v:Vr}{y val:Ex}(T:bj p.vars name=some v)(A4:bm y=true)(A5:(aE p.vars y).e=0)(Y:bm val=true)(Z:(aE p.vars val).e=0)(m:Mk)(hm:0<=m.most)(A0:m.out.length+(ai p.vars y).1.length+(ai p.vars val).1.length<99999999):
 iX p (m.aD ((ai p.vars y).1++((ai p.vars val).1++[ins 7 (bu p.vars name).1 0 v.lo v.hi])) (max (aV 0 y) (aV 1 val))) 0 (.ret (.bq [])) (aj ctx 98 [.ptr 0 0 0,.d (bZ (.mk 1 [] (.mk 4 0 name [] [y] U) val [] [] [] [] V))] (iW p m 0)):=by
 have I:=u6 p D H name;rw[T,eI T]at I;obtain⟨v1,v2,v3,J⟩:=pf D H y A4 A5 m 0 (by omega) (by omega) hm (by omega);have A6:=ny p.vars y;obtain⟨t1,t2,t3,A'⟩:=pf D H val Y Z (m.aD (ai p.vars y).1 (aV 0 y)) 1 (by omega) (by simp[Mk.aD];omega) (by simp[Mk.aD];omega) (by simp[Mk.aD];omega);obtain⟨A1,A2,A3,O⟩:=mD p ((m.aD (ai p.vars y).1 (aV 0 y)).aD (ai p.vars val).1 (aV 1 val)) 2 (-2) (ins 7 (bu p.vars name).1 0 v.lo v.hi) (by simp[Mk.aD];omega) (by decide);have e:m.aD ((ai p.vars y).1++((ai p.vars val).1++[ins 7 (bu p.vars name).1 0 v.lo v.hi])) (max (aV 0 y) (aV 1 val))=((m.aD (ai p.vars y).1 (aV 0 y)).aD (ai p.vars val).1 (aV 1 val)).put (ins 7 (bu p.vars name).1 0 v.lo v.hi) (2+ -2):=by
  rw[MT,Di,adM];exact Al (by have:=pr 0 y;omega)
 rw[e];generalize ((m.aD (ai p.vars y).1 (aV 0 y)).aD (ai p.vars val).1 (aV 1 val)).put (ins 7 (bu p.vars name).1 0 v.lo v.hi) (2+ -2)=M at*;generalize (m.aD (ai p.vars y).1 (aV 0 y)).aD (ai p.vars val).1 (aV 1 val)=A7 at*;generalize m.aD (ai p.vars y).1 (aV 0 y)=N at*;simp[ins]at J A' O;rw[ad4 (by simp)];simp[f98,bU,I,bF,dK,az,J,A',O,ak];exact⟨_,_,_,rfl⟩
end
@[simp] def mqM(p:Pg)(m:Mk)(h:Int)(v1 v2 v3:Nat):List dn:=[⟨0,0,.box [.d (.str p.name),.d (.list (p.vars.map bF)),.d (.list (p.body.map bZ)),.vec 1 v1 0 m.out.length,.d (.int .i64 m.cells),.d (.int .i64 h),.d (.int .i64 m.most),.vec 2 v2 0 m.ex.length,.vec 3 v3 0 m.lv.length]⟩,⟨1,v1,.vec 5 (m.out.map cH)⟩,⟨2,v2,.vv (m.ex.map iV) none⟩,⟨3,v3,.vec 1 (m.lv.map eQ)⟩]
section
variable {p:Pg} (I:p.vars.length<=1000) (J:∀v∈p.vars,dr v=true)
include I J
theorem JY(x:Sm)(A0:(dP x).length<100000000)(at_:AV)(v:Vr)(k:Kt)(Q:Mk->bS->Prop)
 (O:∀(Y:Env) M v1 v2 v3 v6 X6,Q M (k (.exit 0) ⟨60,aB,(0,true,.ptr 0 0 0)::(3,true,.ptr 250 1 0)::(4,true,at_)::(5,true,.ptr 350 1 0)::Y,mqM p M 0 v1 v2 v3++[⟨250,1,bA x⟩,⟨350,1,jA v⟩,⟨600,v6,X6⟩]⟩)):
 ∀(fr fp:List Tx)(D T:List Ex)(m:Mk)(v1 v2 v3 v6:Nat)(X6:aF),dP x=fp++fr->b7 x=T++D->fp.length=T.length->fr.length=D.length->(∀c∈D,bm c=true/\(aE p.vars c).e=0)->0<=m.most->m.out.length+(dC p.vars (gk x) fr D).length<99999999->
 Q (m.aD (dC p.vars (gk x) fr D) (nx D)) (aL ctx 106 (.loop (Code.at (bh f106) [1,1,0,1,0,0])) ⟨60,aB,[(0,true,.ptr 0 0 0),(3,true,.ptr 250 1 0),(4,true,at_),(5,true,.ptr 350 1 0),(24,true,.d (.list ((dP x).map .str))),(25,true,.d (.int .i64 (dP x).length)),(26,true,.d (.int .i64 fp.length))],mqM p m 0 v1 v2 v3++[⟨250,1,bA x⟩,⟨350,1,jA v⟩,⟨600,v6,X6⟩]⟩ k)
 |[],fp,D,T,m,v1,v2,v3,v6,X6,U,V,Z,y,H,hm,A'=>by
  have A1:D=[]:=yZ (by simpa using y.symm);subst A1;have e:m.aD (dC p.vars (gk x) [] []) (nx [])=m:=by
   simp[dC,nx,Mk.aD];cases m;simp at hm⊢;omega
  rw[e];have A8:fp.length=(dP x).length:=by rw[U];simp
  have:=O [(24,true,.d (.list ((dP x).map .str))),(25,true,.d (.int .i64 (dP x).length)),(26,true,.d (.int .i64 (dP x).length)),(27,true,.d (.bool false))] m v1 v2 v3 v6 X6;simp at this;rw[A8,ah];simp[f106,this]
 |f::fr,fp,D,T,m,v1,v2,v3,v6,X6,U,V,Z,y,H,hm,A'=>by
  obtain⟨c,D,rfl⟩:∃c r,D=c::r:=by
   cases D with
   |nil=>simp at y
   |cons c r=>exact⟨c,r,rfl⟩
  have AP:=ny p.vars c;have A9:dC p.vars (gk x) (f::fr) (c::D)=((ai p.vars c).1++[ins 6 (eH p.vars (gk x) f).1 0 0 0])++dC p.vars (gk x) fr D:=by simp[dC]
  rw[A9]at A'⊢;simp at A';obtain⟨AA,AB⟩:=H c (by simp);obtain⟨b,A3⟩:=QM p I J (gk x) f;obtain⟨s1,s2,AQ,A4⟩:=pf I J c AA AB m 0 (by omega) (by omega) hm (by omega);obtain⟨AC,AD,AE,A5⟩:=u5 p (m.aD (ai p.vars c).1 (aV 0 c)) 1 (eH p.vars (gk x) f).1 (by simp[Mk.aD];omega) (by decide);have e:m.aD (((ai p.vars c).1++[ins 6 (eH p.vars (gk x) f).1 0 0 0])++dC p.vars (gk x) fr D) (nx (c::D))=((m.aD (ai p.vars c).1 (aV 0 c)).put (ins 6 (eH p.vars (gk x) f).1 0 0 0) (1+ -1)).aD (dC p.vars (gk x) fr D) (nx D):=by
   rw[Di,MT];exact Al (by have:=pr 0 c;simp only[nx];omega)
  rw[e];have AF:0<=((m.aD (ai p.vars c).1 (aV 0 c)).put (ins 6 (eH p.vars (gk x) f).1 0 0 0) (1+ -1)).most:=by simp[Mk.put,Mk.aD];omega
  have AG:((m.aD (ai p.vars c).1 (aV 0 c)).put (ins 6 (eH p.vars (gk x) f).1 0 0 0) (1+ -1)).out.length=m.out.length+(ai p.vars c).1.length+1:=by simp[Mk.put,Mk.aD];omega
  have ih:=λv1 v2 v3 v6 X6=>JY x A0 at_ v k Q O fr (fp++[f]) D (T++[c]) ((m.aD (ai p.vars c).1 (aV 0 c)).put (ins 6 (eH p.vars (gk x) f).1 0 0 0) (1+ -1)) v1 v2 v3 v6 X6 (by simp[U]) (by simp[V]) (by simp[Z]) (by simpa using y) (λc A1=>H c (by simp[A1])) AF (by rw[AG];omega);clear O H e;generalize (m.aD (ai p.vars c).1 (aV 0 c)).put (ins 6 (eH p.vars (gk x) f).1 0 0 0) (1+ -1)=M at*;generalize m.aD (ai p.vars c).1 (aV 0 c)=N at*;have AH:fp.length<(dP x).length:=by rw[U];simp
  have AI:(dP x)[fp.length]=f:=by simp[U]
  have AJ:fp.length<(b7 x).length:=by rw[V,Z];simp
  have AK:(b7 x)[fp.length]=c:=by simp[V,Z]
  have AL:=b9 ((fp.length:Int)+1);rw[ah];simp at A4 A5 A3;simp[f106]at ih⊢;simp[AH,AI,AJ,AK,az,gz,A3,A4,A5,ak,AL,ih]
theorem afU{name:Tx}{to val:Ex}{conds:List Ex}{fields:List Tx}{line:Int}{v:Vr}(A6:bj p.vars name=some v)(AM:conds.length=fields.length)(A0:fields.length<100000000)(H:∀c∈conds,bm c=true/\(aE p.vars c).e=0)(m:Mk)(hm:0<=m.most)(A':m.out.length+(dC p.vars name fields conds).length<99999998):
 iX p (m.aD (dC p.vars name fields conds++[ins 12 (bu p.vars name).1 v.ty 0 0]) (nx conds)) 0 (.ret (.bq [])) (aj ctx 106 [.ptr 0 0 0,.d (bZ (.mk 9 name to val conds [] fields [] line))] (iW p m 0)):=by
 have A7:=u6 p I J name;rw[A6,eI A6]at A7;have AN:=λ(N:Mk) (h:N.out.length<100000000)=>mD p N 0 0 (ins 12 (bu p.vars name).1 v.ty 0 0) h (by decide);have e:m.aD (dC p.vars name fields conds++[ins 12 (bu p.vars name).1 v.ty 0 0]) (nx conds)=(m.aD (dC p.vars name fields conds) (nx conds)).put (ins 12 (bu p.vars name).1 v.ty 0 0) (0+0):=by
  rw[Di];exact Al (by omega)
 rw[e];obtain⟨AC,AD,AE,hu⟩:=AN (m.aD (dC p.vars name fields conds) (nx conds)) (by simp[Mk.aD];omega);have A2:=λ(at_:AV) (k:Kt) (Q:Mk->bS->Prop) O v6 X6=>JY I J (.mk 9 name to val conds [] fields [] line) A0 at_ v k Q O fields [] conds [] m 0 0 0 v6 X6 rfl rfl rfl AM.symm H hm (by simpa using (by omega:m.out.length+(dC p.vars name fields conds).length<99999999));rw[ajO (by simp)];generalize (m.aD (dC p.vars name fields conds) (nx conds)).put (ins 12 (bu p.vars name).1 v.ty 0 0) (0+0)=M at*;simp only[aib,YB,YA]at A2;generalize m.aD (dC p.vars name fields conds) (nx conds)=N at*;simp[ins]at hu;simp[f106]at A2⊢;simp[bU,A7,bF,dK,ak];refine A2 _ _ (λX r=>X=N->iX p M 0 (.ret (.bq [])) r) (λY X v1 v2 v3 v6 X6 AO=>?_) _ _ rfl;subst AO;simp[f106,hu];exact⟨_,_,_,rfl⟩
end
end Go.Am
end
section
namespace Go.Am
open Go
set_option maxRecDepth 20000
set_option maxHeartbeats 4000000
def eR:List (List ar×Int)->Int
 |[]=>0
 |t::r=>max t.2 (eR r)
def eB(ts:List (List ar×Int)):List (List ar):=ts.map (·.1)
def Mk.eG(m:Mk)(ts:List (List ar×Int))(bs:List (List ar))(c t:Int):Mk:=
 ⟨m.out++nf 0 m.out.length (eB ts) bs,c,max m.most t,jY m.ex (Aa (-1) m.out.length (eB ts) bs),m.lv++Aa (-2) m.out.length (eB ts) bs⟩
def QP(m:Mk)(ts:List (List ar×Int))(h:0<=m.most):m.eG ts [] m.cells 0=m:=by
 unfold Mk.eG;have T:nf 0 m.out.length (eB ts) []=[]:=by unfold nf;rfl
 have H:∀k,Aa k m.out.length (eB ts) []=[]:=λk=>by unfold Aa;rfl
 rw[T,H,H,qy];cases m;simp at h⊢;omega
def Mk.iY(m:Mk)(t:List ar×Int):Mk:=(m.aD t.1 t.2).put (ins 10 0 0 0 0) 0
def Dj(a b c:List ar)(x:ar)(v:Int)(k:Int)(U:k=((a.length+b.length:Nat):Int)):setAt (a++b++x::c) k v=a++b++{x with a:=v}::c:=by
 have:=wA (a++b) x c v;simp only[acY]at this;rw[U];exact this
def TS(m:Mk)(t:List ar×Int)(ts:List (List ar×Int))(b:List ar)(c u:Int)(V:0<=m.most):
 ((m.iY t).aX b c u).lead (m.out.length+t.1.length:Nat)=m.eG (t::ts) [b] c (max t.2 u):=by
 unfold Mk.iY Mk.aD Mk.put Mk.aX Mk.lead Mk.eG eB;simp only[adz,nf,Aa,ad7,agV,Mk.mk.injEq,alC];have D:(m.out++t.1++[ins 10 0 0 0 0]).length=m.out.length+t.1.length+1:=by simp;omega
 rw[D];refine⟨?_,by omega,rfl,rfl⟩;have:=Dj m.out t.1 (dE (m.out.length+t.1.length+1) b) (ins 10 0 0 0 0) ((m.out.length+t.1.length+1+b.length:Nat):Int) ((m.out.length+t.1.length:Nat):Int) rfl;simp only[ins]at this⊢;have H:((m.out++t.1++[({op:=10,a:=0,b:=0,n:=0,m:=0}:ar)]++dE (m.out.length+t.1.length+1) b).length:Int)=((m.out.length+t.1.length+1+b.length:Nat):Int):=by simp;omega
 rw[H];have I:m.out++t.1++[({op:=10,a:=0,b:=0,n:=0,m:=0}:ar)]++dE (m.out.length+t.1.length+1) b=m.out++t.1++({op:=10,a:=0,b:=0,n:=0,m:=0}:ar)::dE (m.out.length+t.1.length+1) b:=by simp
 rw[I,this];simp
def TU(m:Mk)(t:List ar×Int)(ts:List (List ar×Int))(b:List ar)(bs:List (List ar))(c J u O:Int)(V:0<=m.most)(Y:bs≠[]):
 ((((m.iY t).aX b c u).put (ins 9 0 0 0 0) 0).lead (m.out.length+t.1.length:Nat)).eG ts bs J O=m.eG (t::ts) (b::bs) J (max t.2 (max u O)):=by
 have Z:((((m.iY t).aX b c u).put (ins 9 0 0 0 0) 0).lead (m.out.length+t.1.length:Nat)).out.length=m.out.length+t.1.length+2+b.length:=by
  simp[Mk.iY,Mk.aD,Mk.put,Mk.aX,Mk.lead];omega
 have y:((((m.iY t).aX b c u).put (ins 9 0 0 0 0) 0).lead (m.out.length+t.1.length:Nat)).out=m.out++(t.1++ins 10 (m.out.length+t.1.length+2+b.length) 0 0 0::(dE (m.out.length+t.1.length+1) b++[ins 9 0 0 0 0])):=by
  unfold Mk.iY Mk.aD Mk.put Mk.aX Mk.lead;simp only
  have D:(m.out++t.1++[ins 10 0 0 0 0]).length=m.out.length+t.1.length+1:=by simp;omega
  rw[D];have:=Dj m.out t.1 (dE (m.out.length+t.1.length+1) b++[ins 9 0 0 0 0]) (ins 10 0 0 0 0) ((m.out.length+t.1.length+2+b.length:Nat):Int) ((m.out.length+t.1.length:Nat):Int) rfl;have H:((m.out++t.1++[ins 10 0 0 0 0]++dE (m.out.length+t.1.length+1) b++[ins 9 0 0 0 0]).length:Int)=((m.out.length+t.1.length+2+b.length:Nat):Int):=by simp;omega
  rw[H];have I:m.out++t.1++[ins 10 0 0 0 0]++dE (m.out.length+t.1.length+1) b++[ins 9 0 0 0 0]=m.out++t.1++ins 10 0 0 0 0::(dE (m.out.length+t.1.length+1) b++[ins 9 0 0 0 0]):=by simp
  rw[I,this];simp[ins]
 have hex:((((m.iY t).aX b c u).put (ins 9 0 0 0 0) 0).lead (m.out.length+t.1.length:Nat)).ex=jY m.ex (dz (-1) (m.out.length+t.1.length+1) b):=by
  unfold Mk.iY Mk.aD Mk.put Mk.aX Mk.lead;simp only
  have D:(m.out++t.1++[ins 10 0 0 0 0]).length=m.out.length+t.1.length+1:=by simp;omega
  rw[D]
 have A':((((m.iY t).aX b c u).put (ins 9 0 0 0 0) 0).lead (m.out.length+t.1.length:Nat)).lv=m.lv++dz (-2) (m.out.length+t.1.length+1) b:=by
  unfold Mk.iY Mk.aD Mk.put Mk.aX Mk.lead;simp only
  have D:(m.out++t.1++[ins 10 0 0 0 0]).length=m.out.length+t.1.length+1:=by simp;omega
  rw[D]
 have A0:((((m.iY t).aX b c u).put (ins 9 0 0 0 0) 0).lead (m.out.length+t.1.length:Nat)).most=max m.most (max t.2 u):=by
  simp[Mk.iY,Mk.aD,Mk.put,Mk.aX,Mk.lead];omega
 generalize (((m.iY t).aX b c u).put (ins 9 0 0 0 0) 0).lead (m.out.length+t.1.length:Nat)=M at*;unfold Mk.eG;rw[Z,y,hex,A',A0];simp only[eB,adz,nf,Aa,aaf Y,Mk.mk.injEq,alC,MS,adM];exact⟨by simp,by omega,trivial⟩
def TV(m:Mk)(b:List ar)(c u:Int):m.aX b c u=m.eG [] [b] c u:=by
 unfold Mk.aX Mk.eG eB;simp[nf,Aa]
end Go.Am
end
section
namespace Go.Am
open Go Go.Proofs Go.Proofs.Tryz
variable [Inhabited bO]
set_option maxRecDepth 20000
set_option maxHeartbeats 4000000
def MU(p:Pg)(m:Mk)(h:Int)(s:Sm)(o:Out)(r:bS):Prop:=∃v1 v2 v3,r=some (o,[(0,.box [.ptr 2 0 0]),(0,bA s),(0,jX p m h 3 4 5 v1 v2 v3),(v1,.vec 5 (m.out.map cH)),(v2,.vv (m.ex.map iV) none),(v3,.vec 1 (m.lv.map eQ))])
section
variable {p:Pg} (D:p.vars.length<=1000) (H:∀v∈p.vars,dr v=true)
include D H
theorem afV(s:Sm)(i:Nat)(c:Ex)(I:(b7 s)[i]?=some c)(O:bm c=true)(T:(aE p.vars c).e=0)(m:Mk)(hm:0<=m.most)(Z:m.out.length+(ai p.vars c).1.length<99999999):
 MU p (m.aD (ai p.vars c).1 (aV 0 c)) 1 s (.ret (.bq [])) (aj ctx 100 [.d (.int .i64 i),.ptr 0 0 0,.ptr 1 0 0] [.box [.ptr 2 0 0],bA s,jX p m 0 3 4 5 0 0 0,.vec 5 (m.out.map cH),.vv (m.ex.map iV) none,.vec 1 (m.lv.map eQ)]):=by
 obtain⟨v1,v2,v3,J⟩:=pf D H c O T m 0 (by omega) (by omega) hm (by omega);have U:i<(b7 s).length:=(aap.1 I).1;have V:(b7 s)[i]=c:=(aap.1 I).2;generalize m.aD (ai p.vars c).1 (aV 0 c)=M at*;simp at J;rw[ajL (by simp)];simp[f100,ak,U,V,az,J];exact⟨_,_,_,rfl⟩
end
mutual
def B4:Sm->Nat
 | .mk _ _ _ _ _ _ _ blocks _=>A8 blocks+1
def kT:List Sm->Nat
 |[]=>0
 |x::r=>max (B4 x) (kT r)
def A8:List (List Sm)->Nat
 |[]=>0
 |b::r=>max (kT b) (A8 r)
end
def H9:∀{l:List (List Sm)}{b:List Sm},b∈l->kT b<=A8 l
 |c::r,b,h=>by
  simp only[A8];rcases ac4.1 h with rfl|h
  .omega
  .have:=H9 h;omega
def zr(p:Pg)(lp:Bool)(b:List Sm):Prop:=∀(m:Mk),0<=m.most->0<=m.cells->kS m->(lp=true->m.ex≠[])->m.out.length+(ag p.vars b m.cells).1.length<99999990->(ag p.vars b m.cells).2<99999990->m.ex.length+kT b<99999990->
 iX p (m.aX (ag p.vars b m.cells).1 (ag p.vars b m.cells).2 (bJ b)) 0 (.ret (.bq [])) (aj ctx 31 [.ptr 0 0 0,.d (.list (b.map bZ))] (iW p m 0))
@[simp] def G7(p:Pg)(m:Mk)(s:Sm)(E:List Int)(v1 v2 v3 Y:Nat):List dn:=[⟨0,0,jX p m 0 3 4 5 v1 v2 v3⟩,⟨1,0,.box [.ptr 0 0 0]⟩,⟨2,0,bA s⟩,⟨3,v1,.vec 5 (m.out.map cH)⟩,⟨4,v2,.vv (m.ex.map iV) none⟩,⟨5,v3,.vec 1 (m.lv.map eQ)⟩,⟨500,Y,.vec 1 (E.map eQ)⟩]
def afW{p:Pg}{s:Sm}{blocks:List (List Sm)}{n i:Nat}{b:List Sm}(U:i<blocks.length)(V:blocks[i]=b)(Z:i<n)(A3:n<99999990)(A4:i+1<blocks.length)(A5:blocks.length<99999990)
 {m H I:Mk} (O:MU p H 1 s (.ret (.bq [])) (aj ctx 100 [.d (.int .i64 i),.ptr 0 0 0,.ptr 1 0 0] [.box [.ptr 2 0 0],bA s,jX p m 0 3 4 5 0 0 0,.vec 5 (m.out.map cH),.vv (m.ex.map iV) none,.vec 1 (m.lv.map eQ)]))
 (A8:H.out.length<99999990)
 (J:iX p I 0 (.ret (.bq [])) (aj ctx 31 [.ptr 0 0 0,.d (.list (b.map bZ))] (iW p (H.put (ins 10 0 0 0 0) 0) 0)))
 (A9:H.out.length<I.out.length/\I.out.length<99999990) (E:List Int) (AA:E.length<99999990) (k:Kt) (Q:bS->Prop)
 (M:∀v1 v2 v3 D,Q (aL ctx 99 (.loop (Code.at (bh f99) [1,0,1,0,0])) ⟨49,aB,[(0,true,.ptr 0 0 0),(1,true,.d (.list (blocks.map dZ))),(2,true,.d (.int .i64 n)),(3,true,.fn 100 [.ptr 1 0 0,.ptr 2 0 0]),(8,true,.vec 500 D 0 (E.length+1)),(12,true,.d (.list (blocks.map dZ))),(13,true,.d (.int .i64 blocks.length)),(14,true,.d (.int .i64 (i+1)))],G7 p ((I.put (ins 9 0 0 0 0) 0).lead H.out.length) s (E++[(I.out.length:Int)]) v1 v2 v3 D⟩ k))
 (v1 v2 v3 D:Nat):
 Q (aL ctx 99 (.loop (Code.at (bh f99) [1,0,1,0,0])) ⟨49,aB,[(0,true,.ptr 0 0 0),(1,true,.d (.list (blocks.map dZ))),(2,true,.d (.int .i64 n)),(3,true,.fn 100 [.ptr 1 0 0,.ptr 2 0 0]),(8,true,.vec 500 D 0 E.length),(12,true,.d (.list (blocks.map dZ))),(13,true,.d (.int .i64 blocks.length)),(14,true,.d (.int .i64 i))],G7 p m s E v1 v2 v3 D⟩ k):=by
 obtain⟨AB,a2,a3,O⟩:=O;obtain⟨AC,AD,AE,T⟩:=Dh p H 1 0 (by omega) (by decide);rw[show (1:Int)+ -1=0 by omega]at T;obtain⟨d1,d2,d3,J⟩:=J;obtain⟨AI,AJ,AK,A6⟩:=JW p I 0 0 (by omega) (by decide);have A7:(I.put (ins 9 0 0 0 0) 0).out.length=I.out.length+1:=by simp[Mk.put]
 have y:=wH p (I.put (ins 9 0 0 0 0) 0) 0 H.out.length (by rw[A7];omega) (by rw[A7];omega);have A':=b9 ((i:Int)+1);have A0:=b9 ((blocks.length:Int)-1);have A1:(i:Int)<(blocks.length:Int)-1:=by omega
 have AF:E.length<=4611686018427387903:=by omega
 have AG:(E.length+1)*8<=140737488355328:=by omega
 have A2:(0:Int)<=H.out.length:=by omega
 generalize (I.put (ins 9 0 0 0 0) 0).lead H.out.length=AH at*;generalize I.put (ins 9 0 0 0 0) 0=AL at*;generalize H.put (ins 10 0 0 0 0) 0=M2 at*;rw[ah];simp at O T J A6 y;simp[f99]at M⊢;simp[U,V,dZ,Z,O,T,J,A6,y,A',A0,A1,AF,AG,A2,M]
def afX{p:Pg}{s:Sm}{blocks:List (List Sm)}{n i:Nat}{b:List Sm}(U:i<blocks.length)(V:blocks[i]=b)(Z:i<n)(A3:n<99999990)(A4:¬i+1<blocks.length)(A5:blocks.length<99999990)
 {m H I:Mk} (O:MU p H 1 s (.ret (.bq [])) (aj ctx 100 [.d (.int .i64 i),.ptr 0 0 0,.ptr 1 0 0] [.box [.ptr 2 0 0],bA s,jX p m 0 3 4 5 0 0 0,.vec 5 (m.out.map cH),.vv (m.ex.map iV) none,.vec 1 (m.lv.map eQ)]))
 (A8:H.out.length<99999990)
 (J:iX p I 0 (.ret (.bq [])) (aj ctx 31 [.ptr 0 0 0,.d (.list (b.map bZ))] (iW p (H.put (ins 10 0 0 0 0) 0) 0)))
 (A9:H.out.length<I.out.length/\I.out.length<99999990) (E:List Int) (AA:E.length<99999990) (k:Kt) (Q:bS->Prop)
 (M:∀v1 v2 v3 D,Q (aL ctx 99 (.loop (Code.at (bh f99) [1,0,1,0,0])) ⟨49,aB,[(0,true,.ptr 0 0 0),(1,true,.d (.list (blocks.map dZ))),(2,true,.d (.int .i64 n)),(3,true,.fn 100 [.ptr 1 0 0,.ptr 2 0 0]),(8,true,.vec 500 D 0 E.length),(12,true,.d (.list (blocks.map dZ))),(13,true,.d (.int .i64 blocks.length)),(14,true,.d (.int .i64 (i+1)))],G7 p (I.lead H.out.length) s E v1 v2 v3 D⟩ k))
 (v1 v2 v3 D:Nat):
 Q (aL ctx 99 (.loop (Code.at (bh f99) [1,0,1,0,0])) ⟨49,aB,[(0,true,.ptr 0 0 0),(1,true,.d (.list (blocks.map dZ))),(2,true,.d (.int .i64 n)),(3,true,.fn 100 [.ptr 1 0 0,.ptr 2 0 0]),(8,true,.vec 500 D 0 E.length),(12,true,.d (.list (blocks.map dZ))),(13,true,.d (.int .i64 blocks.length)),(14,true,.d (.int .i64 i))],G7 p m s E v1 v2 v3 D⟩ k):=by
 obtain⟨AB,a2,a3,O⟩:=O;obtain⟨AC,AD,AE,T⟩:=Dh p H 1 0 (by omega) (by decide);rw[show (1:Int)+ -1=0 by omega]at T;obtain⟨d1,d2,d3,J⟩:=J;have y:=wH p I 0 H.out.length (by omega) (by omega);have A':=b9 ((i:Int)+1);have A0:=b9 ((blocks.length:Int)-1);have A1:¬(i:Int)<(blocks.length:Int)-1:=by omega
 have A2:(0:Int)<=H.out.length:=by omega
 generalize I.lead H.out.length=AH at*;generalize H.put (ins 10 0 0 0 0) 0=M2 at*;rw[ah];simp at O T J y;simp[f99]at M⊢;simp[U,V,dZ,Z,O,T,J,y,A',A0,A1,A2,M]
def afY{p:Pg}{s:Sm}{blocks:List (List Sm)}{n i:Nat}{b:List Sm}(U:i<blocks.length)(V:blocks[i]=b)(Z:¬i<n)(A3:n<99999990)(A4:¬i+1<blocks.length)(A5:blocks.length<99999990)
 {m I:Mk}
 (J:iX p I 0 (.ret (.bq [])) (aj ctx 31 [.ptr 0 0 0,.d (.list (b.map bZ))] (iW p m 0)))
 (E:List Int) (k:Kt) (Q:bS->Prop)
 (M:∀v1 v2 v3 D,Q (aL ctx 99 (.loop (Code.at (bh f99) [1,0,1,0,0])) ⟨49,aB,[(0,true,.ptr 0 0 0),(1,true,.d (.list (blocks.map dZ))),(2,true,.d (.int .i64 n)),(3,true,.fn 100 [.ptr 1 0 0,.ptr 2 0 0]),(8,true,.vec 500 D 0 E.length),(12,true,.d (.list (blocks.map dZ))),(13,true,.d (.int .i64 blocks.length)),(14,true,.d (.int .i64 (i+1)))],G7 p I s E v1 v2 v3 D⟩ k))
 (v1 v2 v3 D:Nat):
 Q (aL ctx 99 (.loop (Code.at (bh f99) [1,0,1,0,0])) ⟨49,aB,[(0,true,.ptr 0 0 0),(1,true,.d (.list (blocks.map dZ))),(2,true,.d (.int .i64 n)),(3,true,.fn 100 [.ptr 1 0 0,.ptr 2 0 0]),(8,true,.vec 500 D 0 E.length),(12,true,.d (.list (blocks.map dZ))),(13,true,.d (.int .i64 blocks.length)),(14,true,.d (.int .i64 i))],G7 p m s E v1 v2 v3 D⟩ k):=by
 obtain⟨d1,d2,d3,J⟩:=J;have A':=b9 ((i:Int)+1);have A0:=b9 ((blocks.length:Int)-1);have A1:¬(i:Int)<(blocks.length:Int)-1:=by omega
 rw[ah];simp at J;simp[f99]at M⊢;simp[U,V,dZ,Z,J,A',A0,A1,M]
def Ia{p:Pg}{s:Sm}{blocks:List (List Sm)}{n:Nat}{m:Mk}(E:List Int)(k:Kt)(Q:bS->Prop)
 (M:∀(Y:Env) v1 v2 v3 D,Q (k (.exit 0) ⟨49,aB,(0,true,.ptr 0 0 0)::(1,true,.d (.list (blocks.map dZ)))::(2,true,.d (.int .i64 n))::(3,true,.fn 100 [.ptr 1 0 0,.ptr 2 0 0])::(8,true,.vec 500 D 0 E.length)::Y,G7 p m s E v1 v2 v3 D⟩))
 (v1 v2 v3 D:Nat) {i:Nat} (hi:i=blocks.length):
 Q (aL ctx 99 (.loop (Code.at (bh f99) [1,0,1,0,0])) ⟨49,aB,[(0,true,.ptr 0 0 0),(1,true,.d (.list (blocks.map dZ))),(2,true,.d (.int .i64 n)),(3,true,.fn 100 [.ptr 1 0 0,.ptr 2 0 0]),(8,true,.vec 500 D 0 E.length),(12,true,.d (.list (blocks.map dZ))),(13,true,.d (.int .i64 blocks.length)),(14,true,.d (.int .i64 i))],G7 p m s E v1 v2 v3 D⟩ k):=by
 subst hi;rw[ah];simp[f99]at M⊢;exact M _ _ _ _ _
def TW(p:Pg)(m:Mk)(h:Int)(s:Sm)(q:Int)(o:Out)(r:bS):Prop:=∃v1 v2 v3,r=some (o,[(0,.box [.ptr 3 0 0]),(0,bA s),(0,.box [.d (.int .i64 q)]),(0,jX p m h 4 5 6 v1 v2 v3),(v1,.vec 5 (m.out.map cH)),(v2,.vv (m.ex.map iV) none),(v3,.vec 1 (m.lv.map eQ))])
@[simp] def G8(p:Pg)(m:Mk)(s:Sm)(q:Int)(E:List Int)(v1 v2 v3 D:Nat):List dn:=[⟨0,0,jX p m 0 4 5 6 v1 v2 v3⟩,⟨1,0,.box [.ptr 0 0 0]⟩,⟨2,0,bA s⟩,⟨3,0,.box [.d (.int .i64 q)]⟩,⟨4,v1,.vec 5 (m.out.map cH)⟩,⟨5,v2,.vv (m.ex.map iV) none⟩,⟨6,v3,.vec 1 (m.lv.map eQ)⟩,⟨500,D,.vec 1 (E.map eQ)⟩]
def afZ{p:Pg}{s:Sm}{q:Int}{blocks:List (List Sm)}{n i:Nat}{b:List Sm}(U:i<blocks.length)(V:blocks[i]=b)(Z:i<n)(A3:n<99999990)(A4:i+1<blocks.length)(A5:blocks.length<99999990)
 {m H I:Mk} (O:TW p H 1 s q (.ret (.bq [])) (aj ctx 169 [.d (.int .i64 i),.ptr 0 0 0,.ptr 1 0 0,.ptr 2 0 0] [.box [.ptr 3 0 0],bA s,.box [.d (.int .i64 q)],jX p m 0 4 5 6 0 0 0,.vec 5 (m.out.map cH),.vv (m.ex.map iV) none,.vec 1 (m.lv.map eQ)]))
 (A8:H.out.length<99999990)
 (J:iX p I 0 (.ret (.bq [])) (aj ctx 31 [.ptr 0 0 0,.d (.list (b.map bZ))] (iW p (H.put (ins 10 0 0 0 0) 0) 0)))
 (A9:H.out.length<I.out.length/\I.out.length<99999990) (E:List Int) (AA:E.length<99999990) (k:Kt) (Q:bS->Prop)
 (M:∀v1 v2 v3 D,Q (aL ctx 99 (.loop (Code.at (bh f99) [1,0,1,0,0])) ⟨49,aB,[(0,true,.ptr 0 0 0),(1,true,.d (.list (blocks.map dZ))),(2,true,.d (.int .i64 n)),(3,true,.fn 169 [.ptr 1 0 0,.ptr 2 0 0,.ptr 3 0 0]),(8,true,.vec 500 D 0 (E.length+1)),(12,true,.d (.list (blocks.map dZ))),(13,true,.d (.int .i64 blocks.length)),(14,true,.d (.int .i64 (i+1)))],G8 p ((I.put (ins 9 0 0 0 0) 0).lead H.out.length) s q (E++[(I.out.length:Int)]) v1 v2 v3 D⟩ k))
 (v1 v2 v3 D:Nat):
 Q (aL ctx 99 (.loop (Code.at (bh f99) [1,0,1,0,0])) ⟨49,aB,[(0,true,.ptr 0 0 0),(1,true,.d (.list (blocks.map dZ))),(2,true,.d (.int .i64 n)),(3,true,.fn 169 [.ptr 1 0 0,.ptr 2 0 0,.ptr 3 0 0]),(8,true,.vec 500 D 0 E.length),(12,true,.d (.list (blocks.map dZ))),(13,true,.d (.int .i64 blocks.length)),(14,true,.d (.int .i64 i))],G8 p m s q E v1 v2 v3 D⟩ k):=by
 obtain⟨AB,a2,a3,O⟩:=O;obtain⟨AC,AD,AE,T⟩:=Dh p H 1 0 (by omega) (by decide);rw[show (1:Int)+ -1=0 by omega]at T;obtain⟨d1,d2,d3,J⟩:=J;obtain⟨AI,AJ,AK,A6⟩:=JW p I 0 0 (by omega) (by decide);have A7:(I.put (ins 9 0 0 0 0) 0).out.length=I.out.length+1:=by simp[Mk.put]
 have y:=wH p (I.put (ins 9 0 0 0 0) 0) 0 H.out.length (by rw[A7];omega) (by rw[A7];omega);have A':=b9 ((i:Int)+1);have A0:=b9 ((blocks.length:Int)-1);have A1:(i:Int)<(blocks.length:Int)-1:=by omega
 have AF:E.length<=4611686018427387903:=by omega
 have AG:(E.length+1)*8<=140737488355328:=by omega
 have A2:(0:Int)<=H.out.length:=by omega
 generalize (I.put (ins 9 0 0 0 0) 0).lead H.out.length=AH at*;generalize I.put (ins 9 0 0 0 0) 0=AL at*;generalize H.put (ins 10 0 0 0 0) 0=M2 at*;rw[ah];simp at O T J A6 y;simp[f99]at M⊢;simp[U,V,dZ,Z,O,T,J,A6,y,A',A0,A1,AF,AG,A2,M]
def af0{p:Pg}{s:Sm}{q:Int}{blocks:List (List Sm)}{n i:Nat}{b:List Sm}(U:i<blocks.length)(V:blocks[i]=b)(Z:i<n)(A3:n<99999990)(A4:¬i+1<blocks.length)(A5:blocks.length<99999990)
 {m H I:Mk} (O:TW p H 1 s q (.ret (.bq [])) (aj ctx 169 [.d (.int .i64 i),.ptr 0 0 0,.ptr 1 0 0,.ptr 2 0 0] [.box [.ptr 3 0 0],bA s,.box [.d (.int .i64 q)],jX p m 0 4 5 6 0 0 0,.vec 5 (m.out.map cH),.vv (m.ex.map iV) none,.vec 1 (m.lv.map eQ)]))
 (A8:H.out.length<99999990)
 (J:iX p I 0 (.ret (.bq [])) (aj ctx 31 [.ptr 0 0 0,.d (.list (b.map bZ))] (iW p (H.put (ins 10 0 0 0 0) 0) 0)))
 (A9:H.out.length<I.out.length/\I.out.length<99999990) (E:List Int) (AA:E.length<99999990) (k:Kt) (Q:bS->Prop)
 (M:∀v1 v2 v3 D,Q (aL ctx 99 (.loop (Code.at (bh f99) [1,0,1,0,0])) ⟨49,aB,[(0,true,.ptr 0 0 0),(1,true,.d (.list (blocks.map dZ))),(2,true,.d (.int .i64 n)),(3,true,.fn 169 [.ptr 1 0 0,.ptr 2 0 0,.ptr 3 0 0]),(8,true,.vec 500 D 0 E.length),(12,true,.d (.list (blocks.map dZ))),(13,true,.d (.int .i64 blocks.length)),(14,true,.d (.int .i64 (i+1)))],G8 p (I.lead H.out.length) s q E v1 v2 v3 D⟩ k))
 (v1 v2 v3 D:Nat):
 Q (aL ctx 99 (.loop (Code.at (bh f99) [1,0,1,0,0])) ⟨49,aB,[(0,true,.ptr 0 0 0),(1,true,.d (.list (blocks.map dZ))),(2,true,.d (.int .i64 n)),(3,true,.fn 169 [.ptr 1 0 0,.ptr 2 0 0,.ptr 3 0 0]),(8,true,.vec 500 D 0 E.length),(12,true,.d (.list (blocks.map dZ))),(13,true,.d (.int .i64 blocks.length)),(14,true,.d (.int .i64 i))],G8 p m s q E v1 v2 v3 D⟩ k):=by
 obtain⟨AB,a2,a3,O⟩:=O;obtain⟨AC,AD,AE,T⟩:=Dh p H 1 0 (by omega) (by decide);rw[show (1:Int)+ -1=0 by omega]at T;obtain⟨d1,d2,d3,J⟩:=J;have y:=wH p I 0 H.out.length (by omega) (by omega);have A':=b9 ((i:Int)+1);have A0:=b9 ((blocks.length:Int)-1);have A1:¬(i:Int)<(blocks.length:Int)-1:=by omega
 have A2:(0:Int)<=H.out.length:=by omega
 generalize I.lead H.out.length=AH at*;generalize H.put (ins 10 0 0 0 0) 0=M2 at*;rw[ah];simp at O T J y;simp[f99]at M⊢;simp[U,V,dZ,Z,O,T,J,y,A',A0,A1,A2,M]
def af1{p:Pg}{s:Sm}{q:Int}{blocks:List (List Sm)}{n i:Nat}{b:List Sm}(U:i<blocks.length)(V:blocks[i]=b)(Z:¬i<n)(A3:n<99999990)(A4:¬i+1<blocks.length)(A5:blocks.length<99999990)
 {m I:Mk}
 (J:iX p I 0 (.ret (.bq [])) (aj ctx 31 [.ptr 0 0 0,.d (.list (b.map bZ))] (iW p m 0)))
 (E:List Int) (k:Kt) (Q:bS->Prop)
 (M:∀v1 v2 v3 D,Q (aL ctx 99 (.loop (Code.at (bh f99) [1,0,1,0,0])) ⟨49,aB,[(0,true,.ptr 0 0 0),(1,true,.d (.list (blocks.map dZ))),(2,true,.d (.int .i64 n)),(3,true,.fn 169 [.ptr 1 0 0,.ptr 2 0 0,.ptr 3 0 0]),(8,true,.vec 500 D 0 E.length),(12,true,.d (.list (blocks.map dZ))),(13,true,.d (.int .i64 blocks.length)),(14,true,.d (.int .i64 (i+1)))],G8 p I s q E v1 v2 v3 D⟩ k))
 (v1 v2 v3 D:Nat):
 Q (aL ctx 99 (.loop (Code.at (bh f99) [1,0,1,0,0])) ⟨49,aB,[(0,true,.ptr 0 0 0),(1,true,.d (.list (blocks.map dZ))),(2,true,.d (.int .i64 n)),(3,true,.fn 169 [.ptr 1 0 0,.ptr 2 0 0,.ptr 3 0 0]),(8,true,.vec 500 D 0 E.length),(12,true,.d (.list (blocks.map dZ))),(13,true,.d (.int .i64 blocks.length)),(14,true,.d (.int .i64 i))],G8 p m s q E v1 v2 v3 D⟩ k):=by
 obtain⟨d1,d2,d3,J⟩:=J;have A':=b9 ((i:Int)+1);have A0:=b9 ((blocks.length:Int)-1);have A1:¬(i:Int)<(blocks.length:Int)-1:=by omega
 rw[ah];simp at J;simp[f99]at M⊢;simp[U,V,dZ,Z,J,A',A0,A1,M]
def Ib{p:Pg}{s:Sm}{q:Int}{blocks:List (List Sm)}{n:Nat}{m:Mk}(E:List Int)(k:Kt)(Q:bS->Prop)
 (M:∀(Y:Env) v1 v2 v3 D,Q (k (.exit 0) ⟨49,aB,(0,true,.ptr 0 0 0)::(1,true,.d (.list (blocks.map dZ)))::(2,true,.d (.int .i64 n))::(3,true,.fn 169 [.ptr 1 0 0,.ptr 2 0 0,.ptr 3 0 0])::(8,true,.vec 500 D 0 E.length)::Y,G8 p m s q E v1 v2 v3 D⟩))
 (v1 v2 v3 D:Nat) {i:Nat} (hi:i=blocks.length):
 Q (aL ctx 99 (.loop (Code.at (bh f99) [1,0,1,0,0])) ⟨49,aB,[(0,true,.ptr 0 0 0),(1,true,.d (.list (blocks.map dZ))),(2,true,.d (.int .i64 n)),(3,true,.fn 169 [.ptr 1 0 0,.ptr 2 0 0,.ptr 3 0 0]),(8,true,.vec 500 D 0 E.length),(12,true,.d (.list (blocks.map dZ))),(13,true,.d (.int .i64 blocks.length)),(14,true,.d (.int .i64 i))],G8 p m s q E v1 v2 v3 D⟩ k):=by
 subst hi;rw[ah];simp[f99]at M⊢;exact M _ _ _ _ _
@[simp] def as6:List.range 7=[0,1,2,3,4,5,6]:=rfl
@[simp] def as7:List.range 8=[0,1,2,3,4,5,6,7]:=rfl
@[simp] def mqL(p:Pg)(m:Mk)(h:Int)(s:Sm)(q:Int)(v1 v2 v3:Nat):List dn:=[⟨0,0,.box [.ptr 3 0 0]⟩,⟨1,0,bA s⟩,⟨2,0,.box [.d (.int .i64 q)]⟩,⟨3,0,jX p m h 4 5 6 v1 v2 v3⟩,⟨4,v1,.vec 5 (m.out.map cH)⟩,⟨5,v2,.vv (m.ex.map iV) none⟩,⟨6,v3,.vec 1 (m.lv.map eQ)⟩]
def MV{p:Pg}{s:Sm}{q:Int}(l:List Int)(J:l.length<99999990)(k:Kt)(Q:Mk->bS->Prop)
 (H:∀(Y:Env) M v1 v2 v3,Q M (k (.exit 0) ⟨38,aB,Y,mqL p M 1 s q v1 v2 v3⟩)):
 ∀(rest pre:List Int)(m:Mk)(v1 v2 v3:Nat),l=pre++rest->rest.length%2=0->0<=m.most->m.out.length+rest.length<99999990->2<=m.most\/rest≠[]->
 Q (m.aD (dy q rest) 2) (aL ctx 169 (.loop (Code.at (bh f169) [1,1,1,0,0])) ⟨38,aB,[(1,true,.ptr 0 0 0),(3,true,.ptr 2 0 0),(5,true,.d (.list (l.map λn=>.int .i64 n))),(6,true,.d (.int .i64 pre.length))],mqL p m 1 s q v1 v2 v3⟩ k)
 |[],pre,m,v1,v2,v3,D,he,hm,I,O=>by
  have A0:pre.length=l.length:=by rw[D];simp
  have e:m.aD (dy q []) 2=m:=by
   simp[dy,Mk.aD];cases m;simp at hm O⊢;omega
  rw[e];have T:=b9 ((l.length:Int)+1);have U:¬(l.length:Int)+1<l.length:=by omega
  rw[A0,ah];simp at H;simp[f169,T,U,H]
 |[a],pre,m,v1,v2,v3,D,he,hm,I,O=>by simp at he
 |a::b::rest,pre,m,v1,v2,v3,D,he,hm,I,O=>by
  simp only[ac5]at I he;obtain⟨A1,A2,A3,g1⟩:=mD p m 1 1 (ins 14 q 0 a b) (by omega) (by decide);obtain⟨d1,d2,d3,g2⟩:=mD p (m.put (ins 14 q 0 a b) (1+1)) (1+1) (-1) (ins 8 1 21 0 0) (by simp[Mk.put];omega) (by decide);have e:m.aD (dy q (a::b::rest)) 2=((m.put (ins 14 q 0 a b) (1+1)).put (ins 8 1 21 0 0) (1+1+ -1)).aD (dy q rest) 2:=by
   simp only[dy,Mk.put,Mk.aD,Mk.mk.injEq];simp;omega
  rw[e];have ih:=λv1 v2 v3=>MV (p:=p) (s:=s) (q:=q) l J k Q H rest (pre++[a,b]) ((m.put (ins 14 q 0 a b) (1+1)).put (ins 8 1 21 0 0) (1+1+ -1)) v1 v2 v3 (by simp[D]) (by omega) (by simp[Mk.put];omega) (by simp[Mk.put];omega) (by simp[Mk.put];omega);clear H e;generalize (m.put (ins 14 q 0 a b) (1+1)).put (ins 8 1 21 0 0) (1+1+ -1)=M at*;generalize m.put (ins 14 q 0 a b) (1+1)=N at*;have A9:l.length=pre.length+(rest.length+2):=by rw[D];simp
  have T:=b9 ((pre.length:Int)+1);have U:(pre.length:Int)+1<l.length:=by omega
  have A4:=b9 ((pre.length:Int)+2);have i1:pre.length<l.length:=by omega
  have i2:l[pre.length]=a:=by simp[D]
  have i3:pre.length+1<l.length:=by omega
  have i4:l[pre.length+1]=b:=by simp[D]
  have i5:((pre.length:Int)+1).toNat=pre.length+1:=by omega
  have i6:(0:Int)<=(pre.length:Int)+1:=by omega
  rw[ah];simp[ins]at g1 g2;simp[f169]at ih⊢;simp[T,U,A4,i1,i2,i3,i4,i5,i6,g1,g2,ak,ih]
def aca{p:Pg}(s:Sm)(q:Int)(i:Nat)(l:List Int)(V:(dq s)[i]?=some l)(Z:uV l=true)(m:Mk)(hm:0<=m.most)(I:m.out.length+l.length+1<99999990):
 TW p (m.aD (ins 1 0 0 0 0::dy q l) 2) 1 s q (.ret (.bq [])) (aj ctx 169 [.d (.int .i64 i),.ptr 0 0 0,.ptr 1 0 0,.ptr 2 0 0] [.box [.ptr 3 0 0],bA s,.box [.d (.int .i64 q)],jX p m 0 4 5 6 0 0 0,.vec 5 (m.out.map cH),.vv (m.ex.map iV) none,.vec 1 (m.lv.map eQ)]):=by
 have J:l.length<99999990:=by omega
 simp only[uV,Ds,ahI,ac2,aed]at Z;obtain⟨A5,y,_⟩:=Z;obtain⟨A1,A2,A3,g1⟩:=mD p m 0 1 (ins 1 0 0 0 0) (by omega) (by decide);have e:m.aD (ins 1 0 0 0 0::dy q l) 2=(m.put (ins 1 0 0 0 0) (0+1)).aD (dy q l) 2:=by
  simp only[Mk.put,Mk.aD,Mk.mk.injEq];simp;omega
 rw[e];have A':=λk Q H v1 v2 v3=>MV (p:=p) (s:=s) (q:=q) l J k Q H l [] (m.put (ins 1 0 0 0 0) (0+1)) v1 v2 v3 rfl (by omega) (by simp[Mk.put];omega) (by simp[Mk.put];omega) (.inr (by intro h;simp[h]at A5));generalize (m.put (ins 1 0 0 0 0) (0+1)).aD (dy q l) 2=M at*;generalize m.put (ins 1 0 0 0 0) (0+1)=N at*;have A6:i<(dq s).length:=(aap.1 V).1;have y:(dq s)[i]=l:=(aap.1 V).2;rw[akf (by simp)];simp[ins]at g1;simp[f169]at A'⊢;simp[g1,A6,y,jR];refine A' _ (λX r=>X=M->TW p M 1 s q (.ret (.bq [])) r) (λY X v1 v2 v3 A7=>?_) _ _ _ rfl;subst A7;have A8:List.range 7=[0,1,2,3,4,5,6]:=rfl;simp[A8];exact⟨_,_,_,rfl⟩
def Ao(vs:List Vr):∀(l:List (List Sm))(c:Int),(ay vs l c).1.length=l.length
 |[],c=>by simp[ay]
 |b::r,c=>by simp[ay,Ao vs r]
def QQ{vs:List Vr}{l:List (List Sm)}{c:Int}:(ay vs l c).1=[]↔l=[]:=by
 constructor
 .intro h;have:=Ao vs l c;rw[h]at this;exact yZ this.symm
 .rintro rfl;simp[ay]
def ZK(t:List ar)(ts:List (List ar))(b:List ar)(r:List (List ar)):t.length+1+b.length+(if r=[]then 0 else 1+(cF ts r).length)<=(cF (t::ts) (b::r)).length:=by
 simp only[cF];by_cases h:r=[]
 .subst h;simp[ei];omega
 .simp[h,ei];omega
def Gq(m:Mk)(t:List ar×Int):(m.iY t).out.length=m.out.length+t.1.length+1:=by simp[Mk.iY,Mk.aD,Mk.put];omega
def Ap{m:Mk}{ts:List (List ar×Int)}{bs:List (List ar)}{c t u:Int}(h:max m.most t=max m.most u):m.eG ts bs c t=m.eG ts bs c u:=by
 unfold Mk.eG;rw[h]
def Dk{vs:List Vr}:∀(l:List (List Sm))(c:Int),0<=c->(∀b∈l,∀c,0<=c->c<=(ag vs b c).2)->c<=(ay vs l c).2
 |[],c,_,_=>by simp[ay]
 |b::r,c,AD,h=>by
  have T:=h b (by simp) c AD;have V:=Dk r (ag vs b c).2 (by omega) (λb A2=>h b (by simp[A2]));simp only[ay];omega
section
variable {p:Pg} {lp:Bool}
theorem QR{s:Sm}{blocks:List (List Sm)}{ts:List (List ar×Int)}(A9:blocks.length<99999990)(AR:ts.length<=blocks.length)(AS:blocks.length<=ts.length+1)
 (AK:∀(i:Nat)(t:List ar×Int),ts[i]?=some t->∀m:Mk,0<=m.most->m.out.length+t.1.length<99999990->MU p (m.aD t.1 t.2) 1 s (.ret (.bq [])) (aj ctx 100 [.d (.int .i64 i),.ptr 0 0 0,.ptr 1 0 0] [.box [.ptr 2 0 0],bA s,jX p m 0 3 4 5 0 0 0,.vec 5 (m.out.map cH),.vv (m.ex.map iV) none,.vec 1 (m.lv.map eQ)]))
 (AE:∀b∈blocks,zr p lp b) (AF:∀b∈blocks,∀c,0<=c->c<=(ag p.vars b c).2) (k:Kt) (Q:Mk->List Int->bS->Prop)
 (AA:∀(Y:Env) M E v1 v2 v3 I,Q M E (k (.exit 0) ⟨49,aB,(0,true,.ptr 0 0 0)::(1,true,.d (.list (blocks.map dZ)))::(2,true,.d (.int .i64 ts.length))::(3,true,.fn 100 [.ptr 1 0 0,.ptr 2 0 0])::(8,true,.vec 500 I 0 E.length)::Y,G7 p M s E v1 v2 v3 I⟩)):
 ∀(D O:List (List Sm))(H U:List (List ar×Int))(m:Mk)(E:List Int)(v1 v2 v3 I:Nat),blocks=O++D->ts=U++H->(O.length=U.length\/(H=[]/\D=[]))->0<=m.most->0<=m.cells->kS m->(lp=true->m.ex≠[])->
 m.out.length+(cF (eB H) (ay p.vars D m.cells).1).length<99999990->(ay p.vars D m.cells).2<99999990->(∀b∈blocks,m.ex.length+kT b<99999990)->E.length+D.length<99999980->
 Q (m.eG H (ay p.vars D m.cells).1 (ay p.vars D m.cells).2 (max (eR H) (cS D))) (E++iv m.out.length (eB H) (ay p.vars D m.cells).1)
  (aL ctx 99 (.loop (Code.at (bh f99) [1,0,1,0,0])) ⟨49,aB,[(0,true,.ptr 0 0 0),(1,true,.d (.list (blocks.map dZ))),(2,true,.d (.int .i64 ts.length)),(3,true,.fn 100 [.ptr 1 0 0,.ptr 2 0 0]),(8,true,.vec 500 I 0 E.length),(12,true,.d (.list (blocks.map dZ))),(13,true,.d (.int .i64 blocks.length)),(14,true,.d (.int .i64 O.length))],G7 p m s E v1 v2 v3 I⟩ k)
 |[],O,H,U,m,E,v1,v2,v3,I,T,V,J,hm,A3,A4,hex,Z,A0,A5,AG=>by
  have AH:H=[]:=by
   rcases J with J|J
   .have A6:blocks.length=O.length:=by rw[T];simp
    have a2:ts.length=U.length+H.length:=by rw[V];simp
    exact yZ (by omega)
   .exact J.1
  subst AH;have AL:(ay p.vars [] m.cells)=([],m.cells):=by simp[ay]
  have y:m.eG [] (ay p.vars [] m.cells).1 (ay p.vars [] m.cells).2 (max (eR []) (cS []))=m:=by
   rw[AL];have:=QP m [] hm;simpa [eR,cS]using this
  have A':E++iv m.out.length (eB []) (ay p.vars [] m.cells).1=E:=by rw[AL];simp[iv]
  rw[y,A'];exact Ia E k (Q m E) (λY v1 v2 v3 I=>AA Y m E v1 v2 v3 I) v1 v2 v3 I (by rw[T];simp)
 |b::D,O,[],U,m,E,v1,v2,v3,I,T,V,J,hm,A3,A4,hex,Z,A0,A5,AG=>by
  have J:O.length=U.length:=by
   rcases J with J|J
   .exact J
   .cases J.2
  have A6:blocks.length=O.length+(D.length+1):=by rw[T];simp
  have a2:ts.length=U.length:=by rw[V];simp
  have A7:D=[]:=yZ (by omega);subst A7;have AI:ay p.vars [b] m.cells=([(ag p.vars b m.cells).1],(ag p.vars b m.cells).2):=by simp[ay]
  rw[AI]at Z A0⊢;have Aa:m.out.length+(ag p.vars b m.cells).1.length<99999990:=by simpa [eB,cF]using Z
  have A1:=AE b (by rw[T];simp) m hm A3 A4 hex (by omega) A0 (A5 b (by rw[T];simp));have y:m.eG [] [(ag p.vars b m.cells).1] (ag p.vars b m.cells).2 (max (eR []) (cS [b]))=m.aX (ag p.vars b m.cells).1 (ag p.vars b m.cells).2 (bJ b):=by
   rw[<-TV];exact qz (by simp only[eR,cS];omega)
  have A':E++iv m.out.length (eB []) [(ag p.vars b m.cells).1]=E:=by simp[eB,iv]
  simp only
  rw[y,A'];refine afY (i:=O.length) (b:=b) (by omega) (by simp[T]) (by omega) (by omega) (by omega) A9 A1 E k (Q _ E) (λv1 v2 v3 I=>?_) v1 v2 v3 I;exact Ia E k (Q _ E) (λY v1 v2 v3 I=>AA Y _ E v1 v2 v3 I) v1 v2 v3 I (i:=O.length+1) (by omega)
 |b::D,O,t::H,U,m,E,v1,v2,v3,I,T,V,J,hm,A3,A4,hex,Z,A0,A5,AG=>by
  have J:O.length=U.length:=by
   rcases J with J|J
   .exact J
   .cases J.2
  have A6:blocks.length=O.length+(D.length+1):=by rw[T];simp
  have a2:ts.length=U.length+(H.length+1):=by rw[V];simp
  have AI:ay p.vars (b::D) m.cells=((ag p.vars b m.cells).1::(ay p.vars D (ag p.vars b m.cells).2).1,(ay p.vars D (ag p.vars b m.cells).2).2):=by simp[ay]
  rw[AI]at Z A0⊢;have AT:=ZK t.1 (eB H) (ag p.vars b m.cells).1 (ay p.vars D (ag p.vars b m.cells).2).1;have Ab:=AF b (by rw[T];simp) m.cells A3;have Ac:=Dk D (ag p.vars b m.cells).2 (by omega) (λb A2=>AF b (by rw[T];simp[A2]));have AU:eB (t::H)=t.1::eB H:=rfl;rw[AU]at Z⊢;simp only at A0 Z;have AM:=AK O.length t (by rw[V,J];simp) m hm (by omega);have AV:0<=(m.iY t).most:=by simp[Mk.iY,Mk.aD,Mk.put];omega
  have A1:=AE b (by rw[T];simp) (m.iY t) AV A3 ((A4.aD _ _).put _ _) hex (by rw[Gq];show _+(ag p.vars b m.cells).1.length<_;omega) (by show (ag p.vars b m.cells).2<_;omega) (A5 b (by rw[T];simp));have A1:iX p ((m.iY t).aX (ag p.vars b m.cells).1 (ag p.vars b m.cells).2 (bJ b)) 0 (.ret (.bq [])) (aj ctx 31 [.ptr 0 0 0,.d (.list (b.map bZ))] (iW p ((m.aD t.1 t.2).put (ins 10 0 0 0 0) 0) 0)):=A1;have A8:(m.aD t.1 t.2).out.length=m.out.length+t.1.length:=by simp[Mk.aD]
  have AB:((m.iY t).aX (ag p.vars b m.cells).1 (ag p.vars b m.cells).2 (bJ b)).out.length=m.out.length+t.1.length+1+(ag p.vars b m.cells).1.length:=by
   show ((m.iY t).out++dE _ _).length=_;rw[acY,qO,Gq]
  have AN:((m.aD t.1 t.2).out.length:Int)=((m.out.length+t.1.length:Nat):Int):=by rw[A8]
  by_cases A7:D=[]
  .subst A7;have AH:H=[]:=yZ (by simp at A6;omega);subst AH;have AW:ay p.vars [] (ag p.vars b m.cells).2=([],(ag p.vars b m.cells).2):=by simp[ay]
   rw[AW];have y:m.eG [t] [(ag p.vars b m.cells).1] (ag p.vars b m.cells).2 (max (eR [t]) (cS [b]))=((m.iY t).aX (ag p.vars b m.cells).1 (ag p.vars b m.cells).2 (bJ b)).lead (m.aD t.1 t.2).out.length:=by
    rw[AN,TS m t [] _ _ _ hm];exact Ap (by simp only[eR,cS];omega)
   have A':E++iv m.out.length (t.1::eB []) [(ag p.vars b m.cells).1]=E:=by simp[eB,iv]
   simp only
   rw[y,A'];refine afX (i:=O.length) (b:=b) (by omega) (by simp[T]) (by omega) (by omega) (by simp at A6;omega) A9 AM (by rw[A8];omega) A1 (by rw[A8,AB];omega) E (by omega) k (Q _ E) (λv1 v2 v3 I=>?_) v1 v2 v3 I;exact Ia E k (Q _ E) (λY v1 v2 v3 I=>AA Y _ E v1 v2 v3 I) v1 v2 v3 I (i:=O.length+1) (by simp at A6;omega)
  .have Ad:0<D.length:=by
    cases D with
    |nil=>exact absurd rfl A7
    |cons _ _=>simp
   have AJ:(ay p.vars D (ag p.vars b m.cells).2).1≠[]:=λh=>A7 (QQ.1 h);rw[aaf AJ]at AT;refine afW (i:=O.length) (b:=b) (by omega) (by simp[T]) (by omega) (by omega) (by omega) A9 AM (by rw[A8];omega) A1 (by rw[A8,AB];omega) E (by omega) k (Q _ _) (λv1 v2 v3 I=>?_) v1 v2 v3 I;have y:=TU m t H (ag p.vars b m.cells).1 (ay p.vars D (ag p.vars b m.cells).2).1 (ag p.vars b m.cells).2 (ay p.vars D (ag p.vars b m.cells).2).2 (bJ b) (max (eR H) (cS D)) hm AJ;have A':iv m.out.length (t.1::eB H) ((ag p.vars b m.cells).1::(ay p.vars D (ag p.vars b m.cells).2).1)=((m.out.length+t.1.length+1+(ag p.vars b m.cells).1.length:Nat):Int)::iv (m.out.length+t.1.length+2+(ag p.vars b m.cells).1.length) (eB H) (ay p.vars D (ag p.vars b m.cells).2).1:=by
    simp only[iv,aaf AJ]
   have AO:((((m.iY t).aX (ag p.vars b m.cells).1 (ag p.vars b m.cells).2 (bJ b)).put (ins 9 0 0 0 0) 0).lead (m.out.length+t.1.length:Nat)).out.length=m.out.length+t.1.length+2+(ag p.vars b m.cells).1.length:=by
    rw[H7];show (((m.iY t).aX _ _ _).out++_).length=_;rw[acY,AB];simp;omega
   have AC:((((m.iY t).aX (ag p.vars b m.cells).1 (ag p.vars b m.cells).2 (bJ b)).put (ins 9 0 0 0 0) 0).lead (m.out.length+t.1.length:Nat)).cells=(ag p.vars b m.cells).2:=rfl;have AP:((((m.iY t).aX (ag p.vars b m.cells).1 (ag p.vars b m.cells).2 (bJ b)).put (ins 9 0 0 0 0) 0).lead (m.out.length+t.1.length:Nat)).ex.length=m.ex.length:=by
    show (jY m.ex _).length=_;simp
   have AX:0<=((((m.iY t).aX (ag p.vars b m.cells).1 (ag p.vars b m.cells).2 (bJ b)).put (ins 9 0 0 0 0) 0).lead (m.out.length+t.1.length:Nat)).most:=by
    simp[Mk.lead,Mk.put,Mk.aX];omega
   have AY:m.eG (t::H) ((ag p.vars b m.cells).1::(ay p.vars D (ag p.vars b m.cells).2).1) (ay p.vars D (ag p.vars b m.cells).2).2 (max (eR (t::H)) (cS (b::D)))=((((m.iY t).aX (ag p.vars b m.cells).1 (ag p.vars b m.cells).2 (bJ b)).put (ins 9 0 0 0 0) 0).lead (m.out.length+t.1.length:Nat)).eG H (ay p.vars D (ag p.vars b m.cells).2).1 (ay p.vars D (ag p.vars b m.cells).2).2 (max (eR H) (cS D)):=by
    rw[y];exact Ap (by simp only[eR,cS];omega)
   have ih:=QR A9 AR AS AK AE AF k Q AA D (O++[b]) H (U++[t]) ((((m.iY t).aX (ag p.vars b m.cells).1 (ag p.vars b m.cells).2 (bJ b)).put (ins 9 0 0 0 0) 0).lead (m.out.length+t.1.length:Nat)) (E++[((m.out.length+t.1.length+1+(ag p.vars b m.cells).1.length:Nat):Int)]) v1 v2 v3 I (by simp[T]) (by simp[V]) (.inl (by simp[J])) AX (by rw[AC];omega) ((((((A4.aD _ _).put _ _).aX _ _ _).put _ _).lead _)) (λh=>by
    intro AD;have:=AP;rw[AD]at this;have AZ:=hex h;cases AQ:m.ex with
    |nil=>exact AZ AQ
    |cons _ _=>rw[AQ]at this;simp at this) (by rw[AO,AC];omega) (by rw[AC];omega) (λb A2=>by rw[AP];exact A5 b A2) (by simp at AG⊢;omega)
   rw[AO,AC]at ih;simp only
   rw[AY,A',AN,AB];have A_:E++((m.out.length+t.1.length+1+(ag p.vars b m.cells).1.length:Nat):Int)::iv (m.out.length+t.1.length+2+(ag p.vars b m.cells).1.length) (eB H) (ay p.vars D (ag p.vars b m.cells).2).1=E++[((m.out.length+t.1.length+1+(ag p.vars b m.cells).1.length:Nat):Int)]++iv (m.out.length+t.1.length+2+(ag p.vars b m.cells).1.length) (eB H) (ay p.vars D (ag p.vars b m.cells).2).1:=by simp
   rw[A_];simpa using ih
end
section
variable {p:Pg} {lp:Bool}
theorem QT{s:Sm}{q:Int}{blocks:List (List Sm)}{ts:List (List ar×Int)}(A8:blocks.length<99999990)(AQ:ts.length<=blocks.length)(AR:blocks.length<=ts.length+1)
 (AJ:∀(i:Nat)(t:List ar×Int),ts[i]?=some t->∀m:Mk,0<=m.most->m.out.length+t.1.length<99999990->TW p (m.aD t.1 t.2) 1 s q (.ret (.bq [])) (aj ctx 169 [.d (.int .i64 i),.ptr 0 0 0,.ptr 1 0 0,.ptr 2 0 0] [.box [.ptr 3 0 0],bA s,.box [.d (.int .i64 q)],jX p m 0 4 5 6 0 0 0,.vec 5 (m.out.map cH),.vv (m.ex.map iV) none,.vec 1 (m.lv.map eQ)]))
 (AC:∀b∈blocks,zr p lp b) (AD:∀b∈blocks,∀c,0<=c->c<=(ag p.vars b c).2) (k:Kt) (Q:Mk->List Int->bS->Prop)
 (A9:∀(Y:Env) M E v1 v2 v3 I,Q M E (k (.exit 0) ⟨49,aB,(0,true,.ptr 0 0 0)::(1,true,.d (.list (blocks.map dZ)))::(2,true,.d (.int .i64 ts.length))::(3,true,.fn 169 [.ptr 1 0 0,.ptr 2 0 0,.ptr 3 0 0])::(8,true,.vec 500 I 0 E.length)::Y,G8 p M s q E v1 v2 v3 I⟩)):
 ∀(D O:List (List Sm))(H U:List (List ar×Int))(m:Mk)(E:List Int)(v1 v2 v3 I:Nat),blocks=O++D->ts=U++H->(O.length=U.length\/(H=[]/\D=[]))->0<=m.most->0<=m.cells->kS m->(lp=true->m.ex≠[])->
 m.out.length+(cF (eB H) (ay p.vars D m.cells).1).length<99999990->(ay p.vars D m.cells).2<99999990->(∀b∈blocks,m.ex.length+kT b<99999990)->E.length+D.length<99999980->
 Q (m.eG H (ay p.vars D m.cells).1 (ay p.vars D m.cells).2 (max (eR H) (cS D))) (E++iv m.out.length (eB H) (ay p.vars D m.cells).1)
  (aL ctx 99 (.loop (Code.at (bh f99) [1,0,1,0,0])) ⟨49,aB,[(0,true,.ptr 0 0 0),(1,true,.d (.list (blocks.map dZ))),(2,true,.d (.int .i64 ts.length)),(3,true,.fn 169 [.ptr 1 0 0,.ptr 2 0 0,.ptr 3 0 0]),(8,true,.vec 500 I 0 E.length),(12,true,.d (.list (blocks.map dZ))),(13,true,.d (.int .i64 blocks.length)),(14,true,.d (.int .i64 O.length))],G8 p m s q E v1 v2 v3 I⟩ k)
 |[],O,H,U,m,E,v1,v2,v3,I,T,V,J,hm,A2,A3,hex,Z,A0,A4,AE=>by
  have AF:H=[]:=by
   rcases J with J|J
   .have A5:blocks.length=O.length:=by rw[T];simp
    have a2:ts.length=U.length+H.length:=by rw[V];simp
    exact yZ (by omega)
   .exact J.1
  subst AF;have AK:(ay p.vars [] m.cells)=([],m.cells):=by simp[ay]
  have y:m.eG [] (ay p.vars [] m.cells).1 (ay p.vars [] m.cells).2 (max (eR []) (cS []))=m:=by
   rw[AK];have:=QP m [] hm;simpa [eR,cS]using this
  have A':E++iv m.out.length (eB []) (ay p.vars [] m.cells).1=E:=by rw[AK];simp[iv]
  rw[y,A'];exact Ib E k (Q m E) (λY v1 v2 v3 I=>A9 Y m E v1 v2 v3 I) v1 v2 v3 I (by rw[T];simp)
 |b::D,O,[],U,m,E,v1,v2,v3,I,T,V,J,hm,A2,A3,hex,Z,A0,A4,AE=>by
  have J:O.length=U.length:=by
   rcases J with J|J
   .exact J
   .cases J.2
  have A5:blocks.length=O.length+(D.length+1):=by rw[T];simp
  have a2:ts.length=U.length:=by rw[V];simp
  have A6:D=[]:=yZ (by omega);subst A6;have AG:ay p.vars [b] m.cells=([(ag p.vars b m.cells).1],(ag p.vars b m.cells).2):=by simp[ay]
  rw[AG]at Z A0⊢;have Aa:m.out.length+(ag p.vars b m.cells).1.length<99999990:=by simpa [eB,cF]using Z
  have A1:=AC b (by rw[T];simp) m hm A2 A3 hex (by omega) A0 (A4 b (by rw[T];simp));have y:m.eG [] [(ag p.vars b m.cells).1] (ag p.vars b m.cells).2 (max (eR []) (cS [b]))=m.aX (ag p.vars b m.cells).1 (ag p.vars b m.cells).2 (bJ b):=by
   rw[<-TV];exact qz (by simp only[eR,cS];omega)
  have A':E++iv m.out.length (eB []) [(ag p.vars b m.cells).1]=E:=by simp[eB,iv]
  simp only
  rw[y,A'];refine af1 (i:=O.length) (b:=b) (by omega) (by simp[T]) (by omega) (by omega) (by omega) A8 A1 E k (Q _ E) (λv1 v2 v3 I=>?_) v1 v2 v3 I;exact Ib E k (Q _ E) (λY v1 v2 v3 I=>A9 Y _ E v1 v2 v3 I) v1 v2 v3 I (i:=O.length+1) (by omega)
 |b::D,O,t::H,U,m,E,v1,v2,v3,I,T,V,J,hm,A2,A3,hex,Z,A0,A4,AE=>by
  have J:O.length=U.length:=by
   rcases J with J|J
   .exact J
   .cases J.2
  have A5:blocks.length=O.length+(D.length+1):=by rw[T];simp
  have a2:ts.length=U.length+(H.length+1):=by rw[V];simp
  have AG:ay p.vars (b::D) m.cells=((ag p.vars b m.cells).1::(ay p.vars D (ag p.vars b m.cells).2).1,(ay p.vars D (ag p.vars b m.cells).2).2):=by simp[ay]
  rw[AG]at Z A0⊢;have AS:=ZK t.1 (eB H) (ag p.vars b m.cells).1 (ay p.vars D (ag p.vars b m.cells).2).1;have Ab:=AD b (by rw[T];simp) m.cells A2;have Ac:=Dk D (ag p.vars b m.cells).2 (by omega) (λb AH=>AD b (by rw[T];simp[AH]));have AT:eB (t::H)=t.1::eB H:=rfl;rw[AT]at Z⊢;simp only at A0 Z;have AL:=AJ O.length t (by rw[V,J];simp) m hm (by omega);have AU:0<=(m.iY t).most:=by simp[Mk.iY,Mk.aD,Mk.put];omega
  have A1:=AC b (by rw[T];simp) (m.iY t) AU A2 ((A3.aD _ _).put _ _) hex (by rw[Gq];show _+(ag p.vars b m.cells).1.length<_;omega) (by show (ag p.vars b m.cells).2<_;omega) (A4 b (by rw[T];simp));have A1:iX p ((m.iY t).aX (ag p.vars b m.cells).1 (ag p.vars b m.cells).2 (bJ b)) 0 (.ret (.bq [])) (aj ctx 31 [.ptr 0 0 0,.d (.list (b.map bZ))] (iW p ((m.aD t.1 t.2).put (ins 10 0 0 0 0) 0) 0)):=A1;have A7:(m.aD t.1 t.2).out.length=m.out.length+t.1.length:=by simp[Mk.aD]
  have AA:((m.iY t).aX (ag p.vars b m.cells).1 (ag p.vars b m.cells).2 (bJ b)).out.length=m.out.length+t.1.length+1+(ag p.vars b m.cells).1.length:=by
   show ((m.iY t).out++dE _ _).length=_;rw[acY,qO,Gq]
  have AM:((m.aD t.1 t.2).out.length:Int)=((m.out.length+t.1.length:Nat):Int):=by rw[A7]
  by_cases A6:D=[]
  .subst A6;have AF:H=[]:=yZ (by simp at A5;omega);subst AF;have AV:ay p.vars [] (ag p.vars b m.cells).2=([],(ag p.vars b m.cells).2):=by simp[ay]
   rw[AV];have y:m.eG [t] [(ag p.vars b m.cells).1] (ag p.vars b m.cells).2 (max (eR [t]) (cS [b]))=((m.iY t).aX (ag p.vars b m.cells).1 (ag p.vars b m.cells).2 (bJ b)).lead (m.aD t.1 t.2).out.length:=by
    rw[AM,TS m t [] _ _ _ hm];exact Ap (by simp only[eR,cS];omega)
   have A':E++iv m.out.length (t.1::eB []) [(ag p.vars b m.cells).1]=E:=by simp[eB,iv]
   simp only
   rw[y,A'];refine af0 (i:=O.length) (b:=b) (by omega) (by simp[T]) (by omega) (by omega) (by simp at A5;omega) A8 AL (by rw[A7];omega) A1 (by rw[A7,AA];omega) E (by omega) k (Q _ E) (λv1 v2 v3 I=>?_) v1 v2 v3 I;exact Ib E k (Q _ E) (λY v1 v2 v3 I=>A9 Y _ E v1 v2 v3 I) v1 v2 v3 I (i:=O.length+1) (by simp at A5;omega)
  .have Ad:0<D.length:=by
    cases D with
    |nil=>exact absurd rfl A6
    |cons _ _=>simp
   have AI:(ay p.vars D (ag p.vars b m.cells).2).1≠[]:=λh=>A6 (QQ.1 h);rw[aaf AI]at AS;refine afZ (i:=O.length) (b:=b) (by omega) (by simp[T]) (by omega) (by omega) (by omega) A8 AL (by rw[A7];omega) A1 (by rw[A7,AA];omega) E (by omega) k (Q _ _) (λv1 v2 v3 I=>?_) v1 v2 v3 I;have y:=TU m t H (ag p.vars b m.cells).1 (ay p.vars D (ag p.vars b m.cells).2).1 (ag p.vars b m.cells).2 (ay p.vars D (ag p.vars b m.cells).2).2 (bJ b) (max (eR H) (cS D)) hm AI;have A':iv m.out.length (t.1::eB H) ((ag p.vars b m.cells).1::(ay p.vars D (ag p.vars b m.cells).2).1)=((m.out.length+t.1.length+1+(ag p.vars b m.cells).1.length:Nat):Int)::iv (m.out.length+t.1.length+2+(ag p.vars b m.cells).1.length) (eB H) (ay p.vars D (ag p.vars b m.cells).2).1:=by
    simp only[iv,aaf AI]
   have AN:((((m.iY t).aX (ag p.vars b m.cells).1 (ag p.vars b m.cells).2 (bJ b)).put (ins 9 0 0 0 0) 0).lead (m.out.length+t.1.length:Nat)).out.length=m.out.length+t.1.length+2+(ag p.vars b m.cells).1.length:=by
    rw[H7];show (((m.iY t).aX _ _ _).out++_).length=_;rw[acY,AA];simp;omega
   have AB:((((m.iY t).aX (ag p.vars b m.cells).1 (ag p.vars b m.cells).2 (bJ b)).put (ins 9 0 0 0 0) 0).lead (m.out.length+t.1.length:Nat)).cells=(ag p.vars b m.cells).2:=rfl;have AO:((((m.iY t).aX (ag p.vars b m.cells).1 (ag p.vars b m.cells).2 (bJ b)).put (ins 9 0 0 0 0) 0).lead (m.out.length+t.1.length:Nat)).ex.length=m.ex.length:=by
    show (jY m.ex _).length=_;simp
   have AW:0<=((((m.iY t).aX (ag p.vars b m.cells).1 (ag p.vars b m.cells).2 (bJ b)).put (ins 9 0 0 0 0) 0).lead (m.out.length+t.1.length:Nat)).most:=by
    simp[Mk.lead,Mk.put,Mk.aX];omega
   have AX:m.eG (t::H) ((ag p.vars b m.cells).1::(ay p.vars D (ag p.vars b m.cells).2).1) (ay p.vars D (ag p.vars b m.cells).2).2 (max (eR (t::H)) (cS (b::D)))=((((m.iY t).aX (ag p.vars b m.cells).1 (ag p.vars b m.cells).2 (bJ b)).put (ins 9 0 0 0 0) 0).lead (m.out.length+t.1.length:Nat)).eG H (ay p.vars D (ag p.vars b m.cells).2).1 (ay p.vars D (ag p.vars b m.cells).2).2 (max (eR H) (cS D)):=by
    rw[y];exact Ap (by simp only[eR,cS];omega)
   have ih:=QT A8 AQ AR AJ AC AD k Q A9 D (O++[b]) H (U++[t]) ((((m.iY t).aX (ag p.vars b m.cells).1 (ag p.vars b m.cells).2 (bJ b)).put (ins 9 0 0 0 0) 0).lead (m.out.length+t.1.length:Nat)) (E++[((m.out.length+t.1.length+1+(ag p.vars b m.cells).1.length:Nat):Int)]) v1 v2 v3 I (by simp[T]) (by simp[V]) (.inl (by simp[J])) AW (by rw[AB];omega) ((((((A3.aD _ _).put _ _).aX _ _ _).put _ _).lead _)) (λh=>by
    intro AY;have:=AO;rw[AY]at this;have AZ:=hex h;cases AP:m.ex with
    |nil=>exact AZ AP
    |cons _ _=>rw[AP]at this;simp at this) (by rw[AN,AB];omega) (by rw[AB];omega) (λb AH=>by rw[AO];exact A4 b AH) (by simp at AE⊢;omega)
   rw[AN,AB]at ih;simp only
   rw[AX,A',AM,AA];have A_:E++((m.out.length+t.1.length+1+(ag p.vars b m.cells).1.length:Nat):Int)::iv (m.out.length+t.1.length+2+(ag p.vars b m.cells).1.length) (eB H) (ay p.vars D (ag p.vars b m.cells).2).1=E++[((m.out.length+t.1.length+1+(ag p.vars b m.cells).1.length:Nat):Int)]++iv (m.out.length+t.1.length+2+(ag p.vars b m.cells).1.length) (eB H) (ay p.vars D (ag p.vars b m.cells).2).1:=by simp
   rw[A_];simpa using ih
end
def J2:∀(n:Nat)(ts bs:List (List ar)),∀i∈iv n ts bs,∃k:Nat,i=k/\k<n+(nf 0 n ts bs).length
 |_,_,[],i,h=>by simp[iv]at h
 |n,[],b::r,i,h=>by
  simp only[iv,nf]at h⊢;by_cases I:r=[]
  .rw[ac1 I]at h;simp at h
  .rw[aaf I]at h⊢;rcases ac4.1 h with rfl|h
   .exact⟨_,rfl,by simp⟩
   .obtain⟨k,e,J⟩:=J2 (n+b.length+1) [] r i h;exact⟨k,e,by simp;omega⟩
 |n,t::ts,b::r,i,h=>by
  simp only[iv,nf]at h⊢;by_cases I:r=[]
  .rw[ac1 I]at h;simp at h
  .rw[aaf I]at h⊢;rcases ac4.1 h with rfl|h
   .exact⟨_,rfl,by simp;omega⟩
   .obtain⟨k,e,J⟩:=J2 (n+t.length+2+b.length) ts r i h;exact⟨k,e,by simp;omega⟩
def sU{m:Mk}{ts:List (List ar×Int)}{bs:List (List ar)}{c t:Int}(Z:∀x∈eB ts,Flat x):(m.eG ts bs c t).dp (iv m.out.length (eB ts) bs)=m.aX (cF (eB ts) bs) c t:=by
 unfold Mk.dp Mk.eG Mk.aX;simp only[Mk.mk.injEq,alC,and_true];refine⟨?_,by rw[JI (by decide) _ _ _ Z],by rw[JI (by decide) _ _ _ Z]⟩;have:=ae3 (pre:=m.out) rfl (ts:=eB ts) (bs:=bs) Z;rw[<-this];congr 1;simp[BW]
def Gr:∀(n:Nat)(ts bs:List (List ar)),(iv n ts bs).length<=bs.length
 |_,_,[]=>by simp[iv]
 |n,[],b::r=>by
  simp only[iv];split
  .simp
  .have:=Gr (n+b.length+1) [] r;simp;omega
 |n,t::ts,b::r=>by
  simp only[iv];split
  .simp
  .have:=Gr (n+t.length+2+b.length) ts r;simp;omega
def MkJ(p:Pg)(m:Mk)(s:Sm)(r:bS):Prop:=∃v1 v2 v3,r=some (.ret (.bq []),[(0,jX p m 0 3 4 5 v1 v2 v3),(0,.box [.ptr 0 0 0]),(0,bA s),(v1,.vec 5 (m.out.map cH)),(v2,.vv (m.ex.map iV) none),(v3,.vec 1 (m.lv.map eQ))])
def MkK(p:Pg)(m:Mk)(s:Sm)(q:Int)(r:bS):Prop:=∃v1 v2 v3,r=some (.ret (.bq []),[(0,jX p m 0 4 5 6 v1 v2 v3),(0,.box [.ptr 0 0 0]),(0,bA s),(0,.box [.d (.int .i64 q)]),(v1,.vec 5 (m.out.map cH)),(v2,.vv (m.ex.map iV) none),(v3,.vec 1 (m.lv.map eQ))])
section
variable {p:Pg} {lp:Bool}
theorem Wn{s:Sm}{blocks:List (List Sm)}{ts:List (List ar×Int)}(AE:blocks.length<99999980)(y:ts.length<=blocks.length)(A':blocks.length<=ts.length+1)(D:∀x∈eB ts,Flat x)
 (A0:∀(i:Nat)(t:List ar×Int),ts[i]?=some t->∀m:Mk,0<=m.most->m.out.length+t.1.length<99999990->MU p (m.aD t.1 t.2) 1 s (.ret (.bq [])) (aj ctx 100 [.d (.int .i64 i),.ptr 0 0 0,.ptr 1 0 0] [.box [.ptr 2 0 0],bA s,jX p m 0 3 4 5 0 0 0,.vec 5 (m.out.map cH),.vv (m.ex.map iV) none,.vec 1 (m.lv.map eQ)]))
 (A1:∀b∈blocks,zr p lp b) (A2:∀b∈blocks,∀c,0<=c->c<=(ag p.vars b c).2) (m:Mk) (hm:0<=m.most) (A3:0<=m.cells) (A4:kS m) (hex:lp=true->m.ex≠[])
 (A5:m.out.length+(cF (eB ts) (ay p.vars blocks m.cells).1).length<99999990) (A6:(ay p.vars blocks m.cells).2<99999990) (A7:∀b∈blocks,m.ex.length+kT b<99999990):
 MkJ p (m.aX (cF (eB ts) (ay p.vars blocks m.cells).1) (ay p.vars blocks m.cells).2 (max (eR ts) (cS blocks))) s
  (aj ctx 99 [.ptr 0 0 0,.d (.list (blocks.map dZ)),.d (.int .i64 ts.length),.fn 100 [.ptr 1 0 0,.ptr 2 0 0]] [jX p m 0 3 4 5 0 0 0,.box [.ptr 0 0 0],bA s,.vec 5 (m.out.map cH),.vv (m.ex.map iV) none,.vec 1 (m.lv.map eQ)]):=by
 have O:=λk Q A8 v1 v2 v3 T=>QR (by omega) y A' A0 A1 A2 k Q A8 blocks [] ts [] m [] v1 v2 v3 T rfl rfl (.inl rfl) hm A3 A4 hex A5 A6 A7 (by simp;omega);have A9:(iv m.out.length (eB ts) (ay p.vars blocks m.cells).1).length<100000000:=by
  have:=Gr m.out.length (eB ts) (ay p.vars blocks m.cells).1;rw[Ao]at this;omega
 have AA:(m.eG ts (ay p.vars blocks m.cells).1 (ay p.vars blocks m.cells).2 (max (eR ts) (cS blocks))).out.length<100000000:=by
  simp only[Mk.eG,acY,BW];omega
 have AB:Pl (m.eG ts (ay p.vars blocks m.cells).1 (ay p.vars blocks m.cells).2 (max (eR ts) (cS blocks))).out.length (iv m.out.length (eB ts) (ay p.vars blocks m.cells).1):=by
  intro i hi;obtain⟨k,e,J⟩:=J2 _ _ _ i hi;exact⟨k,e,by simpa [Mk.eG]using J⟩
 have H:=Ak p (m.eG ts (ay p.vars blocks m.cells).1 (ay p.vars blocks m.cells).2 (max (eR ts) (cS blocks))) 0 _ A9 AA AB;have U:(m.eG ts (ay p.vars blocks m.cells).1 (ay p.vars blocks m.cells).2 (max (eR ts) (cS blocks))).ex=(m.aX (cF (eB ts) (ay p.vars blocks m.cells).1) (ay p.vars blocks m.cells).2 (max (eR ts) (cS blocks))).ex:=by rw[<-sU D];rfl
 have V:(m.eG ts (ay p.vars blocks m.cells).1 (ay p.vars blocks m.cells).2 (max (eR ts) (cS blocks))).lv=(m.aX (cF (eB ts) (ay p.vars blocks m.cells).1) (ay p.vars blocks m.cells).2 (max (eR ts) (cS blocks))).lv:=by rw[<-sU D];rfl
 rw[sU D]at H;generalize m.aX (cF (eB ts) (ay p.vars blocks m.cells).1) (ay p.vars blocks m.cells).2 (max (eR ts) (cS blocks))=M at*;generalize m.eG ts (ay p.vars blocks m.cells).1 (ay p.vars blocks m.cells).2 (max (eR ts) (cS blocks))=N at*;generalize iv m.out.length (eB ts) (ay p.vars blocks m.cells).1=E at*;rw[ad5 (by simp)];simp[U,V]at H;simp[f99]at O⊢;refine O _ (λX F r=>X=N->F=E->MkJ p M s r) (λY X F v1 v2 v3 T AC AD=>?_) _ _ _ _ rfl rfl;subst AC AD;simp[f99,H,U,V];exact⟨_,_,_,rfl⟩
theorem Wo{s:Sm}{q:Int}{blocks:List (List Sm)}{ts:List (List ar×Int)}(AE:blocks.length<99999980)(y:ts.length<=blocks.length)(A':blocks.length<=ts.length+1)(D:∀x∈eB ts,Flat x)
 (A0:∀(i:Nat)(t:List ar×Int),ts[i]?=some t->∀m:Mk,0<=m.most->m.out.length+t.1.length<99999990->TW p (m.aD t.1 t.2) 1 s q (.ret (.bq [])) (aj ctx 169 [.d (.int .i64 i),.ptr 0 0 0,.ptr 1 0 0,.ptr 2 0 0] [.box [.ptr 3 0 0],bA s,.box [.d (.int .i64 q)],jX p m 0 4 5 6 0 0 0,.vec 5 (m.out.map cH),.vv (m.ex.map iV) none,.vec 1 (m.lv.map eQ)]))
 (A1:∀b∈blocks,zr p lp b) (A2:∀b∈blocks,∀c,0<=c->c<=(ag p.vars b c).2) (m:Mk) (hm:0<=m.most) (A3:0<=m.cells) (A4:kS m) (hex:lp=true->m.ex≠[])
 (A5:m.out.length+(cF (eB ts) (ay p.vars blocks m.cells).1).length<99999990) (A6:(ay p.vars blocks m.cells).2<99999990) (A7:∀b∈blocks,m.ex.length+kT b<99999990):
 MkK p (m.aX (cF (eB ts) (ay p.vars blocks m.cells).1) (ay p.vars blocks m.cells).2 (max (eR ts) (cS blocks))) s q
  (aj ctx 99 [.ptr 0 0 0,.d (.list (blocks.map dZ)),.d (.int .i64 ts.length),.fn 169 [.ptr 1 0 0,.ptr 2 0 0,.ptr 3 0 0]] [jX p m 0 4 5 6 0 0 0,.box [.ptr 0 0 0],bA s,.box [.d (.int .i64 q)],.vec 5 (m.out.map cH),.vv (m.ex.map iV) none,.vec 1 (m.lv.map eQ)]):=by
 have O:=λk Q A8 v1 v2 v3 T=>QT (by omega) y A' A0 A1 A2 k Q A8 blocks [] ts [] m [] v1 v2 v3 T rfl rfl (.inl rfl) hm A3 A4 hex A5 A6 A7 (by simp;omega);have A9:(iv m.out.length (eB ts) (ay p.vars blocks m.cells).1).length<100000000:=by
  have:=Gr m.out.length (eB ts) (ay p.vars blocks m.cells).1;rw[Ao]at this;omega
 have AA:(m.eG ts (ay p.vars blocks m.cells).1 (ay p.vars blocks m.cells).2 (max (eR ts) (cS blocks))).out.length<100000000:=by
  simp only[Mk.eG,acY,BW];omega
 have AB:Pl (m.eG ts (ay p.vars blocks m.cells).1 (ay p.vars blocks m.cells).2 (max (eR ts) (cS blocks))).out.length (iv m.out.length (eB ts) (ay p.vars blocks m.cells).1):=by
  intro i hi;obtain⟨k,e,J⟩:=J2 _ _ _ i hi;exact⟨k,e,by simpa [Mk.eG]using J⟩
 have H:=Ak p (m.eG ts (ay p.vars blocks m.cells).1 (ay p.vars blocks m.cells).2 (max (eR ts) (cS blocks))) 0 _ A9 AA AB;have U:(m.eG ts (ay p.vars blocks m.cells).1 (ay p.vars blocks m.cells).2 (max (eR ts) (cS blocks))).ex=(m.aX (cF (eB ts) (ay p.vars blocks m.cells).1) (ay p.vars blocks m.cells).2 (max (eR ts) (cS blocks))).ex:=by rw[<-sU D];rfl
 have V:(m.eG ts (ay p.vars blocks m.cells).1 (ay p.vars blocks m.cells).2 (max (eR ts) (cS blocks))).lv=(m.aX (cF (eB ts) (ay p.vars blocks m.cells).1) (ay p.vars blocks m.cells).2 (max (eR ts) (cS blocks))).lv:=by rw[<-sU D];rfl
 rw[sU D]at H;generalize m.aX (cF (eB ts) (ay p.vars blocks m.cells).1) (ay p.vars blocks m.cells).2 (max (eR ts) (cS blocks))=M at*;generalize m.eG ts (ay p.vars blocks m.cells).1 (ay p.vars blocks m.cells).2 (max (eR ts) (cS blocks))=N at*;generalize iv m.out.length (eB ts) (ay p.vars blocks m.cells).1=E at*;rw[ad5 (by simp)];simp[U,V]at H;simp[f99]at O⊢;refine O _ (λX F r=>X=N->F=E->MkK p M s q r) (λY X F v1 v2 v3 T AC AD=>?_) _ _ _ _ rfl rfl;subst AC AD;simp[f99,H,U,V];exact⟨_,_,_,rfl⟩
end
def Mk.J3(m:Mk)(t b:List ar)(c u:Int):Mk:=
 ⟨m.out++(ins 11 0 0 0 0::t++(ins 10 (m.out.length+t.length+3+b.length) 0 0 0::dE (m.out.length+t.length+2) b++[ins 9 m.out.length 0 0 0])),c,max m.most u,jY m.ex (dz (-1) (m.out.length+t.length+2) b),m.lv++dz (-2) (m.out.length+t.length+2) b⟩
def Mk.J4(m:Mk)(t b:List ar)(c u:Int):Mk:=
 ⟨m.out++(dE m.out.length b++(ins 11 0 0 0 0::t++[ins 10 m.out.length 0 0 0])),c,max m.most u,jY m.ex (dz (-1) m.out.length b),m.lv++dz (-2) m.out.length b⟩
section
variable {p:Pg} (M:p.vars.length<=1000) (O:∀v∈p.vars,dr v=true)
include M O
theorem alD{to val:Ex}{b:List Sm}{line:Int}(T:bm val=true)(U:(aE p.vars val).e=0)(V:zr p true b)(m:Mk)(hm:0<=m.most)(Y:0<=m.cells)(Z:kS m)(hex:m.ex≠[])
 (A1:m.out.length+(ai p.vars val).1.length+(ag p.vars b m.cells).1.length+3<99999990) (A2:(ag p.vars b m.cells).2<99999990) (A3:m.ex.length+kT b<99999990):
 MU p (m.J3 (ai p.vars val).1 (ag p.vars b m.cells).1 (ag p.vars b m.cells).2 (max (aV 0 val) (bJ b))) 0 (.mk 5 [] to val [] [] [] [b] line) (.ret (.bq [])) (aj ctx 172 [.ptr 0 0 0,.ptr 1 0 0] [.box [.ptr 2 0 0],bA (.mk 5 [] to val [] [] [] [b] line),jX p m 0 3 4 5 0 0 0,.vec 5 (m.out.map cH),.vv (m.ex.map iV) none,.vec 1 (m.lv.map eQ)]):=by
 have g0:=JV p m 0;obtain⟨A4,a2,a3,g1⟩:=qx p m 0 (by omega) (by decide);have H:(m.put (ins 11 0 0 0 0) 0).out.length=m.out.length+1:=by simp[Mk.put]
 obtain⟨A5,A6,A7,g2⟩:=pf M O val T U (m.put (ins 11 0 0 0 0) 0) 0 (by omega) (by omega) (by simp[Mk.put];omega) (by rw[H];omega);have D:((m.put (ins 11 0 0 0 0) 0).aD (ai p.vars val).1 (aV 0 val)).out.length=m.out.length+1+(ai p.vars val).1.length:=by
  show ((m.put (ins 11 0 0 0 0) 0).out++_).length=_;rw[acY,H]
 obtain⟨A8,A9,AA,g3⟩:=Dh p ((m.put (ins 11 0 0 0 0) 0).aD (ai p.vars val).1 (aV 0 val)) 1 0 (by rw[D];omega) (by decide);rw[show (1:Int)+ -1=0 by omega]at g3;have I:(((m.put (ins 11 0 0 0 0) 0).aD (ai p.vars val).1 (aV 0 val)).put (ins 10 0 0 0 0) 0).out.length=m.out.length+(ai p.vars val).1.length+2:=by
  show (((m.put (ins 11 0 0 0 0) 0).aD (ai p.vars val).1 (aV 0 val)).out++_).length=_;rw[acY,D];simp;omega
 obtain⟨d1,d2,d3,g4⟩:=V (((m.put (ins 11 0 0 0 0) 0).aD (ai p.vars val).1 (aV 0 val)).put (ins 10 0 0 0 0) 0) (by simp[Mk.put,Mk.aD];omega) Y (((Z.put _ _).aD _ _).put _ _) (λ_=>hex) (by rw[I];show _+(ag p.vars b m.cells).1.length<_;omega) (by show (ag p.vars b m.cells).2<_;omega) (by show m.ex.length+_<_;omega);have A':((((m.put (ins 11 0 0 0 0) 0).aD (ai p.vars val).1 (aV 0 val)).put (ins 10 0 0 0 0) 0).aX (ag p.vars b m.cells).1 (ag p.vars b m.cells).2 (bJ b)).out.length=m.out.length+(ai p.vars val).1.length+2+(ag p.vars b m.cells).1.length:=by
  show ((((m.put (ins 11 0 0 0 0) 0).aD (ai p.vars val).1 (aV 0 val)).put (ins 10 0 0 0 0) 0).out++dE _ _).length=_;rw[acY,I,qO]
 obtain⟨AE,AF,A0,g5⟩:=JW p ((((m.put (ins 11 0 0 0 0) 0).aD (ai p.vars val).1 (aV 0 val)).put (ins 10 0 0 0 0) 0).aX (ag p.vars b m.cells).1 (ag p.vars b m.cells).2 (bJ b)) 0 m.out.length (by rw[A'];omega) (by decide);have y:(((((m.put (ins 11 0 0 0 0) 0).aD (ai p.vars val).1 (aV 0 val)).put (ins 10 0 0 0 0) 0).aX (ag p.vars b m.cells).1 (ag p.vars b m.cells).2 (bJ b)).put (ins 9 m.out.length 0 0 0) 0).out.length=m.out.length+(ai p.vars val).1.length+3+(ag p.vars b m.cells).1.length:=by
  show (((((m.put (ins 11 0 0 0 0) 0).aD (ai p.vars val).1 (aV 0 val)).put (ins 10 0 0 0 0) 0).aX (ag p.vars b m.cells).1 (ag p.vars b m.cells).2 (bJ b)).out++_).length=_;rw[acY,A'];simp;omega
 have g6:=wH p (((((m.put (ins 11 0 0 0 0) 0).aD (ai p.vars val).1 (aV 0 val)).put (ins 10 0 0 0 0) 0).aX (ag p.vars b m.cells).1 (ag p.vars b m.cells).2 (bJ b)).put (ins 9 m.out.length 0 0 0) 0) 0 (m.out.length+1+(ai p.vars val).1.length) (by rw[y];omega) (by rw[y];omega);have J:(((((m.put (ins 11 0 0 0 0) 0).aD (ai p.vars val).1 (aV 0 val)).put (ins 10 0 0 0 0) 0).aX (ag p.vars b m.cells).1 (ag p.vars b m.cells).2 (bJ b)).put (ins 9 m.out.length 0 0 0) 0).lead (m.out.length+1+(ai p.vars val).1.length:Nat)=m.J3 (ai p.vars val).1 (ag p.vars b m.cells).1 (ag p.vars b m.cells).2 (max (aV 0 val) (bJ b)):=by
  unfold Mk.lead;rw[y];unfold Mk.J3 Mk.aX;rw[I];simp only[Mk.put,Mk.aD,Mk.mk.injEq,alC,and_true];refine⟨?_,by have:=pr 0 val;omega⟩;have:=Dj m.out (ins 11 0 0 0 0::(ai p.vars val).1) (dE (m.out.length+(ai p.vars val).1.length+2) (ag p.vars b m.cells).1++[ins 9 m.out.length 0 0 0]) (ins 10 0 0 0 0) ((m.out.length+(ai p.vars val).1.length+3+(ag p.vars b m.cells).1.length:Nat):Int) ((m.out.length+1+(ai p.vars val).1.length:Nat):Int) (by simp;omega);have A0:m.out++[ins 11 0 0 0 0]++(ai p.vars val).1++[ins 10 0 0 0 0]++dE (m.out.length+(ai p.vars val).1.length+2) (ag p.vars b m.cells).1++[ins 9 m.out.length 0 0 0]=m.out++(ins 11 0 0 0 0::(ai p.vars val).1)++ins 10 0 0 0 0::(dE (m.out.length+(ai p.vars val).1.length+2) (ag p.vars b m.cells).1++[ins 9 m.out.length 0 0 0]):=by simp
  rw[A0,this];simp[ins]
 rw[D]at g3;rw[J]at g6;generalize m.J3 (ai p.vars val).1 (ag p.vars b m.cells).1 (ag p.vars b m.cells).2 (max (aV 0 val) (bJ b))=AG at*;generalize ((((m.put (ins 11 0 0 0 0) 0).aD (ai p.vars val).1 (aV 0 val)).put (ins 10 0 0 0 0) 0).aX (ag p.vars b m.cells).1 (ag p.vars b m.cells).2 (bJ b)).put (ins 9 m.out.length 0 0 0) 0=AH at*;have g4:aj ctx 31 [.ptr 0 0 0,.d (.list (b.map bZ))] (iW p (((m.put (ins 11 0 0 0 0) 0).aD (ai p.vars val).1 (aV 0 val)).put (ins 10 0 0 0 0) 0) 0)=some (.ret (.bq []),TQ p ((((m.put (ins 11 0 0 0 0) 0).aD (ai p.vars val).1 (aV 0 val)).put (ins 10 0 0 0 0) 0).aX (ag p.vars b m.cells).1 (ag p.vars b m.cells).2 (bJ b)) 0 d1 d2 d3):=g4;generalize (((m.put (ins 11 0 0 0 0) 0).aD (ai p.vars val).1 (aV 0 val)).put (ins 10 0 0 0 0) 0).aX (ag p.vars b m.cells).1 (ag p.vars b m.cells).2 (bJ b)=AB at*;generalize ((m.put (ins 11 0 0 0 0) 0).aD (ai p.vars val).1 (aV 0 val)).put (ins 10 0 0 0 0) 0=AC at*;generalize (m.put (ins 11 0 0 0 0) 0).aD (ai p.vars val).1 (aV 0 val)=M2 at*;generalize m.put (ins 11 0 0 0 0) 0=AD at*;rw[Zq (by simp)];simp at g0 g1 g2 g3 g4 g5 g6;simp[f172,ak,dZ,g0,g1,g2,g3,g4,g5,g6];exact⟨_,_,_,rfl⟩
theorem alE{to val:Ex}{b:List Sm}{line:Int}(T:bm val=true)(U:(aE p.vars val).e=0)(V:zr p true b)(m:Mk)(hm:0<=m.most)(Y:0<=m.cells)(Z:kS m)(hex:m.ex≠[])
 (A1:m.out.length+(ai p.vars val).1.length+(ag p.vars b m.cells).1.length+2<99999990) (A2:(ag p.vars b m.cells).2<99999990) (A3:m.ex.length+kT b<99999990):
 MU p (m.J4 (ai p.vars val).1 (ag p.vars b m.cells).1 (ag p.vars b m.cells).2 (max (aV 0 val) (bJ b))) 0 (.mk 6 [] to val [] [] [] [b] line) (.ret (.bq [])) (aj ctx 172 [.ptr 0 0 0,.ptr 1 0 0] [.box [.ptr 2 0 0],bA (.mk 6 [] to val [] [] [] [b] line),jX p m 0 3 4 5 0 0 0,.vec 5 (m.out.map cH),.vv (m.ex.map iV) none,.vec 1 (m.lv.map eQ)]):=by
 have g0:=JV p m 0;obtain⟨d1,d2,d3,g1⟩:=V m hm Y Z (λ_=>hex) (by omega) (by omega) (by omega);have H:(m.aX (ag p.vars b m.cells).1 (ag p.vars b m.cells).2 (bJ b)).out.length=m.out.length+(ag p.vars b m.cells).1.length:=by
  show (m.out++dE _ _).length=_;rw[acY,qO]
 obtain⟨A4,a2,a3,g2⟩:=qx p (m.aX (ag p.vars b m.cells).1 (ag p.vars b m.cells).2 (bJ b)) 0 (by rw[H];omega) (by decide);have D:((m.aX (ag p.vars b m.cells).1 (ag p.vars b m.cells).2 (bJ b)).put (ins 11 0 0 0 0) 0).out.length=m.out.length+(ag p.vars b m.cells).1.length+1:=by
  show ((m.aX (ag p.vars b m.cells).1 (ag p.vars b m.cells).2 (bJ b)).out++_).length=_;rw[acY,H];rfl
 obtain⟨A5,A6,A7,g3⟩:=pf M O val T U ((m.aX (ag p.vars b m.cells).1 (ag p.vars b m.cells).2 (bJ b)).put (ins 11 0 0 0 0) 0) 0 (by omega) (by omega) (by simp[Mk.put,Mk.aX];omega) (by rw[D];omega);have I:(((m.aX (ag p.vars b m.cells).1 (ag p.vars b m.cells).2 (bJ b)).put (ins 11 0 0 0 0) 0).aD (ai p.vars val).1 (aV 0 val)).out.length=m.out.length+(ag p.vars b m.cells).1.length+1+(ai p.vars val).1.length:=by
  show (((m.aX (ag p.vars b m.cells).1 (ag p.vars b m.cells).2 (bJ b)).put (ins 11 0 0 0 0) 0).out++_).length=_;rw[acY,D]
 obtain⟨A8,A9,AA,g4⟩:=Dh p (((m.aX (ag p.vars b m.cells).1 (ag p.vars b m.cells).2 (bJ b)).put (ins 11 0 0 0 0) 0).aD (ai p.vars val).1 (aV 0 val)) 1 m.out.length (by rw[I];omega) (by decide);rw[show (1:Int)+ -1=0 by omega]at g4;have J:(((m.aX (ag p.vars b m.cells).1 (ag p.vars b m.cells).2 (bJ b)).put (ins 11 0 0 0 0) 0).aD (ai p.vars val).1 (aV 0 val)).put (ins 10 m.out.length 0 0 0) 0=m.J4 (ai p.vars val).1 (ag p.vars b m.cells).1 (ag p.vars b m.cells).2 (max (aV 0 val) (bJ b)):=by
  unfold Mk.J4 Mk.aX;simp only[Mk.put,Mk.aD,Mk.mk.injEq,alC,and_true];exact⟨by simp,by have:=pr 0 val;omega⟩
 rw[J]at g4;generalize m.J4 (ai p.vars val).1 (ag p.vars b m.cells).1 (ag p.vars b m.cells).2 (max (aV 0 val) (bJ b))=AB at*;clear J;generalize ((m.aX (ag p.vars b m.cells).1 (ag p.vars b m.cells).2 (bJ b)).put (ins 11 0 0 0 0) 0).aD (ai p.vars val).1 (aV 0 val)=AC at*;generalize (m.aX (ag p.vars b m.cells).1 (ag p.vars b m.cells).2 (bJ b)).put (ins 11 0 0 0 0) 0=M2 at*;generalize m.aX (ag p.vars b m.cells).1 (ag p.vars b m.cells).2 (bJ b)=AD at*;rw[Zq (by simp)];simp at g0 g1 g2 g3 g4;simp[f172,ak,dZ,g0,g1,g2,g3,g4];exact⟨_,_,_,rfl⟩
end
def Mk.J5(m:Mk)(at_ cell:Int)(b:List ar)(c u:Int):Mk:=
 ⟨m.out++(ins 11 0 0 0 0::ins 13 at_ cell 0 0::ins 10 (m.out.length+b.length+8) 0 0 0::dE (m.out.length+3) b++[ins 2 at_ 0 0 0,ins 2 (cell+1) 0 0 0,ins 8 0 8 0 0,ins 6 at_ 0 0 0,ins 9 m.out.length 0 0 0]),c,max m.most u,jY m.ex (dz (-1) (m.out.length+3) b),m.lv++dz (-2) (m.out.length+3) b⟩
def MkF(p:Pg)(m:Mk)(s:Sm)(at_ cell:Int)(r:bS):Prop:=∃v1 v2 v3,r=some (.ret (.bq []),[(0,.box [.ptr 4 0 0]),(0,.box [.d (.int .i64 at_)]),(0,.box [.d (.int .i64 cell)]),(0,bA s),(0,jX p m 0 5 6 7 v1 v2 v3),(v1,.vec 5 (m.out.map cH)),(v2,.vv (m.ex.map iV) none),(v3,.vec 1 (m.lv.map eQ))])
section
variable {p:Pg}
theorem alF{name:Tx}{to val:Ex}{conds:List Ex}{b:List Sm}{line at_ cell:Int}(A9:zr p true b)(m:Mk)(hm:0<=m.most)(AA:0<=m.cells)(AB:kS m)(hex:m.ex≠[])(AC:bz (cell+1))
 (AN:m.out.length+(ag p.vars b m.cells).1.length+8<99999990) (AO:(ag p.vars b m.cells).2<99999990) (AP:m.ex.length+kT b<99999990):
 MkF p (m.J5 at_ cell (ag p.vars b m.cells).1 (ag p.vars b m.cells).2 (max 2 (bJ b))) (.mk 4 name to val conds [] [] [b] line) at_ cell (aj ctx 171 [.ptr 0 0 0,.ptr 1 0 0,.ptr 2 0 0,.ptr 3 0 0] [.box [.ptr 4 0 0],.box [.d (.int .i64 at_)],.box [.d (.int .i64 cell)],bA (.mk 4 name to val conds [] [] [b] line),jX p m 0 5 6 7 0 0 0,.vec 5 (m.out.map cH),.vv (m.ex.map iV) none,.vec 1 (m.lv.map eQ)]):=by
 have g0:=JV p m 0;obtain⟨AQ,a2,a3,g1⟩:=qx p m 0 (by omega) (by decide);have AD:(m.put (ins 11 0 0 0 0) 0).out.length=m.out.length+1:=by simp[Mk.put]
 generalize J:m.put (ins 11 0 0 0 0) 0=M at g1 AD;obtain⟨AR,AS,AT,g2⟩:=mD p M 0 1 (ins 13 at_ cell 0 0) (by omega) (by decide);have A5:(M.put (ins 13 at_ cell 0 0) (0+1)).out.length=m.out.length+2:=by simp[Mk.put];omega
 generalize O:M.put (ins 13 at_ cell 0 0) (0+1)=M2 at g2 A5;obtain⟨AU,AV,AW,g3⟩:=Dh p M2 (0+1) 0 (by omega) (by decide);rw[show (0:Int)+1+ -1=0 by omega]at g3;have I:(M2.put (ins 10 0 0 0 0) 0).out.length=m.out.length+3:=by simp[Mk.put];omega
 generalize T:M2.put (ins 10 0 0 0 0) 0=D at g3 I;have f3:D.cells=m.cells/\D.ex=m.ex/\D.lv=m.lv/\0<=D.most/\D.most=max m.most 1/\D.out=m.out++[ins 11 0 0 0 0,ins 13 at_ cell 0 0,ins 10 0 0 0 0]:=by
  subst T O J;simp[Mk.put];omega
 have q3:kS D:=by
  subst T O J;exact ((AB.put _ _).put _ _).put _ _
 obtain⟨d1,d2,d3,g4⟩:=A9 D f3.2.2.2.1 (by rw[f3.1];exact AA) q3 (λ_=>by rw[f3.2.1];exact hex) (by rw[f3.1];omega) (by rw[f3.1];omega) (by rw[f3.2.1];omega);rw[f3.1]at g4;have AE:(D.aX (ag p.vars b m.cells).1 (ag p.vars b m.cells).2 (bJ b)).out.length=m.out.length+3+(ag p.vars b m.cells).1.length:=by
  show (D.out++dE _ _).length=_;rw[acY,qO,I]
 generalize U:D.aX (ag p.vars b m.cells).1 (ag p.vars b m.cells).2 (bJ b)=V at g4 AE;obtain⟨AX,A6,AY,g5⟩:=JX p V 0 at_ 1 (by omega) (by decide);rw[aaf (by decide)]at g5;have AF:(V.put (ins 2 at_ 0 0 0) (0+1)).out.length=m.out.length+4+(ag p.vars b m.cells).1.length:=by simp[Mk.put];omega
 generalize Y:V.put (ins 2 at_ 0 0 0) (0+1)=Z at g5 AF;obtain⟨AZ,A_,Aa,g6⟩:=JX p Z (0+1) (cell+1) 1 (by omega) (by decide);rw[aaf (by decide)]at g6;have AG:(Z.put (ins 2 (cell+1) 0 0 0) (0+1+1)).out.length=m.out.length+5+(ag p.vars b m.cells).1.length:=by simp[Mk.put];omega
 generalize y:Z.put (ins 2 (cell+1) 0 0 0) (0+1+1)=A' at g6 AG;obtain⟨i1,i2,i3,g7⟩:=mD p A' (0+1+1) (-1) (ins 8 0 8 0 0) (by omega) (by decide);have AH:(A'.put (ins 8 0 8 0 0) (0+1+1+ -1)).out.length=m.out.length+6+(ag p.vars b m.cells).1.length:=by simp[Mk.put];omega
 generalize A0:A'.put (ins 8 0 8 0 0) (0+1+1+ -1)=A1 at g7 AH;obtain⟨Ab,Ac,Ad,g8⟩:=u5 p A1 (0+1+1+ -1) at_ (by omega) (by decide);rw[show (0:Int)+1+1+ -1+ -1=0 by omega]at g8;have AI:(A1.put (ins 6 at_ 0 0 0) 0).out.length=m.out.length+7+(ag p.vars b m.cells).1.length:=by simp[Mk.put];omega
 generalize A2:A1.put (ins 6 at_ 0 0 0) 0=A3 at g8 AI;obtain⟨Ae,Af,Ag,g9⟩:=JW p A3 0 m.out.length (by omega) (by decide);have A7:(A3.put (ins 9 m.out.length 0 0 0) 0).out.length=m.out.length+8+(ag p.vars b m.cells).1.length:=by simp[Mk.put];omega
 generalize A4:A3.put (ins 9 m.out.length 0 0 0) 0=H at g9 A7;have g10:=wH p H 0 (m.out.length+2) (by omega) (by omega);have A8:H.lead (m.out.length+2:Nat)=m.J5 at_ cell (ag p.vars b m.cells).1 (ag p.vars b m.cells).2 (max 2 (bJ b)):=by
  have AJ:H.out=(m.out++[ins 11 0 0 0 0,ins 13 at_ cell 0 0])++ins 10 0 0 0 0::(dE (m.out.length+3) (ag p.vars b m.cells).1++[ins 2 at_ 0 0 0,ins 2 (cell+1) 0 0 0,ins 8 0 8 0 0,ins 6 at_ 0 0 0,ins 9 m.out.length 0 0 0]):=by
   subst A4 A2 A0 y Y U;simp[Mk.put,Mk.aX,I,f3]
  have AK:H.ex=jY m.ex (dz (-1) (m.out.length+3) (ag p.vars b m.cells).1)/\H.lv=m.lv++dz (-2) (m.out.length+3) (ag p.vars b m.cells).1/\H.cells=(ag p.vars b m.cells).2/\H.most=max m.most (max 2 (bJ b)):=by
   subst A4 A2 A0 y Y U;simp[Mk.put,Mk.aX,I,f3];omega
  unfold Mk.lead Mk.J5;rw[A7];simp only[AK,Mk.mk.injEq,and_true];rw[AJ];have:=wA (m.out++[ins 11 0 0 0 0,ins 13 at_ cell 0 0]) (ins 10 0 0 0 0) (dE (m.out.length+3) (ag p.vars b m.cells).1++[ins 2 at_ 0 0 0,ins 2 (cell+1) 0 0 0,ins 8 0 8 0 0,ins 6 at_ 0 0 0,ins 9 m.out.length 0 0 0]) ((m.out.length+8+(ag p.vars b m.cells).1.length:Nat):Int);have A6:((m.out++[ins 11 0 0 0 0,ins 13 at_ cell 0 0]).length:Int)=((m.out.length+2:Nat):Int):=by simp
  rw[A6]at this;rw[this];simp[ins];omega
 rw[A8]at g10;generalize m.J5 at_ cell (ag p.vars b m.cells).1 (ag p.vars b m.cells).2 (max 2 (bJ b))=Ah at*;have AL:IntKind.i64.wrap (cell+1)=cell+1:=jb AC;rw[A5]at g3;clear J O T U Y y A0 A2 A4 A8 f3;have AM:List.range 8=[0,1,2,3,4,5,6,7]:=rfl;rw[akg (by simp)];simp[ins]at g0 g1 g2 g3 g4 g5 g6 g7 g8 g9 g10;simp[f171,ak,dZ,AL,AM,g0,g1,g2,g3,g4,g5,g6,g7,g8,g9,g10];exact⟨_,_,_,rfl⟩
end
def Mk.gg(m:Mk):Mk:={m with ex:=m.ex++[[]]}
def kS.gg{m:Mk}(h:kS m):kS m.gg:=
 ⟨h.1,λr I=>by
  rcases ada.1 I with I|I
  .exact h.2 r I
  .simp at I;subst I;simp⟩
def Mk.xx(m:Mk)(ex:List (List Int))(row:List Int):Mk:={m with out:=mr m.out row m.out.length,ex:=ex}
def QW{p:Pg}{s:Sm}{m M:Mk}{row:List Int}(T:M.ex=m.ex++[row])(D:MU p M 0 s (.ret (.bq [])) (aj ctx 172 [.ptr 0 0 0,.ptr 1 0 0] [.box [.ptr 2 0 0],bA s,jX p m.gg 0 3 4 5 0 0 0,.vec 5 (m.out.map cH),.vv (m.gg.ex.map iV) none,.vec 1 (m.lv.map eQ)]))
 (A':row.length<99999990) (A0:M.out.length<99999990) (U:Pl M.out.length row) (A1:m.ex.length<99999990):
 MkJ p (M.xx m.ex row) s (aj ctx 170 [.ptr 0 0 0,.fn 172 [.ptr 1 0 0,.ptr 2 0 0]] [jX p m 0 3 4 5 0 0 0,.box [.ptr 0 0 0],bA s,.vec 5 (m.out.map cH),.vv (m.ex.map iV) none,.vec 1 (m.lv.map eQ)]):=by
 obtain⟨v1,v2,v3,D⟩:=D;have H:=Ak p {M with ex:=m.ex} 0 row (by omega) (by simpa using (by omega:M.out.length<100000000)) U;have e:({M with ex:=m.ex}:Mk).dp row=M.xx m.ex row:=rfl;rw[e]at H;have J:(M.xx m.ex row).ex=m.ex:=rfl;have O:(M.xx m.ex row).lv=M.lv:=rfl;generalize M.xx m.ex row=N at*;simp[T,Mk.gg]at D;simp[J,O]at H;have V:m.ex.length<=4611686018427387903:=by omega
 have Y:(m.ex.length+1)*24<=140737488355328:=by omega
 have Z:IntKind.i64.wrap ((m.ex.length:Int)+1-1)=m.ex.length:=by rw[show (m.ex.length:Int)+1-1=m.ex.length by omega];exact (b9 _)
 have y:=b9 (m.ex.length:Int);rw[Zp (by simp)];simp[f170,D,V,Y,Z,y,H];rw[<-J,<-O];exact⟨_,_,_,rfl⟩
def MkG(p:Pg)(m:Mk)(s:Sm)(at_ cell:Int)(r:bS):Prop:=∃v1 v2 v3,r=some (.ret (.bq []),[(0,jX p m 0 5 6 7 v1 v2 v3),(0,.box [.ptr 0 0 0]),(0,.box [.d (.int .i64 at_)]),(0,.box [.d (.int .i64 cell)]),(0,bA s),(v1,.vec 5 (m.out.map cH)),(v2,.vv (m.ex.map iV) none),(v3,.vec 1 (m.lv.map eQ))])
def acb{p:Pg}{s:Sm}{at_ cell:Int}{m M:Mk}{row:List Int}(T:M.ex=m.ex++[row])(D:MkF p M s at_ cell (aj ctx 171 [.ptr 0 0 0,.ptr 1 0 0,.ptr 2 0 0,.ptr 3 0 0] [.box [.ptr 4 0 0],.box [.d (.int .i64 at_)],.box [.d (.int .i64 cell)],bA s,jX p m.gg 0 5 6 7 0 0 0,.vec 5 (m.out.map cH),.vv (m.gg.ex.map iV) none,.vec 1 (m.lv.map eQ)]))
 (A':row.length<99999990) (A0:M.out.length<99999990) (U:Pl M.out.length row) (A1:m.ex.length<99999990):
 MkG p (M.xx m.ex row) s at_ cell (aj ctx 170 [.ptr 0 0 0,.fn 171 [.ptr 1 0 0,.ptr 2 0 0,.ptr 3 0 0,.ptr 4 0 0]] [jX p m 0 5 6 7 0 0 0,.box [.ptr 0 0 0],.box [.d (.int .i64 at_)],.box [.d (.int .i64 cell)],bA s,.vec 5 (m.out.map cH),.vv (m.ex.map iV) none,.vec 1 (m.lv.map eQ)]):=by
 obtain⟨v1,v2,v3,D⟩:=D;have H:=Ak p {M with ex:=m.ex} 0 row (by omega) (by simpa using (by omega:M.out.length<100000000)) U;have e:({M with ex:=m.ex}:Mk).dp row=M.xx m.ex row:=rfl;rw[e]at H;have J:(M.xx m.ex row).ex=m.ex:=rfl;have O:(M.xx m.ex row).lv=M.lv:=rfl;generalize M.xx m.ex row=N at*;simp[T,Mk.gg]at D;simp[J,O]at H;have V:m.ex.length<=4611686018427387903:=by omega
 have Y:(m.ex.length+1)*24<=140737488355328:=by omega
 have Z:IntKind.i64.wrap ((m.ex.length:Int)+1-1)=m.ex.length:=by rw[show (m.ex.length:Int)+1-1=m.ex.length by omega];exact (b9 _)
 have y:=b9 (m.ex.length:Int);rw[Zp (by simp)];simp[f170,D,V,Y,Z,y,H];rw[<-J,<-O];exact⟨_,_,_,rfl⟩
def alI(m:Mk)(t b:List ar)(c u:Int):(m.gg.J3 t b c u).ex=m.ex++[dz (-1) (m.out.length+t.length+2) b]:=by
 show jY (m.ex++[[]]) _=_;rw[lU];rfl
def af2{m:Mk}{t b:List ar}{c u:Int}(H:Flat t):(m.gg.J3 t b c u).xx m.ex (dz (-1) (m.out.length+t.length+2) b)=m.aX (iK t b) c u:=by
 unfold Mk.xx Mk.J3 Mk.aX Mk.gg;simp only[Mk.mk.injEq,alC];have U:((m.out++(ins 11 0 0 0 0::t++(ins 10 (m.out.length+t.length+3+b.length) 0 0 0::dE (m.out.length+t.length+2) b++[ins 9 m.out.length 0 0 0]))).length:Int)=m.out.length+t.length+3+b.length:=by simp;omega
 rw[U];refine⟨V0 H rfl rfl,?_,?_⟩
 .have:dz (-1) m.out.length (iK t b)=[]:=P9 _ _;rw[this,qy]
 .rw[YR (by decide) (by decide) H]
def alJ(m:Mk)(t b:List ar)(c u:Int):(m.gg.J4 t b c u).ex=m.ex++[dz (-1) m.out.length b]:=by
 show jY (m.ex++[[]]) _=_;rw[lU];rfl
def af3{m:Mk}{t b:List ar}{c u:Int}(H:Flat t):(m.gg.J4 t b c u).xx m.ex (dz (-1) m.out.length b)=m.aX (mK t b) c u:=by
 unfold Mk.xx Mk.J4 Mk.aX Mk.gg;simp only[Mk.mk.injEq,alC];have U:((m.out++(dE m.out.length b++(ins 11 0 0 0 0::t++[ins 10 m.out.length 0 0 0]))).length:Int)=m.out.length+b.length+t.length+2:=by simp;omega
 rw[U];refine⟨abC H rfl rfl,?_,?_⟩
 .have:dz (-1) m.out.length (mK t b)=[]:=P9 _ _;rw[this,qy]
 .rw[ae1 (by decide) (by decide) H]
def Wp(t b:List ar):(iK t b).length=t.length+3+b.length:=by simp[iK];omega
def acd(t b:List ar):(mK t b).length=t.length+2+b.length:=by simp[mK];omega
section
variable {p:Pg} (V:p.vars.length<=1000) (Y:∀v∈p.vars,dr v=true)
include V Y
theorem ace{to val:Ex}{b:List Sm}{line:Int}(I:bm val=true)(J:(aE p.vars val).e=0)(Z:zr p true b)(m:Mk)(hm:0<=m.most)(y:0<=m.cells)(A':kS m)
 (A0:m.out.length+(iK (ai p.vars val).1 (ag p.vars b m.cells).1).length<99999990) (A1:(ag p.vars b m.cells).2<99999990) (A2:m.ex.length+1+kT b<99999990):
 iX p (m.aX (iK (ai p.vars val).1 (ag p.vars b m.cells).1) (ag p.vars b m.cells).2 (max (aV 0 val) (bJ b))) 0 (.ret (.bq [])) (aj ctx 104 [.ptr 0 0 0,.d (bZ (.mk 5 [] to val [] [] [] [b] line))] (iW p m 0)):=by
 rw[Wp]at A0;have A3:m.gg.ex.length=m.ex.length+1:=by simp[Mk.gg]
 have O:=alD V Y (to:=to) (line:=line) I J Z m.gg hm y A'.gg (by simp[Mk.gg]) (by show m.out.length+_+(ag p.vars b m.cells).1.length+3<_;omega) A1 (by rw[A3];exact A2);rw[show m.gg.cells=m.cells from rfl]at O;have A4:=u7 (-1) (ag p.vars b m.cells).1 (m.out.length+(ai p.vars val).1.length+2);have T:(m.gg.J3 (ai p.vars val).1 (ag p.vars b m.cells).1 (ag p.vars b m.cells).2 (max (aV 0 val) (bJ b))).out.length=m.out.length+(ai p.vars val).1.length+3+(ag p.vars b m.cells).1.length:=by
  simp[Mk.J3,Mk.gg];omega
 obtain⟨v1,v2,v3,D⟩:=QW (m:=m) (alI m _ _ _ _) O (by omega) (by rw[T];omega) (λi hi=>by
  obtain⟨j,e,A5⟩:=Ft _ _ _ i hi;exact⟨j,e,by rw[T];omega⟩) (by omega)
 rw[af2 (jV val I J)]at D;generalize m.aX (iK (ai p.vars val).1 (ag p.vars b m.cells).1) (ag p.vars b m.cells).2 (max (aV 0 val) (bJ b))=M at*;rw[Zl (by simp)];simp at D;simp[f104,bU,D];exact⟨_,_,_,rfl⟩
theorem ZN{to val:Ex}{b:List Sm}{line:Int}(I:bm val=true)(J:(aE p.vars val).e=0)(Z:zr p true b)(m:Mk)(hm:0<=m.most)(y:0<=m.cells)(A':kS m)
 (A0:m.out.length+(mK (ai p.vars val).1 (ag p.vars b m.cells).1).length<99999990) (A1:(ag p.vars b m.cells).2<99999990) (A2:m.ex.length+1+kT b<99999990):
 iX p (m.aX (mK (ai p.vars val).1 (ag p.vars b m.cells).1) (ag p.vars b m.cells).2 (max (aV 0 val) (bJ b))) 0 (.ret (.bq [])) (aj ctx 104 [.ptr 0 0 0,.d (bZ (.mk 6 [] to val [] [] [] [b] line))] (iW p m 0)):=by
 rw[acd]at A0;have A3:m.gg.ex.length=m.ex.length+1:=by simp[Mk.gg]
 have O:=alE V Y (to:=to) (line:=line) I J Z m.gg hm y A'.gg (by simp[Mk.gg]) (by show m.out.length+_+(ag p.vars b m.cells).1.length+2<_;omega) A1 (by rw[A3];exact A2);rw[show m.gg.cells=m.cells from rfl]at O;have A4:=u7 (-1) (ag p.vars b m.cells).1 m.out.length;have T:(m.gg.J4 (ai p.vars val).1 (ag p.vars b m.cells).1 (ag p.vars b m.cells).2 (max (aV 0 val) (bJ b))).out.length=m.out.length+(ai p.vars val).1.length+2+(ag p.vars b m.cells).1.length:=by
  simp[Mk.J4,Mk.gg];omega
 obtain⟨v1,v2,v3,D⟩:=QW (m:=m) (alJ m _ _ _ _) O (by omega) (by rw[T];omega) (λi hi=>by
  obtain⟨j,e,A5⟩:=Ft _ _ _ i hi;exact⟨j,e,by rw[T];omega⟩) (by omega)
 rw[af3 (jV val I J)]at D;generalize m.aX (mK (ai p.vars val).1 (ag p.vars b m.cells).1) (ag p.vars b m.cells).2 (max (aV 0 val) (bJ b))=M at*;rw[Zl (by simp)];simp at D;simp[f104,bU,D];exact⟨_,_,_,rfl⟩
end
def alK(m:Mk)(a cell:Int)(b:List ar)(c u:Int):(m.gg.J5 a cell b c u).ex=m.ex++[dz (-1) (m.out.length+3) b]:=by
 show jY (m.ex++[[]]) _=_;rw[lU];rfl
def af4{m:Mk}{a cell:Int}{b:List ar}{c u:Int}:(m.gg.J5 a cell b c u).xx m.ex (dz (-1) (m.out.length+3) b)=m.aX (lI a cell b) c u:=by
 unfold Mk.xx Mk.J5 Mk.aX Mk.gg;simp only[Mk.mk.injEq,alC];have AP:((m.out++(ins 11 0 0 0 0::ins 13 a cell 0 0::ins 10 (m.out.length+b.length+8) 0 0 0::dE (m.out.length+3) b++[ins 2 a 0 0 0,ins 2 (cell+1) 0 0 0,ins 8 0 8 0 0,ins 6 a 0 0 0,ins 9 m.out.length 0 0 0])).length:Int)=m.out.length+b.length+8:=by simp;omega
 rw[AP];refine⟨abD rfl rfl,?_,?_⟩
 .have:dz (-1) m.out.length (lI a cell b)=[]:=P9 _ _;rw[this,qy]
 .rw[ae2 (by decide) (by decide)]
def acf(a c:Int)(b:List ar):(lI a c b).length=b.length+8:=by simp[lI]
section
variable {p:Pg} (H:p.vars.length<=1000) (I:∀v∈p.vars,dr v=true)
include H I
theorem Wq{name:Tx}{to val x y z:Ex}{b:List Sm}{line:Int}{v:Vr}(A6:bj p.vars name=some v)(A7:bm x=true)(ex:(aE p.vars x).e=0)(A8:bm y=true)(A9:(aE p.vars y).e=0)(AA:bm z=true)(AB:(aE p.vars z).e=0)(AQ:zr p true b)(AR:∀c,0<=c->c<=(ag p.vars b c).2)(m:Mk)(hm:0<=m.most)(Aa:0<=m.cells)(AS:kS m)
 (AC:m.out.length+((ai p.vars x).1++((ai p.vars y).1++(ai p.vars z).1)).length+3+(lI (bu p.vars name).1 m.cells (ag p.vars b (m.cells+2)).1).length<99999990) (AT:(ag p.vars b (m.cells+2)).2<99999990) (AU:m.ex.length+1+kT b<99999990):
 iX p (m.aX (jn (((ai p.vars x).1++((ai p.vars y).1++(ai p.vars z).1))++[ins 6 (m.cells+1) 0 0 0,ins 6 m.cells 0 0 0,ins 6 (bu p.vars name).1 0 0 0]) (lI (bu p.vars name).1 m.cells (ag p.vars b (m.cells+2)).1)) (ag p.vars b (m.cells+2)).2 (max (max (iF 0 [x,y,z]) 3) (bJ b))) 0 (.ret (.bq [])) (aj ctx 103 [.ptr 0 0 0,.d (bZ (.mk 4 name to val [x,y,z] [] [] [b] line))] (iW p m 0)):=by
 rw[acf]at AC;simp only[acY]at AC;have Ab:=AR (m.cells+2) (by omega);have AD:=u6 p H I name;rw[A6,eI A6]at AD;obtain⟨Ac,a2,a3,g1⟩:=ZC p m 0 2 ((b9 _));have f1:({m with cells:=m.cells+2}:Mk).out=m.out:=rfl;generalize O:({m with cells:=m.cells+2}:Mk)=J at g1 f1;have AV:0<=J.most:=by subst O;exact hm
 obtain⟨Ad,Ae,Af,g2⟩:=pf H I x A7 ex J 0 (by omega) (by omega) AV (by rw[f1];omega);have AE:(J.aD (ai p.vars x).1 (aV 0 x)).out.length=m.out.length+(ai p.vars x).1.length:=by simp[Mk.aD,f1]
 have AF:0<=(J.aD (ai p.vars x).1 (aV 0 x)).most:=by simp[Mk.aD];omega
 generalize U:J.aD (ai p.vars x).1 (aV 0 x)=M2 at g2 AE AF;have Ag:=ny p.vars x;have Ah:=ny p.vars y;have Ai:=ny p.vars z;obtain⟨Aj,Ak,Al,g3⟩:=pf H I y A8 A9 M2 (0+1) (by omega) (by omega) AF (by omega);have AG:(M2.aD (ai p.vars y).1 (aV (0+1) y)).out.length=m.out.length+(ai p.vars x).1.length+(ai p.vars y).1.length:=by simp[Mk.aD,AE]
 have AH:0<=(M2.aD (ai p.vars y).1 (aV (0+1) y)).most:=by simp[Mk.aD];omega
 generalize V:M2.aD (ai p.vars y).1 (aV (0+1) y)=Y at g3 AG AH;obtain⟨d1,d2,d3,g4⟩:=pf H I z AA AB Y (0+1+1) (by omega) (by omega) AH (by omega);have AI:(Y.aD (ai p.vars z).1 (aV (0+1+1) z)).out.length=m.out.length+(ai p.vars x).1.length+(ai p.vars y).1.length+(ai p.vars z).1.length:=by simp[Mk.aD,AG]
 generalize Z:Y.aD (ai p.vars z).1 (aV (0+1+1) z)=A' at g4 AI;obtain⟨An,Ao,Ap,g5⟩:=u5 p A' (0+1+1+1) (m.cells+1) (by omega) (by decide);have AJ:(A'.put (ins 6 (m.cells+1) 0 0 0) (0+1+1+1+ -1)).out.length=m.out.length+(ai p.vars x).1.length+(ai p.vars y).1.length+(ai p.vars z).1.length+1:=by simp[Mk.put,AI]
 generalize A0:A'.put (ins 6 (m.cells+1) 0 0 0) (0+1+1+1+ -1)=A1 at g5 AJ;obtain⟨Aq,Ar,As,g6⟩:=u5 p A1 (0+1+1+1+ -1) m.cells (by omega) (by decide);have AK:(A1.put (ins 6 m.cells 0 0 0) (0+1+1+1+ -1+ -1)).out.length=m.out.length+(ai p.vars x).1.length+(ai p.vars y).1.length+(ai p.vars z).1.length+2:=by simp[Mk.put,AJ]
 generalize A2:A1.put (ins 6 m.cells 0 0 0) (0+1+1+1+ -1+ -1)=A3 at g6 AK;obtain⟨i1,i2,i3,g7⟩:=u5 p A3 (0+1+1+1+ -1+ -1) (bu p.vars name).1 (by omega) (by decide);have AL:(A3.put (ins 6 (bu p.vars name).1 0 0 0) (0+1+1+1+ -1+ -1+ -1)).out.length=m.out.length+(ai p.vars x).1.length+(ai p.vars y).1.length+(ai p.vars z).1.length+3:=by simp[Mk.put,AK]
 generalize A4:A3.put (ins 6 (bu p.vars name).1 0 0 0) (0+1+1+1+ -1+ -1+ -1)=D at g7 AL;have f7:D.cells=m.cells+2/\D.ex=m.ex/\0<=D.most/\D=(({m with cells:=m.cells+2}:Mk).aD (((ai p.vars x).1++((ai p.vars y).1++(ai p.vars z).1))++[ins 6 (m.cells+1) 0 0 0,ins 6 m.cells 0 0 0,ins 6 (bu p.vars name).1 0 0 0]) (max (iF 0 [x,y,z]) 3)):=by
  have t1:=pr 0 x;have t2:=pr 1 y;have t3:=pr 2 z;subst A4 A2 A0 Z V U O;refine⟨rfl,rfl,?_,?_⟩
  .simp[Mk.put,Mk.aD];omega
  .simp only[Mk.put,Mk.aD,Mk.mk.injEq,iF];simp;omega
 have AW:kS D:=by
  have q1:kS ({m with cells:=m.cells+2}:Mk):=AS;subst A4 A2 A0 Z V U O;exact (((((q1.aD _ _).aD _ _).aD _ _).put _ _).put _ _).put _ _
 have AX:D.gg.ex.length=m.ex.length+1:=by simp[Mk.gg,f7.2.1]
 have g8:=alF (name:=name) (to:=to) (val:=val) (conds:=[x,y,z]) (line:=line) (at_:=(bu p.vars name).1) (cell:=m.cells) AQ D.gg f7.2.2.1 (by show 0<=D.cells;rw[f7.1];omega) AW.gg (by simp[Mk.gg]) (by unfold bz;omega) (by show D.out.length+(ag p.vars b D.cells).1.length+8<_;rw[f7.1,AL];omega) (by show (ag p.vars b D.cells).2<_;rw[f7.1];exact AT) (by rw[AX];exact AU);rw[show D.gg.cells=m.cells+2 from f7.1]at g8;have At:=u7 (-1) (ag p.vars b (m.cells+2)).1 (D.out.length+3);have AM:(D.gg.J5 (bu p.vars name).1 m.cells (ag p.vars b (m.cells+2)).1 (ag p.vars b (m.cells+2)).2 (max 2 (bJ b))).out.length=D.out.length+8+(ag p.vars b (m.cells+2)).1.length:=by
  simp[Mk.J5,Mk.gg];omega
 obtain⟨v1,v2,v3,T⟩:=acb (m:=D) (alK D _ _ _ _ _) g8 (by omega) (by rw[AM];omega) (λi hi=>by
  obtain⟨j,e,Au⟩:=Ft _ _ _ i hi;exact⟨j,e,by rw[AM];omega⟩) (by rw[f7.2.1];omega)
 rw[af4]at T;have AN:D.aX (lI (bu p.vars name).1 m.cells (ag p.vars b (m.cells+2)).1) (ag p.vars b (m.cells+2)).2 (max 2 (bJ b))=m.aX (jn (((ai p.vars x).1++((ai p.vars y).1++(ai p.vars z).1))++[ins 6 (m.cells+1) 0 0 0,ins 6 m.cells 0 0 0,ins 6 (bu p.vars name).1 0 0 0]) (lI (bu p.vars name).1 m.cells (ag p.vars b (m.cells+2)).1)) (ag p.vars b (m.cells+2)).2 (max (max (iF 0 [x,y,z]) 3) (bJ b)):=by
  have AY:Flat (((ai p.vars x).1++((ai p.vars y).1++(ai p.vars z).1))++[ins 6 (m.cells+1) 0 0 0,ins 6 m.cells 0 0 0,ins 6 (bu p.vars name).1 0 0 0]):=
   (((jV x A7 ex).app ((jV y A8 A9).app (jV z AA AB)))).app (.cons (by simp[ins]) (.cons (by simp[ins]) (.one (by simp[ins]))))
  rw[<-Gp m _ _ (m.cells+2) _ (max (iF 0 [x,y,z]) 3) _,f7.2.2.2];have e:({m with cells:=m.cells+2}:Mk).aD (((ai p.vars x).1++((ai p.vars y).1++(ai p.vars z).1))++[ins 6 (m.cells+1) 0 0 0,ins 6 m.cells 0 0 0,ins 6 (bu p.vars name).1 0 0 0]) (max (iF 0 [x,y,z]) 3)=m.aX (((ai p.vars x).1++((ai p.vars y).1++(ai p.vars z).1))++[ins 6 (m.cells+1) 0 0 0,ins 6 m.cells 0 0 0,ins 6 (bu p.vars name).1 0 0 0]) (m.cells+2) (max (iF 0 [x,y,z]) 3):=by
   rw[<-sS AY];rfl
  rw[e];exact qz (by simp[Mk.aX];omega)
 rw[AN]at T;generalize m.aX (jn (((ai p.vars x).1++((ai p.vars y).1++(ai p.vars z).1))++[ins 6 (m.cells+1) 0 0 0,ins 6 m.cells 0 0 0,ins 6 (bu p.vars name).1 0 0 0]) (lI (bu p.vars name).1 m.cells (ag p.vars b (m.cells+2)).1)) (ag p.vars b (m.cells+2)).2 (max (max (iF 0 [x,y,z]) 3) (bJ b))=M at*;clear O U V Z A0 A2 A4 AN f7 g8;have AZ:=b9 (m.cells+1);have A5:IntKind.i64.wrap 1=1:=rfl;have AO:IntKind.i64.wrap 2=2:=rfl;have A_:IntKind.i64.wrap 3=3:=rfl;rw[ajN (by simp)];simp at g1 g2 g3 g4 g5 g6 g7;simp[az]at T;simp[f103,bU,AD,bF,dK,g1,ak];rw[ah];simp[f103,az,g2,A5];rw[ah];simp[f103,az,g3,A5,AO];rw[ah];simp[f103,az,g4,A5,AO,A_];rw[ah];simp[f103,g5,g6,g7,AZ,T];exact⟨_,_,_,rfl⟩
end
def MW(c:Int):∀l:List Int,l.length%2=0->(dy c l).length=l.length
 |[],_=>by simp[dy]
 |[_],h=>by simp at h
 |a::b::r,h=>by
  have:=MW c r (by simp only[ac5]at h;omega);simp only[dy,ac5];omega
def Fw(c:Int)(D:List (List Int)):List (List ar×Int):=D.map λl=>(ins 1 0 0 0 0::dy c l,2)
def af5(c:Int)(D:List (List Int)):eB (Fw c D)=D.map λl=>ins 1 0 0 0 0::dy c l:=by simp[eB,Fw]
def QX(c:Int):∀D:List (List Int),eR (Fw c D)=if D=[]then 0 else 2
 |[]=>rfl
 |l::r=>by
  have:=QX c r;have e:eR (Fw c (l::r))=max 2 (eR (Fw c r)):=rfl;rw[e,this];rw[aaf (List.cons_ne_nil _ _)];split<;>rfl
def DP(vs:List Vr)(conds:List Ex):List (List ar×Int):=conds.map λx=>((ai vs x).1,aV 0 x)
def La(vs:List Vr)(conds:List Ex):eB (DP vs conds)=conds.map λx=>(ai vs x).1:=by simp[eB,DP]
def QY(vs:List Vr):∀conds:List Ex,eR (DP vs conds)=nx conds
 |[]=>rfl
 |x::r=>by
  have:=QY vs r;have e:eR (DP vs (x::r))=max (aV 0 x) (eR (DP vs r)):=rfl;rw[e,this];rfl
section
variable {p:Pg} {lp:Bool} (y:p.vars.length<=1000) (A':∀v∈p.vars,dr v=true)
include y A'
theorem acg{to val:Ex}{D:List (List Int)}{blocks:List (List Sm)}{line:Int}(A0:bm val=true)(A1:(aE p.vars val).e=0)(A8:D.all uV=true)(A9:D.length<=blocks.length)(AA:blocks.length<=D.length+1)(AB:blocks.length<99999980)
 (A2:∀b∈blocks,zr p lp b) (T:∀b∈blocks,∀c,0<=c->c<=(ag p.vars b c).2) (m:Mk) (hm:0<=m.most) (AM:0<=m.cells) (AC:kS m) (hex:lp=true->m.ex≠[])
 (AN:m.out.length+(ai p.vars val).1.length+1+(cF (D.map λl=>ins 1 0 0 0 0::dy m.cells l) (ay p.vars blocks (m.cells+1)).1).length<99999990) (AD:(ay p.vars blocks (m.cells+1)).2<99999990) (AE:∀b∈blocks,m.ex.length+kT b<99999990):
 iX p (m.aX (jn ((ai p.vars val).1++[ins 6 m.cells 0 0 0]) (cF (D.map λl=>ins 1 0 0 0 0::dy m.cells l) (ay p.vars blocks (m.cells+1)).1)) (ay p.vars blocks (m.cells+1)).2 (max (aV 0 val) (max (if D=[]then 0 else 2) (cS blocks)))) 0 (.ret (.bq []))
  (aj ctx 102 [.ptr 0 0 0,.d (bZ (.mk 3 [] to val [] D [] blocks line))] (iW p m 0)):=by
 have AO:=Dk blocks (m.cells+1) (by omega) T;obtain⟨AP,a2,a3,g1⟩:=ZC p m 0 1 ((b9 _));have f1:({m with cells:=m.cells+1}:Mk).out=m.out:=rfl;generalize J:({m with cells:=m.cells+1}:Mk)=O at g1 f1;have AF:0<=O.most:=by subst J;exact hm
 obtain⟨AQ,AR,AS,g2⟩:=pf y A' val A0 A1 O 0 (by omega) (by omega) AF (by rw[f1];omega);have A3:(O.aD (ai p.vars val).1 (aV 0 val)).out.length=m.out.length+(ai p.vars val).1.length:=by simp[Mk.aD,f1]
 generalize U:O.aD (ai p.vars val).1 (aV 0 val)=M2 at g2 A3;obtain⟨AT,AU,AV,g3⟩:=u5 p M2 (0+1) m.cells (by omega) (by decide);have A4:(M2.put (ins 6 m.cells 0 0 0) (0+1+ -1)).out.length=m.out.length+(ai p.vars val).1.length+1:=by simp[Mk.put,A3]
 generalize V:M2.put (ins 6 m.cells 0 0 0) (0+1+ -1)=H at g3 A4;have AG:Flat ((ai p.vars val).1++[ins 6 m.cells 0 0 0]):=(jV val A0 A1).app (.one (by simp[ins]));have f3:H.cells=m.cells+1/\H.ex=m.ex/\0<=H.most/\H=m.aX ((ai p.vars val).1++[ins 6 m.cells 0 0 0]) (m.cells+1) (aV 0 val):=by
  have t1:=pr 0 val;have e:({m with cells:=m.cells+1}:Mk).aD ((ai p.vars val).1++[ins 6 m.cells 0 0 0]) (aV 0 val)=m.aX ((ai p.vars val).1++[ins 6 m.cells 0 0 0]) (m.cells+1) (aV 0 val):=by
   rw[<-sS AG];rfl
  rw[<-e];subst V U J;refine⟨rfl,rfl,?_,?_⟩
  .simp[Mk.put,Mk.aD];omega
  .simp only[Mk.put,Mk.aD,Mk.mk.injEq];simp;omega
 have q3:kS H:=by
  have q1:kS ({m with cells:=m.cells+1}:Mk):=AC;subst V U J;exact (q1.aD _ _).put _ _
 have Y:=af5 m.cells D;have I:=Wo (p:=p) (lp:=lp) (s:=.mk 3 [] to val [] D [] blocks line) (q:=m.cells) (blocks:=blocks) (ts:=Fw m.cells D) AB (by simpa [Fw]using A9) (by simpa [Fw]using AA)
  (by
   rw[Y];intro x AH;obtain⟨l,_,rfl⟩:=adk.1 AH;exact .cons (by simp[ins]) (JJ _ _))
  (by
   intro i t A5 M AI AJ;simp only[Fw,adn,ac3]at A5;obtain⟨l,A6,rfl⟩:=A5;have Z:uV l=true:=adp.1 A8 l (ac6 A6);have AK:l.length%2=0:=by
    simp only[uV,Ds,ac2]at Z;exact Z.2.1
   have:=MW m.cells l AK;simp only[ac5]at AJ;exact aca (.mk 3 [] to val [] D [] blocks line) m.cells i l A6 Z M AI (by omega))
  A2 T H f3.2.2.1 (by rw[f3.1];omega) q3 (λh=>by rw[f3.2.1];exact hex h) (by rw[f3.1,A4,Y];omega) (by rw[f3.1];exact AD) (λb AL=>by rw[f3.2.1];exact AE b AL)
 rw[f3.1,Y,QX]at I;have A7:H.aX (cF (D.map λl=>ins 1 0 0 0 0::dy m.cells l) (ay p.vars blocks (m.cells+1)).1) (ay p.vars blocks (m.cells+1)).2 (max (if D=[]then 0 else 2) (cS blocks))=m.aX (jn ((ai p.vars val).1++[ins 6 m.cells 0 0 0]) (cF (D.map λl=>ins 1 0 0 0 0::dy m.cells l) (ay p.vars blocks (m.cells+1)).1)) (ay p.vars blocks (m.cells+1)).2 (max (aV 0 val) (max (if D=[]then 0 else 2) (cS blocks))):=by
  rw[<-Gp m _ _ (m.cells+1) _ (aV 0 val) _,<-f3.2.2.2]
 rw[A7]at I;generalize m.aX (jn ((ai p.vars val).1++[ins 6 m.cells 0 0 0]) (cF (D.map λl=>ins 1 0 0 0 0::dy m.cells l) (ay p.vars blocks (m.cells+1)).1)) (ay p.vars blocks (m.cells+1)).2 (max (aV 0 val) (max (if D=[]then 0 else 2) (cS blocks)))=M at*;obtain⟨v1,v2,v3,I⟩:=I;clear J U V A7 f3 A2 T;have el:(Fw m.cells D).length=D.length:=by simp[Fw]
 rw[el]at I;rw[ajM (by simp)];simp at g1 g2 g3;simp at I;simp[f102,bU,g1,g2,g3,I];exact⟨_,_,_,rfl⟩
end
section
variable {p:Pg} {x:Sm} {m M:Mk} (I:m.out.length<99999990)
include I
theorem aee(D:bG x=1)(h:iX p M 0 (.ret (.bq [])) (aj ctx 98 [.ptr 0 0 0,.d (bZ x)] (iW p (m.put (ins 11 0 0 0 0) 0) 0))):
 iX p M 0 (.ret (.bq [])) (aj ctx 60 [.ptr 0 0 0,.d (bZ x)] (iW p m 0)):=by
 obtain⟨J,a2,a3,H⟩:=qx p m 0 (by omega) (by decide);obtain⟨V,Y,Z,h⟩:=h;generalize m.put (ins 11 0 0 0 0) 0=N at*;rw[Af (by simp)];simp[bU,D]at h;simp at H;simp[f60,bU,D,H,h];exact⟨_,_,_,rfl⟩
theorem aoU(D:bG x=3)(h:iX p M 0 (.ret (.bq [])) (aj ctx 102 [.ptr 0 0 0,.d (bZ x)] (iW p (m.put (ins 11 0 0 0 0) 0) 0))):
 iX p M 0 (.ret (.bq [])) (aj ctx 60 [.ptr 0 0 0,.d (bZ x)] (iW p m 0)):=by
 obtain⟨J,a2,a3,H⟩:=qx p m 0 (by omega) (by decide);obtain⟨V,Y,Z,h⟩:=h;generalize m.put (ins 11 0 0 0 0) 0=N at*;rw[Af (by simp)];simp[bU,D]at h;simp at H;simp[f60,bU,D,H,h];exact⟨_,_,_,rfl⟩
theorem aoV(D:bG x=4)(h:iX p M 0 (.ret (.bq [])) (aj ctx 103 [.ptr 0 0 0,.d (bZ x)] (iW p (m.put (ins 11 0 0 0 0) 0) 0))):
 iX p M 0 (.ret (.bq [])) (aj ctx 60 [.ptr 0 0 0,.d (bZ x)] (iW p m 0)):=by
 obtain⟨J,a2,a3,H⟩:=qx p m 0 (by omega) (by decide);obtain⟨V,Y,Z,h⟩:=h;generalize m.put (ins 11 0 0 0 0) 0=N at*;rw[Af (by simp)];simp[bU,D]at h;simp at H;simp[f60,bU,D,H,h];exact⟨_,_,_,rfl⟩
theorem ZO(D:bG x=5\/bG x=6)(h:iX p M 0 (.ret (.bq [])) (aj ctx 104 [.ptr 0 0 0,.d (bZ x)] (iW p (m.put (ins 11 0 0 0 0) 0) 0))):
 iX p M 0 (.ret (.bq [])) (aj ctx 60 [.ptr 0 0 0,.d (bZ x)] (iW p m 0)):=by
 obtain⟨J,a2,a3,H⟩:=qx p m 0 (by omega) (by decide);obtain⟨V,Y,Z,h⟩:=h;generalize m.put (ins 11 0 0 0 0) 0=N at*;rw[Af (by simp)];simp at H;rcases D with D|D
 .simp[bU,D]at h;simp[f60,bU,D,H,h];exact⟨_,_,_,rfl⟩
 .simp[bU,D]at h;simp[f60,bU,D,H,h];exact⟨_,_,_,rfl⟩
theorem aoW(D:bG x=9)(h:iX p M 0 (.ret (.bq [])) (aj ctx 106 [.ptr 0 0 0,.d (bZ x)] (iW p (m.put (ins 11 0 0 0 0) 0) 0))):
 iX p M 0 (.ret (.bq [])) (aj ctx 60 [.ptr 0 0 0,.d (bZ x)] (iW p m 0)):=by
 obtain⟨J,a2,a3,H⟩:=qx p m 0 (by omega) (by decide);obtain⟨V,Y,Z,h⟩:=h;generalize m.put (ins 11 0 0 0 0) 0=N at*;rw[Af (by simp)];simp[bU,D]at h;simp at H;simp[f60,bU,D,H,h];exact⟨_,_,_,rfl⟩
theorem aoX(D:bG x=2)(h:MkJ p M x (aj ctx 99 [.ptr 0 0 0,.d (.list ((aP x).map dZ)),.d (.int .i64 (b7 x).length),.fn 100 [.ptr 1 0 0,.ptr 2 0 0]] [jX p (m.put (ins 11 0 0 0 0) 0) 0 3 4 5 0 0 0,.box [.ptr 0 0 0],bA x,.vec 5 ((m.put (ins 11 0 0 0 0) 0).out.map cH),.vv ((m.put (ins 11 0 0 0 0) 0).ex.map iV) none,.vec 1 ((m.put (ins 11 0 0 0 0) 0).lv.map eQ)])):
 iX p M 0 (.ret (.bq [])) (aj ctx 60 [.ptr 0 0 0,.d (bZ x)] (iW p m 0)):=by
 obtain⟨J,a2,a3,H⟩:=qx p m 0 (by omega) (by decide);obtain⟨V,Y,Z,h⟩:=h;generalize m.put (ins 11 0 0 0 0) 0=N at*;rw[Af (by simp)];simp[D]at h;simp at H;simp[f60,bU,D,H,h];exact⟨_,_,_,rfl⟩
end
def aoY(p:Pg)(m:Mk)(h by_:Int)(x:ar)(I:m.out.length<100000000)(hw:IntKind.i64.wrap (h+by_)=h+by_):aj ctx 34 [.ptr 0 0 0,.d (cH x),.d (.int .i64 by_)] (iW p m h)=some (.ret (.d (.int .i64 m.out.length)),TQ p (m.put x (h+by_)) (h+by_) 1 0 0):=by
 have w0:=b9 (m.out.length:Int);have y:m.out.length<=4611686018427387903:=by omega
 have A':(m.out.length+1)*40<=140737488355328:=by omega
 rw[Wh (by simp)];simp[f34,ak,hw,w0,y,A',mxI,Mk.put]
def alL(p:Pg)(m:Mk)(h to:Int)(I:m.out.length<100000000)(hw:IntKind.i64.wrap h=h):aj ctx 105 [.ptr 0 0 0,.d (.int .i64 to)] (iW p m h)=some (.ret (.d (.int .i64 m.out.length)),TQ p (m.put (ins 9 to 0 0 0) h) h 1 0 0):=by
 have O:=aoY p m h 0 (ins 9 to 0 0 0) I (by simpa using hw);rw[show h+0=h by omega]at O;generalize m.put (ins 9 to 0 0 0) h=M at*;rw[Qw (by simp)];simp[ins]at O;simp[f105,O]
@[simp] def mkO(p:Pg)(m:Mk)(h:Int)(pre:List (List Int))(row:List Int):List aF:=[.box [.d (.str p.name),.d (.list (p.vars.map bF)),.d (.list (p.body.map bZ)),.vec 1 0 0 m.out.length,.d (.int .i64 m.cells),.d (.int .i64 h),.d (.int .i64 m.most),.vec 2 0 0 (pre.length+1),.vec 3 0 0 m.lv.length],.vec 5 (m.out.map cH),.vv (pre.map iV) (some (.vec 4 0 0 row.length)),.vec 1 (m.lv.map eQ),.vec 1 (row.map eQ)]
@[simp] def mkP(p:Pg)(m:Mk)(h:Int)(pre:List (List Int))(row:List Int):List (Nat×aF):=[(0,.box [.d (.str p.name),.d (.list (p.vars.map bF)),.d (.list (p.body.map bZ)),.vec 1 1 0 m.out.length,.d (.int .i64 m.cells),.d (.int .i64 h),.d (.int .i64 m.most),.vec 2 0 0 (pre.length+1),.vec 3 0 0 m.lv.length]),(1,.vec 5 (m.out.map cH)),(0,.vv (pre.map iV) (some (.vec 4 0 0 row.length))),(0,.vec 1 (m.lv.map eQ)),(0,.vec 1 (row.map eQ))]
def aoZ(p:Pg)(m:Mk)(h by_:Int)(x:ar)(pre:List (List Int))(row:List Int)(I:m.out.length<100000000)(hw:IntKind.i64.wrap (h+by_)=h+by_):aj ctx 34 [.ptr 0 0 0,.d (cH x),.d (.int .i64 by_)] (mkO p m h pre row)=some (.ret (.d (.int .i64 m.out.length)),mkP p (m.put x (h+by_)) (h+by_) pre row):=by
 have w0:=b9 (m.out.length:Int);have y:m.out.length<=4611686018427387903:=by omega
 have A':(m.out.length+1)*40<=140737488355328:=by omega
 rw[Wh (by simp)];simp[f34,ak,hw,w0,y,A',mxI,Mk.put]
def alM(p:Pg)(m:Mk)(h to:Int)(pre:List (List Int))(row:List Int)(I:m.out.length<100000000)(hw:IntKind.i64.wrap h=h):aj ctx 105 [.ptr 0 0 0,.d (.int .i64 to)] (mkO p m h pre row)=some (.ret (.d (.int .i64 m.out.length)),mkP p (m.put (ins 9 to 0 0 0) h) h pre row):=by
 have O:=aoZ p m h 0 (ins 9 to 0 0 0) pre row I (by simpa using hw);rw[show h+0=h by omega]at O;generalize m.put (ins 9 to 0 0 0) h=M at*;rw[Qw (by simp)];simp[ins]at O;simp[f105,O]
def Mk.ext(m:Mk):Mk:={m with out:=m.out++[ins 9 0 0 0 0],most:=max m.most 0,ex:=jY m.ex [(m.out.length:Int)]}
def Mk.ret(m:Mk):Mk:={m with out:=m.out++[ins 9 0 0 0 0],most:=max m.most 0,lv:=m.lv++[(m.out.length:Int)]}
def ao0{p:Pg}{x:Sm}{m:Mk}(I:m.out.length<99999989)(A3:m.lv.length<99999989)(D:bG x=8):iX p (m.put (ins 11 0 0 0 0) 0).ret 0 (.ret (.bq [])) (aj ctx 60 [.ptr 0 0 0,.d (bZ x)] (iW p m 0)):=by
 obtain⟨J,a2,a3,H⟩:=qx p m 0 (by omega) (by decide);have A6:(m.put (ins 11 0 0 0 0) 0).lv.length<99999989:=A3;have A4:(m.put (ins 11 0 0 0 0) 0).out.length<99999990:=by simp[Mk.put];omega
 generalize m.put (ins 11 0 0 0 0) 0=N at*;have T:=alL p N 0 0 (by omega) (by decide);have e:N.ret={(N.put (ins 9 0 0 0 0) 0)with lv:=N.lv++[(N.out.length:Int)]}:=rfl;have U:(N.put (ins 9 0 0 0 0) 0).lv=N.lv:=rfl;rw[e];generalize N.put (ins 9 0 0 0 0) 0=P at*;have A0:N.lv.length<=4611686018427387903:=by omega
 have A1:(N.lv.length+1)*8<=140737488355328:=by omega
 rw[Af (by simp)];simp[ins]at H T;rw[U]at T;simp[f60,bU,D,H,T,U,A0,A1,KQ,NG,NF,CU,E0,FV,qa,tC,tB,xH,I5,I6,I7,I8,gZ,xG,AJ,KC,zM,Hx,SF,Xw,OV,fF,gw,oN,vy,bC.app];exact⟨1,(if a2=0 then 0 else 1),1,by simp⟩
def ao1{p:Pg}{x:Sm}{m:Mk}{pre:List (List Int)}{row:List Int}(U:m.ex=pre++[row])(I:m.out.length<99999989)(A7:row.length<99999990)(A8:pre.length<99999990)(D:bG x=7):iX p (m.put (ins 11 0 0 0 0) 0).ext 0 (.ret (.bq [])) (aj ctx 60 [.ptr 0 0 0,.d (bZ x)] (iW p m 0)):=by
 obtain⟨J,a2,a3,H⟩:=qx p m 0 (by omega) (by decide);have A2:(m.put (ins 11 0 0 0 0) 0).ex=pre++[row]:=U;have A4:(m.put (ins 11 0 0 0 0) 0).out.length<99999990:=by simp[Mk.put];omega
 generalize m.put (ins 11 0 0 0 0) 0=N at*;have T:=alM p N 0 0 pre row (by omega) (by decide);have e:N.ext={(N.put (ins 9 0 0 0 0) 0)with ex:=pre++[row++[(N.out.length:Int)]]}:=by
  unfold Mk.ext;rw[A2,lU];rfl
 have A5:(N.put (ins 9 0 0 0 0) 0).ex=pre++[row]:=A2;rw[e];generalize N.put (ins 9 0 0 0 0) 0=P at*;have A0:row.length<=4611686018427387903:=by omega
 have A1:(row.length+1)*8<=140737488355328:=by omega
 have y:IntKind.i64.wrap ((pre.length:Int)+1-1)=pre.length:=by rw[show (pre.length:Int)+1-1=pre.length by omega];exact (b9 _)
 have A':=b9 (pre.length:Int);rw[Af (by simp)];simp[ins,A2,A5,U]at H T;simp[f60,bU,D,U,H,T,A0,A1,y,A',KQ,NG,NF,CU,E0,FV,qa,tC,tB,xH,I5,I6,I7,I8,gZ,xG,AJ,KC,zM,Hx,SF,Xw,OV,fF,gw,oN,vy,bC.app];exact⟨1,(if a2=0 then 0 else 1),(if a3=0 then 0 else 1),by simp⟩
def ZP(p:Pg)(lp:Bool)(x:Sm):Prop:=∀(m:Mk),0<=m.most->0<=m.cells->kS m->(lp=true->m.ex≠[])->m.out.length+(oR p.vars x m.cells).length<99999990->(b8 p.vars x m.cells).2<99999990->m.ex.length+B4 x<99999990->
 iX p (m.aX (oR p.vars x m.cells) (b8 p.vars x m.cells).2 (jE x)) 0 (.ret (.bq [])) (aj ctx 60 [.ptr 0 0 0,.d (bZ x)] (iW p m 0))
def TX(vs:List Vr):∀(l:List Sm)(c:Int),l.length<=(ag vs l c).1.length
 |[],c=>by simp
 |x::r,c=>by
  have:=TX vs r (b8 vs x c).2;unfold ag;simp only[ei,ac5,ac7];omega
def J6{p:Pg}{lp:Bool}(l:List Sm)(A0:l.length<99999999)(k:Kt)(Q:Mk->bS->Prop)
 (I:∀(Y:Env) M v1 v2 v3 v6 X6,Q M (k (.exit 0) ⟨16,aB,(0,true,.ptr 0 0 0)::Y,mqM p M 0 v1 v2 v3++[⟨350,v6,X6⟩]⟩)):
 ∀(D pre:List Sm)(m:Mk)(v1 v2 v3 v6:Nat)(X6:aF),l=pre++D->(∀x∈D,ZP p lp x)->0<=m.most->0<=m.cells->kS m->(lp=true->m.ex≠[])->m.out.length+(ag p.vars D m.cells).1.length<99999990->(ag p.vars D m.cells).2<99999990->m.ex.length+kT D<99999990->
 Q (m.aX (ag p.vars D m.cells).1 (ag p.vars D m.cells).2 (bJ D)) (aL ctx 31 (.loop (Code.at (bh f31) [1,0,0])) ⟨16,aB,[(0,true,.ptr 0 0 0),(6,true,.d (.list (l.map bZ))),(7,true,.d (.int .i64 l.length)),(8,true,.d (.int .i64 pre.length))],mqM p m 0 v1 v2 v3++[⟨350,v6,X6⟩]⟩ k)
 |[],pre,m,v1,v2,v3,v6,X6,J,H,hm,V,O,hex,T,U,Z=>by
  have e:m.aX (ag p.vars [] m.cells).1 (ag p.vars [] m.cells).2 (bJ [])=m:=ab8 m hm;rw[e];have A3:pre.length=l.length:=by rw[J];simp
  have:=I [(6,true,.d (.list (l.map bZ))),(7,true,.d (.int .i64 l.length)),(8,true,.d (.int .i64 l.length)),(9,true,.d (.bool false))] m v1 v2 v3 v6 X6;simp at this;rw[A3,ah];simp[f31,this]
 |x::r,pre,m,v1,v2,v3,v6,X6,J,H,hm,V,O,hex,T,U,Z=>by
  have A4:ag p.vars (x::r) m.cells=(jn (oR p.vars x m.cells) (ag p.vars r (b8 p.vars x m.cells).2).1,(ag p.vars r (b8 p.vars x m.cells).2).2):=rfl;have A5:kT (x::r)=max (B4 x) (kT r):=by simp[kT]
  have A6:bJ (x::r)=max (jE x) (bJ r):=by simp[bJ]
  have AE:=Ac (vs:=p.vars) x m.cells;have AF:=gx (vs:=p.vars) r (b8 p.vars x m.cells).2;rw[A4]at T U⊢;rw[A5]at Z;rw[A6];simp only[ei]at T;simp only at U;obtain⟨AG,a2,a3,A1⟩:=H x (by simp) m hm V O hex (by omega) (by omega) (by omega);have A7:(m.aX (oR p.vars x m.cells) (b8 p.vars x m.cells).2 (jE x)).out.length=m.out.length+(oR p.vars x m.cells).length:=by
   show (m.out++dE _ _).length=_;rw[acY,qO]
  have A':(m.aX (oR p.vars x m.cells) (b8 p.vars x m.cells).2 (jE x)).ex.length=m.ex.length:=by
   show (jY _ _).length=_;rw[ZG]
  have ih:=λv1 v2 v3 v6 X6=>J6 l A0 k Q I r (pre++[x]) (m.aX (oR p.vars x m.cells) (b8 p.vars x m.cells).2 (jE x)) v1 v2 v3 v6 X6 (by simp[J]) (λy A8=>H y (by simp[A8])) (by show 0<=max m.most _;omega) (by show 0<=(b8 p.vars x m.cells).2;omega) (O.aX _ _ _)
   (λh=>by
    have:=hex h;intro A9;rw[A9]at A';exact this (adf A'.symm))
   (by rw[A7];show _+(ag p.vars r (b8 p.vars x m.cells).2).1.length<_;omega) (by show (ag p.vars r (b8 p.vars x m.cells).2).2<_;omega) (by rw[A'];omega)
  rw[show (m.aX (oR p.vars x m.cells) (b8 p.vars x m.cells).2 (jE x)).cells=(b8 p.vars x m.cells).2 from rfl,Gp]at ih;clear I H;generalize m.aX (oR p.vars x m.cells) (b8 p.vars x m.cells).2 (jE x)=M at*;have AA:pre.length<l.length:=by rw[J];simp
  have AB:l[pre.length]=x:=by simp[J]
  have AC:=b9 ((pre.length:Int)+1);rw[ah];simp[bU]at A1;simp[f31]at ih⊢;simp[AA,AB,bU,A1,ak,AC,ih]
def Ic{p:Pg}{lp:Bool}(l:List Sm)(H:∀x∈l,ZP p lp x):zr p lp l:=by
 intro m hm V O hex T U Z;have A0:=TX p.vars l m.cells;have A2:=λ(k:Kt) (Q:Mk->bS->Prop) I v6 X6=>J6 l (by omega) k Q I l [] m 0 0 0 v6 X6 rfl H hm V O hex T U Z;rw[aog (by simp)];generalize m.aX (ag p.vars l m.cells).1 (ag p.vars l m.cells).2 (bJ l)=N at*;simp[f31]at A2⊢;refine A2 _ (λX r=>X=N->iX p N 0 (.ret (.bq [])) r) (λY X v1 v2 v3 v6 X6 AD=>?_) _ _ rfl;subst AD;simp[f31];exact⟨_,_,_,rfl⟩
def TY{vs:List Vr}{name:Tx}:∀(fs:List Tx)(xs:List Ex),xs.length=fs.length->fs.length<=(dC vs name fs xs).length
 |[],xs,_=>by simp
 |_::_,[],h=>by simp at h
 |f::fs,x::xs,h=>by
  have:=TY (vs:=vs) (name:=name) fs xs (by simpa using h);simp only[dC,acY,ac5];omega
def Wr:∀(ts bs:List (List ar)),(∀t∈ts,1<=t.length)->bs.length<=ts.length+1->2*bs.length<=(cF ts bs).length+2
 |_,[],_,_=>by simp
 |[],b::r,_,h=>by
  have AV:r=[]:=adf (by simpa using h);subst AV;simp
 |t::ts,b::r,M,h=>by
  have ih:=Wr ts r (λy Ab=>M y (by simp[Ab])) (by simpa using h);have A3:=M t (by simp);unfold cF;simp only[ei,acY,ac5,ac7,mP];omega
def B6(vs:List Vr):∀(l:List (List Sm))(c:Int),(ay vs l c).1.length=l.length
 |[],c=>by simp[ay]
 |b::r,c=>by simp[ay,B6 vs r]
def ZQ{m:Mk}(h:0<=m.most)(l:List ar)(c t:Int):(m.put (ins 11 0 0 0 0) 0).aX l c t=m.aX (jn [ins 11 0 0 0 0] l) c t:=by
 rw[ab9,<-sS (Flat.one (by simp[ins])),Gp];exact qz (by omega)
section
variable {p:Pg} (Y:p.vars.length<=1000) (Z:∀v∈p.vars,dr v=true)
include Y Z
theorem ao2{lp:Bool}{x:Sm}(I:j9 x=true)(h:(lA p.vars lp x).1=0)(A9:∀(lp:Bool) (cs:List Ex),cu (aP x)=true->(fj p.vars lp cs (aP x)).1=0->∀b∈aP x,zr p lp b):ZP p lp x:=by
 intro m hm AA AR hex D J AB;rw[PU]at D;have Ac:oR p.vars x m.cells=jn [ins 11 0 0 0 0] (b8 p.vars x m.cells).1:=rfl;rw[Ac,<-ZQ hm];have AC:(m.put (ins 11 0 0 0 0) 0).out.length=m.out.length+1:=by simp[Mk.put]
 have AD:(m.put (ins 11 0 0 0 0) 0).cells=m.cells:=rfl;have AE:(m.put (ins 11 0 0 0 0) 0).ex=m.ex:=rfl;have A4:0<=(m.put (ins 11 0 0 0 0) 0).most:=by simp[Mk.put];omega
 have AF:kS (m.put (ins 11 0 0 0 0) 0):=AR.put _ _;cases BU I h with
 |@Tc to val line v O AG Ad ft H A0 AS M=>
  have Ae:=qN ft H;have AW:=jV val A0 AS;cases Ae with
  |num h=>simp[bQ]at O
  |qX h=>simp[bQ]at O
  |GY _ _ _ _=>simp[bQ]at O
  |one o _ _ _=>simp[bQ]at O;omega
  |two o _ _ _ _ _ _=>simp[bQ]at O;omega
  |@var name AH AT AN AX Af=>
   refine aee (by omega) rfl ?_;have e:b8 p.vars (.mk 1 [] (.mk 3 0 name [] [] AH) val [] [] [] [] line) m.cells=((ai p.vars val).1++[ins 6 (bu p.vars name).1 0 0 0],m.cells):=by simp[b8,bQ,eh]
   have H:jE (.mk 1 [] (.mk 3 0 name [] [] AH) val [] [] [] [] line)=aV 0 val:=by simp[jE,bQ]
   rw[e]at D⊢;rw[H];simp only[acY,ac5,ac7]at D;show iX p ((m.put (ins 11 0 0 0 0) 0).aX _ (m.put (ins 11 0 0 0 0) 0).cells _) 0 _ _;rw[sS (Flat.app AW (Flat.one (by simp[ins])))];exact ZI Y Z AN A0 AS _ A4 (by omega)
  |@idx name AH AT y AN AX Af AO AY ty=>
   refine aee (by omega) rfl ?_;have Ag:=jV y AO AY;have e:b8 p.vars (.mk 1 [] (.mk 4 0 name [] [y] AH) val [] [] [] [] line) m.cells=((ai p.vars y).1++((ai p.vars val).1++[ins 7 (bu p.vars name).1 0 AT.lo AT.hi]),m.cells):=by simp[b8,bQ,eh,di,oQ,eI AN]
   have H:jE (.mk 1 [] (.mk 4 0 name [] [y] AH) val [] [] [] [] line)=max (iF 0 [y]) (aV 1 val):=by simp[jE,bQ,di]
   have Ah:iF 0 [y]=max (aV 0 y) 0:=by simp[iF]
   rw[e]at D⊢;rw[H,Ah];simp only[acY,ac5,ac7]at D;show iX p ((m.put (ins 11 0 0 0 0) 0).aX _ (m.put (ins 11 0 0 0 0) 0).cells _) 0 _ _;rw[sS (Flat.app Ag (Flat.app AW (Flat.one (by simp[ins])))),show max (max (aV 0 y) 0) (aV 1 val)=max (aV 0 y) (aV 1 val) by have:=pr 0 y;omega];exact ZJ Y Z AN AO AY A0 AS _ A4 (by omega)
 |@Td to val conds blocks line O AP AQ A3 T A5 A1 hh=>
  have A6:∀c∈conds,bm c=true/\(aE p.vars c).e=0:=λc A'=>⟨(fT _).1 AQ c A',(fM (sN T hh c A')).1⟩;have A2:=A9 lp conds A1 hh;have e:b8 p.vars (.mk 2 [] to val conds [] [] blocks line) m.cells=(cF (eB (DP p.vars conds)) (ay p.vars blocks m.cells).1,(ay p.vars blocks m.cells).2):=by simp[b8,La]
  have H:jE (.mk 2 [] to val conds [] [] blocks line)=max (eR (DP p.vars conds)) (cS blocks):=by simp[jE,QY]
  rw[e]at D J⊢;rw[H];simp only at D J;have AZ:(DP p.vars conds).length=conds.length:=by simp[DP]
  have AI:=Wr (eB (DP p.vars conds)) (ay p.vars blocks m.cells).1 (λt M=>by
   rw[La]at M;obtain⟨c,_,rfl⟩:=adk.1 M;have:=ny p.vars c;omega) (by rw[B6];simpa [eB,AZ]using A5)
  rw[B6]at AI;refine aoX (by omega) rfl ?_;have:=Wn (p:=p) (lp:=lp) (s:=.mk 2 [] to val conds [] [] blocks line) (blocks:=blocks) (ts:=DP p.vars conds) (by omega) (by omega) (by omega)
   (λt M=>by
    rw[La]at M;obtain⟨c,A',rfl⟩:=adk.1 M;exact jV c (A6 c A').1 (A6 c A').2)
   (λi t hi m hm AJ=>by
    simp only[DP,adn,ac3]at hi;obtain⟨c,A_,rfl⟩:=hi;have A':=ac6 A_;exact afV Y Z (.mk 2 [] to val conds [] [] blocks line) i c A_ (A6 c A').1 (A6 c A').2 m hm (by simp only at AJ;omega))
   A2 (λb _ c _=>gx b c) (m.put (ins 11 0 0 0 0) 0) A4 AA AF hex (by rw[AD,AC];omega) J (λb U=>by
    have:=H9 U;rw[AE];simp only[B4]at AB;omega)
  rw[AZ]at this;exact this
 |@Tf to val A7 blocks line O A0 AK T A5 Ai A1 hh=>
  have A2:=A9 lp [] A1 hh;have e:b8 p.vars (.mk 3 [] to val [] A7 [] blocks line) m.cells=(jn ((ai p.vars val).1++[ins 6 m.cells 0 0 0]) (cF (A7.map λl=>ins 1 0 0 0 0::dy m.cells l) (ay p.vars blocks (m.cells+1)).1),(ay p.vars blocks (m.cells+1)).2):=by simp[b8]
  have H:jE (.mk 3 [] to val [] A7 [] blocks line)=max (aV 0 val) (max (if A7=[]then 0 else 2) (cS blocks)):=by simp[jE]
  rw[e]at D J⊢;rw[H];simp only[ei,acY,ac5,ac7]at D J;have AI:=Wr (A7.map λl=>ins 1 0 0 0 0::dy m.cells l) (ay p.vars blocks (m.cells+1)).1 (λt M=>by
   obtain⟨l,_,rfl⟩:=adk.1 M;simp) (by rw[B6];simpa using A5)
  rw[B6]at AI;exact aoU (by omega) rfl (acg Y Z A0 (fM AK).1 Ai T A5 (by omega) A2 (λb _ c _=>gx b c) (m.put (ins 11 0 0 0 0) 0) A4 AA AF hex (by rw[AD,AC];omega) J (λb U=>by
   have:=H9 U;rw[AE];simp only[B4]at AB;omega))
 |@Tg name to val x y z b line v AI O AP AG Ad AX M Aj Ak AO Al An Ao A1 hh=>
  have A2:=A9 true [] (by simpa [aP,cu]using A1) (by simp[aP,fj,gS,hh]) b (by simp[aP]);have e:b8 p.vars (.mk 4 name to val [x,y,z] [] [] [b] line) m.cells=(jn (((ai p.vars x).1++((ai p.vars y).1++(ai p.vars z).1))++[ins 6 (m.cells+1) 0 0 0,ins 6 m.cells 0 0 0,ins 6 (bu p.vars name).1 0 0 0]) (lI (bu p.vars name).1 m.cells (ag p.vars b (m.cells+2)).1),(ag p.vars b (m.cells+2)).2):=by simp[b8,gO,lJ]
  have H:jE (.mk 4 name to val [x,y,z] [] [] [b] line)=max (max (iF 0 [x,y,z]) 3) (max (bJ b) 0):=by simp[jE,cS]
  have AL:B4 (.mk 4 name to val [x,y,z] [] [] [b] line)=max (kT b) 0+1:=by simp[B4,A8]
  rw[e]at D J⊢;rw[H,qz (u:=max (max (iF 0 [x,y,z]) 3) (bJ b)) (by omega)];rw[AL]at AB;simp only[ei,acY,ac5,ac7]at D J;exact aoV (by omega) rfl (Wq Y Z AG Aj (fM Ak).1 AO (fM Al).1 An (fM Ao).1 A2 (λc _=>gx b c) (m.put (ins 11 0 0 0 0) 0) A4 AA AF (by simp only[acY];rw[AD,AC];omega) J (by rw[AE];omega))
 |@Th to val b line O A0 AK A1 hh=>
  have A2:=A9 true [] (by simpa [aP,cu]using A1) (by simp[aP,fj,gS,hh]) b (by simp[aP]);have e:b8 p.vars (.mk 5 [] to val [] [] [] [b] line) m.cells=(iK (ai p.vars val).1 (ag p.vars b m.cells).1,(ag p.vars b m.cells).2):=by simp[b8,lJ]
  have H:jE (.mk 5 [] to val [] [] [] [b] line)=max (aV 0 val) (max (bJ b) 0):=by simp[jE,cS]
  have AL:B4 (.mk 5 [] to val [] [] [] [b] line)=max (kT b) 0+1:=by simp[B4,A8]
  rw[e]at D J⊢;rw[H,qz (u:=max (aV 0 val) (bJ b)) (by omega)];rw[AL]at AB;simp only at D J;exact ZO (by omega) (.inl rfl) (ace Y Z A0 (fM AK).1 A2 (m.put (ins 11 0 0 0 0) 0) A4 AA AF (by rw[AD,AC];omega) J (by rw[AE];omega))
 |@rep to val b line O A0 AK A1 hh=>
  have A2:=A9 true [] (by simpa [aP,cu]using A1) (by simp[aP,fj,gS,hh]) b (by simp[aP]);have e:b8 p.vars (.mk 6 [] to val [] [] [] [b] line) m.cells=(mK (ai p.vars val).1 (ag p.vars b m.cells).1,(ag p.vars b m.cells).2):=by simp[b8,lJ]
  have H:jE (.mk 6 [] to val [] [] [] [b] line)=max (aV 0 val) (max (bJ b) 0):=by simp[jE,cS]
  have AL:B4 (.mk 6 [] to val [] [] [] [b] line)=max (kT b) 0+1:=by simp[B4,A8]
  rw[e]at D J⊢;rw[H,qz (u:=max (aV 0 val) (bJ b)) (by omega)];rw[AL]at AB;simp only at D J;exact ZO (by omega) (.inr rfl) (ZN Y Z A0 (fM AK).1 A2 (m.put (ins 11 0 0 0 0) 0) A4 AA AF (by rw[AD,AC];omega) J (by rw[AE];omega))
 |@ext to val line O AP Ap=>
  have e:b8 p.vars (.mk 7 [] to val [] [] [] [] line) m.cells=([ins 9 (-1) 0 0 0],m.cells):=by simp[b8]
  have H:jE (.mk 7 [] to val [] [] [] [] line)=0:=by simp[jE]
  rw[e]at D⊢;rw[H];simp only[ac5,ac7]at D;rcases aiB m.ex with V|⟨pre,row,V⟩
  .exact absurd V (hex Ap)
  .rw[alR]at V;have AV:=AR.2 row (by rw[V];simp);have Aq:m.ex.length=pre.length+1:=by rw[V];simp
   have:=ao1 (p:=p) (x:=.mk 7 [] to val [] [] [] [] line) V (by omega) (by omega) (by omega) rfl;have AU:(m.put (ins 11 0 0 0 0) 0).ext=(m.put (ins 11 0 0 0 0) 0).aX [ins 9 (-1) 0 0 0] m.cells 0:=by
    simp[Mk.ext,Mk.aX,dE,nC,dz,ins,Mk.put]
   rw[AU]at this;exact this
 |@ret to val line O AP=>
  have e:b8 p.vars (.mk 8 [] to val [] [] [] [] line) m.cells=([ins 9 (-2) 0 0 0],m.cells):=by simp[b8]
  have H:jE (.mk 8 [] to val [] [] [] [] line)=0:=by simp[jE]
  rw[e]at D⊢;rw[H];simp only[ac5,ac7]at D;have:=ao0 (p:=p) (x:=.mk 8 [] to val [] [] [] [] line) (m:=m) (by omega) (by have:=AR.1;omega) rfl;have AU:(m.put (ins 11 0 0 0 0) 0).ret=(m.put (ins 11 0 0 0 0) 0).aX [ins 9 (-2) 0 0 0] m.cells 0:=by
   simp[Mk.ret,Mk.aX,dE,nC,dz,ins,Mk.put,qy]
  rw[AU]at this;exact this
 |@Ti name to val conds fields line v AI O AP AG M AQ AJ Ar hh=>
  have Aa:=yf fields conds [] AJ hh;have A6:∀c∈conds,bm c=true/\(aE p.vars c).e=0:=λc A'=>⟨(fT _).1 AQ c A',Aa c A'⟩;have As:=TY (vs:=p.vars) (name:=name) fields conds AJ;have e:b8 p.vars (.mk 9 name to val conds [] fields [] line) m.cells=(dC p.vars name fields conds++[ins 12 (bu p.vars name).1 v.ty 0 0],m.cells):=by simp[b8,eI AG]
  have H:jE (.mk 9 name to val conds [] fields [] line)=nx conds:=by simp[jE]
  rw[e]at D⊢;rw[H];simp only[acY,ac5,ac7]at D;refine aoW (by omega) rfl ?_;show iX p ((m.put (ins 11 0 0 0 0) 0).aX _ (m.put (ins 11 0 0 0 0) 0).cells _) 0 _ _;rw[sS (Flat.app (HS fields conds AQ Aa) (Flat.one (by simp[ins])))];exact afU Y Z AG AJ (by omega) A6 _ A4 (by omega)
mutual
theorem alO:∀(x:Sm)(lp:Bool),j9 x=true->(lA p.vars lp x).1=0->ZP p lp x
 | .mk op name to val conds A7 fields blocks line,lp,I,h=>ao2 Y Z I h (λlp cs A3 T=>Ie blocks lp cs A3 T)
theorem Dl:∀(l:List Sm)(lp:Bool),eA l=true->(fa p.vars lp l).1=0->∀x∈l,ZP p lp x
 |[],_,_,_,x,V=>absurd V (adL)
 |y::r,lp,I,h,x,V=>by
  simp only[eA,Ds]at I;simp only[fa]at h;obtain⟨A3,T⟩:=bM.1 h;rcases ac4.1 V with AM|V
  .rw[AM];exact alO y lp I.1 A3
  .exact Dl r lp I.2 T x V
theorem Ie:∀(l:List (List Sm))(lp:Bool)(cs:List Ex),cu l=true->(fj p.vars lp cs l).1=0->∀b∈l,zr p lp b
 |[],_,_,_,_,b,U=>absurd U (adL)
 |y::r,lp,[],I,h,b,U=>by
  simp only[cu,Ds]at I;simp only[fj]at h;obtain⟨A3,T⟩:=bM.1 h;rcases ac4.1 U with AM|U
  .rw[AM];exact Ic y (Dl y lp I.1 A3)
  .exact Ie r lp [] I.2 T b U
 |y::r,lp,c::cs,I,h,b,U=>by
  simp only[cu,Ds]at I;simp only[fj]at h;obtain⟨A3,T⟩:=bM.1 h;obtain⟨T,A5⟩:=bM.1 T;rcases ac4.1 U with AM|U
  .rw[AM];exact Ic y (Dl y lp I.1 T)
  .exact Ie r lp cs I.2 A5 b U
end
theorem af6{l:List Sm}{lp:Bool}(I:eA l=true)(h:(fa p.vars lp l).1=0):zr p lp l:=Ic l (Dl Y Z l lp I h)
end
def rm:List Vr->Int->List Int
 |[],_=>[]
 |v::r,n=>n::rm r (n+cB v)
def Ig:List Vr->List Int
 |[]=>[]
 |v::r=>(if v.arr=false/\v.ty<=2 then [v.init]else List.replicate (cB v).toNat 0)++Ig r
@[simp] def alP(v1 v2 v3:Nat)(H:aF)(S:List Int)(n:Int)(F:List Int):List dn:=[⟨250,1,.box [.vec 251 v1 0 S.length,.d (.int .i64 n),.vec 252 v2 0 F.length]⟩,⟨251,v1,.vec 1 (S.map eQ)⟩,⟨252,v2,.vec 1 (F.map eQ)⟩,⟨350,v3,H⟩]
def QZ(l:List Vr)(Z:l.length<=1000)(J:∀v∈l,dr v=true)(B C:dn)(M:B.key=150)(O:C.key=200)(k:Kt)(Q:List Int->Int->List Int->bS->Prop)
 (V:∀(Y:Env) S n F v1 v2 v3 H,Q S n F (k (.exit 0) ⟨51,aB,(2,true,.ptr 200 1 0)::(3,true,.ptr 250 1 0)::Y,B::C::alP v1 v2 v3 H S n F⟩)):∀(rest pre:List Vr)(S:List Int)(n:Int)(F:List Int)(v1 v2 v3:Nat)(H:aF),l=pre++rest->0<=n->n<=1000*pre.length->S.length=pre.length->(F.length:Int)=n->
 Q (S++rm rest n) (n+bW rest) (F++Ig rest) (aL ctx 30 (.loop (Code.at (bh f30) [1,1,0,1,0,0])) ⟨51,aB,[(2,true,.ptr 200 1 0),(3,true,.ptr 250 1 0),(8,true,.d (.list (l.map bF))),(9,true,.d (.int .i64 l.length)),(10,true,.d (.int .i64 pre.length))],B::C::alP v1 v2 v3 H S n F⟩ k)
 |[],pre,S,n,F,v1,v2,v3,H,I,AB,AC,A3,A4=>by
  have AD:pre.length=l.length:=by rw[I];simp
  have:=V [(8,true,.d (.list (l.map bF))),(9,true,.d (.int .i64 l.length)),(10,true,.d (.int .i64 l.length)),(11,true,.d (.bool false))] S n F v1 v2 v3 H;simp[rm,bW,Ig]at this⊢;rw[AD,ah];simp[f30,this]
 |w::rest,pre,S,n,F,v1,v2,v3,H,I,AB,AC,A3,A4=>by
  have A5:pre.length<l.length:=by rw[I];simp
  have A6:l[pre.length]=w:=by simp[I]
  have T:=Qx (J w (by rw[I];simp));have AE:=vG (J w (by rw[I];simp));have ih:=λF' h v1 v2 v3 H=>QZ l Z J B C M O k Q V rest (pre++[w]) (S++[n]) (n+cB w) F' v1 v2 v3 H (by simp[I]) (by omega) (by simp;omega) (by simp[A3]) h;have A7:=b9 ((pre.length:Int)+1);have y:=b9 (n+cB w);have A8:S.length<=4611686018427387903:=by omega
  have A9:(S.length+1)*8<=140737488355328:=by omega
  rw[ah];simp only[rm,bW,Ig];rw[<-Int.add_assoc];by_cases U:w.arr=false/\w.ty<=2
  .have A':cB w=1:=by unfold cB;rw[aaf (by simp[U.1]),aaf (by omega)]
   rw[A']at T ih y AE⊢;have ih:=ih (F++[w.init]) (by simp;omega);have A0:F.length<=4611686018427387903:=by omega
   have A1:(F.length+1)*8<=140737488355328:=by omega
   have A2:IntKind.i64.wrap n=F.length:=by rw[<-A4];exact (b9 _)
   have AF:(F.map eQ++[D.int .i64 0]).set F.length (D.int .i64 w.init)=F.map eQ++[D.int .i64 w.init]:=by
    rw[List.set_append_right _ _ (by simp)];simp
   simp[f30,bF,dK,U,eQ]at ih T⊢;simp[A5,A6,M,O,bF,dK,U,T,A7,y,A8,A9,A0,A1,A2,AF,ih,eQ]
  .have ih:=ih (F++List.replicate (cB w).toNat 0) (by simp;omega);have A2:0<=cB w/\cB w<=4611686018427387904:=by omega
   have A0:F.length+(cB w).toNat<=4611686018427387904:=by omega
   have A1:(F.length+(cB w).toNat)*8<=140737488355328:=by omega
   simp[f30,bF,dK,U,eQ]at ih T⊢;simp[A5,A6,M,O,bF,dK,U,T,A7,y,A8,A9,A0,A1,A2,ih,eQ]
def Lc(p:Pg)(Z:p.vars.length<=1000)(J:∀v∈p.vars,dr v=true):aj ctx 30 [.d (q8 p)] []=some (.ret (.d (.agg [.list ((rm p.vars 0).map eQ),.int .i64 (bW p.vars),.list ((Ig p.vars).map eQ)])),[]):=by
 have AA:=λB C M O k Q V v1 v2 v3 H=>QZ p.vars Z J B C M O k Q V p.vars [] [] 0 [] v1 v2 v3 H rfl (by omega) (by simp) rfl rfl;rw[aof (by simp)];simp[f30]at AA⊢;refine AA _ _ ?_ ?_ _ (λS n F r=>S=rm p.vars 0->n=bW p.vars->F=Ig p.vars->r=some (.ret (.d (.agg [.list ((rm p.vars 0).map eQ),.int .i64 (bW p.vars),.list ((Ig p.vars).map eQ)])),[])) (λY S n F v1 v2 v3 H A' AG AH=>?_) _ _ _ _ rfl rfl rfl
 .rfl
 .rfl
 .subst A' AG AH;simp
def af7(s:Tx)(v:Vr):aj ctx 272 [.d (bF v),.ptr 0 0 0] [.box [.d (.str s)]]=some (.ret (.d (.bool (decide (v.name=s)))),[(0,.box [.d (.str s)])]):=by
 rw[akL (by simp)];simp[f272,bF,dK]
def af8(s:Tx)(p:Pn):aj ctx 243 [.d (gz p),.ptr 0 0 0] [.box [.d (.str s)]]=some (.ret (.d (.bool (decide (p.name=s)))),[(0,.box [.d (.str s)])]):=by
 rw[akH (by simp)];simp[f243,gz]
def MX(s:Tx):∀(rest pre:List Vr),(pre++rest).length<1000000->∀k:Kt,
 aL ctx 224 (.loop (Code.at (bh f224) [1,0,1,0,0])) ⟨19,aB,[(0,true,.d (.list ((pre++rest).map bF))),(1,true,.fn 272 [.ptr 0 0 0]),(7,true,.d (.int .i64 (pre++rest).length)),(8,true,.d (.int .i64 pre.length))],[⟨0,0,.box [.d (.str s)]⟩]⟩ k=
  if jU (λv:Vr=>decide (v.name=s)) rest pre.length<0 then k (.exit 0) ⟨19,aB,[(0,true,.d (.list ((pre++rest).map bF))),(1,true,.fn 272 [.ptr 0 0 0]),(7,true,.d (.int .i64 (pre++rest).length)),(8,true,.d (.int .i64 (pre++rest).length)),(9,true,.d (.bool false))],[⟨0,0,.box [.d (.str s)]⟩]⟩
  else k .ret ⟨19,aB,[(4,true,.d (.int .i64 (jU (λv:Vr=>decide (v.name=s)) rest pre.length)))],[⟨0,0,.box [.d (.str s)]⟩]⟩
 |[],pre,D,k=>by
  rw[ah];simp[f224,jU]
 |x::rest,pre,D,k=>by
  obtain⟨b,I⟩:∃b,b=(λv:Vr=>decide (v.name=s)) x:=⟨_,rfl⟩;have J:aj ctx 272 [.d (bF x),.ptr 0 0 0] [.box [.d (.str s)]]=some (.ret (.d (.bool b)),[(0,.box [.d (.str s)])]):=by rw[I];exact af7 s x
  have key:jU (λv:Vr=>decide (v.name=s)) (x::rest) pre.length=if b=true then (pre.length:Int)else jU (λv:Vr=>decide (v.name=s)) rest (pre.length+1):=by rw[I];rfl
  have ih:=MX s rest (pre++[x]) (by simpa using D) k;have H:(pre.length:Int)<pre.length+(rest.length+1):=by omega
  have M:IntKind.i64.wrap ((pre.length:Int)+1)=pre.length+1:=jb (by unfold bz;simp at D;omega);have O:¬((pre.length:Int)<0):=by omega
  try simp[bF,dK]at J
  rw[ah,key];clear I key;cases b with
  |true=>simp[f224,H,M,O,J,bF,dK]
  |false=>
   simp[f224,bF,dK]at ih⊢;simp[H,M,J,ih,bF,dK]
def af9(s:Tx)(l:List Vr)(D:l.length<1000000):aj ctx 224 [.d (.list (l.map bF)),.fn 272 [.ptr 0 0 0]] [.box [.d (.str s)]]=some (.ret (.d (.int .i64 (jU (λv:Vr=>decide (v.name=s)) l 0))),[(0,.box [.d (.str s)])]):=by
 have h:=λk=>MX s l [] (by simpa using D) k;rw[akz (by simp)];simp[f224]at h⊢;simp[h];intro h;rcases xS (λv:Vr=>decide (v.name=s)) l 0 with H|H
 .exact H.symm
 .omega
def MY(s:Tx):∀(rest pre:List Pn),(pre++rest).length<1000000->∀k:Kt,
 aL ctx 232 (.loop (Code.at (bh f232) [1,0,1,0,0])) ⟨19,aB,[(0,true,.d (.list ((pre++rest).map gz))),(1,true,.fn 243 [.ptr 0 0 0]),(7,true,.d (.int .i64 (pre++rest).length)),(8,true,.d (.int .i64 pre.length))],[⟨0,0,.box [.d (.str s)]⟩]⟩ k=
  if jU (λq:Pn=>decide (q.name=s)) rest pre.length<0 then k (.exit 0) ⟨19,aB,[(0,true,.d (.list ((pre++rest).map gz))),(1,true,.fn 243 [.ptr 0 0 0]),(7,true,.d (.int .i64 (pre++rest).length)),(8,true,.d (.int .i64 (pre++rest).length)),(9,true,.d (.bool false))],[⟨0,0,.box [.d (.str s)]⟩]⟩
  else k .ret ⟨19,aB,[(4,true,.d (.int .i64 (jU (λq:Pn=>decide (q.name=s)) rest pre.length)))],[⟨0,0,.box [.d (.str s)]⟩]⟩
 |[],pre,D,k=>by
  rw[ah];simp[f232,jU]
 |x::rest,pre,D,k=>by
  obtain⟨b,I⟩:∃b,b=(λq:Pn=>decide (q.name=s)) x:=⟨_,rfl⟩;have J:aj ctx 243 [.d (gz x),.ptr 0 0 0] [.box [.d (.str s)]]=some (.ret (.d (.bool b)),[(0,.box [.d (.str s)])]):=by rw[I];exact af8 s x
  have key:jU (λq:Pn=>decide (q.name=s)) (x::rest) pre.length=if b=true then (pre.length:Int)else jU (λq:Pn=>decide (q.name=s)) rest (pre.length+1):=by rw[I];rfl
  have ih:=MY s rest (pre++[x]) (by simpa using D) k;have H:(pre.length:Int)<pre.length+(rest.length+1):=by omega
  have M:IntKind.i64.wrap ((pre.length:Int)+1)=pre.length+1:=jb (by unfold bz;simp at D;omega);have O:¬((pre.length:Int)<0):=by omega
  try simp[gz]at J
  rw[ah,key];clear I key;cases b with
  |true=>simp[f232,H,M,O,J,gz]
  |false=>
   simp[f232,gz]at ih⊢;simp[H,M,J,ih,gz]
def aga(s:Tx)(l:List Pn)(D:l.length<1000000):aj ctx 232 [.d (.list (l.map gz)),.fn 243 [.ptr 0 0 0]] [.box [.d (.str s)]]=some (.ret (.d (.int .i64 (jU (λq:Pn=>decide (q.name=s)) l 0))),[(0,.box [.d (.str s)])]):=by
 have h:=λk=>MY s l [] (by simpa using D) k;rw[Zs (by simp)];simp[f232]at h⊢;simp[h];intro h;rcases xS (λq:Pn=>decide (q.name=s)) l 0 with H|H
 .exact H.symm
 .omega
@[simp] def okZ(p:Int×Bool):AV:=.bq [.d (.int .i64 p.1),.d (.bool p.2)]
@[simp] def alQ(p:Int×Int):AV:=.bq [.d (.int .i64 p.1),.d (.int .i64 p.2)]
def aci(a b:Int)(I:bz a)(A':bz b):aj ctx 235 [.d (.int .i64 a),.d (.int .i64 b)] []=some (.ret (okZ (mm (a+b))),[]):=by
 have hw:IntKind.i64.wrap (a+b)=(a+b+9223372036854775808)%18446744073709551616-9223372036854775808:=IntKind.wrap_i64 _;unfold bz at I A';rw[akC (by simp)];unfold mm;by_cases H:0<=a<;>by_cases D:0<=b<;>by_cases V:0<=IntKind.i64.wrap (a+b)<;>by_cases U:(-9223372036854775808<=a+b/\a+b<=9223372036854775807)<;>
  first
  |(exfalso;omega)
  |(simp[f235,H,D,V,U];try omega)
def Q0(a b:Int)(I:bz a)(A':bz b):aj ctx 234 [.d (.int .i64 a),.d (.int .i64 b)] []=some (.ret (okZ (mm (a-b))),[]):=by
 have hw:IntKind.i64.wrap (a-b)=(a-b+9223372036854775808)%18446744073709551616-9223372036854775808:=IntKind.wrap_i64 _;unfold bz at I A';rw[akB (by simp)];unfold mm;by_cases H:0<=a<;>by_cases D:0<=b<;>by_cases V:0<=IntKind.i64.wrap (a-b)<;>by_cases U:(-9223372036854775808<=a-b/\a-b<=9223372036854775807)<;>
  first
  |(exfalso;omega)
  |(simp[f234,H,D,V,U];try omega)
def MZ(a:Int)(I:bz a):aj ctx 268 [.d (.int .i64 a)] []=some (.ret (.d (.int .u64 (a.natAbs:Nat))),[]):=by
 unfold bz at I;rw[akJ (by simp)];have H:=IntKind.wrap_u64 a;by_cases h:a<0
 .have D:IntKind.u64.wrap (-IntKind.u64.wrap a)=(a.natAbs:Nat):=by rw[H,IntKind.wrap_u64];omega
  simp[f268,h,D]
 .have D:IntKind.u64.wrap a=(a.natAbs:Nat):=by rw[H];omega
  simp[f268,h,D]
def Sg(n:Nat)(As:n<18446744073709551616)(s:Bool):aj ctx 269 [.d (.int .u64 n),.d (.bool s)] []=some (.ret (okZ (mm (if s=true then-(n:Int)else n))),[]):=by
 rw[akK (by simp)];have H:=IntKind.wrap_i64 (n:Int);unfold mm;cases s
 .by_cases h:n<=9223372036854775807
  .have D:(n:Int)<=9223372036854775807:=by omega
   have V:IntKind.i64.wrap (n:Int)=n:=by rw[H];omega
   have U: -9223372036854775808<=(n:Int):=by omega
   simp[f269,D,V,U]
  .have D:¬(n:Int)<=9223372036854775807:=by omega
   simp[f269,D]
 .by_cases h:n<=9223372036854775808
  .have D:(n:Int)<=9223372036854775808:=by omega
   have V:IntKind.i64.wrap (-(IntKind.i64.wrap (n:Int)))= -(n:Int):=by rw[H,IntKind.wrap_i64];omega
   have U: -9223372036854775808<= -(n:Int):=by omega
   have Ac: -(n:Int)<=9223372036854775807:=by omega
   simp[f269,D,V,U,Ac]
  .have D:¬(n:Int)<=9223372036854775808:=by omega
   have U:¬ -9223372036854775808<= -(n:Int):=by omega
   simp[f269,D,U]
def Dm(k:IntKind)(a b:Int):Int:=k.wrap (BitVec.ofInt k.bits a &&& BitVec.ofInt k.bits b).toNat
def Q1(k:IntKind)(a b:Int):Int:=k.wrap (BitVec.ofInt k.bits a ||| BitVec.ofInt k.bits b).toNat
def J7(k:IntKind)(a b:Int):gU .and k a b=some (true,.int k (Dm k a b)):=rfl
def ZR(k:IntKind)(a b:Int):gU .or k a b=some (true,.int k (Q1 k a b)):=rfl
def ao3(a:Nat)(I:a<18446744073709551616):Dm .u64 (a:Int) 4294967295=((a%4294967296:Nat):Int):=by
 show IntKind.u64.wrap (BitVec.ofInt 64 (a:Int) &&& BitVec.ofInt 64 4294967295).toNat=_;have e:(BitVec.ofInt 64 (a:Int) &&& BitVec.ofInt 64 4294967295).toNat=a%4294967296:=by
  rw[BitVec.toNat_and,BitVec.toNat_ofInt,BitVec.toNat_ofInt];have Ad:((a:Int)%((2^64:Nat):Int)).toNat=a:=by omega
  have Ae:((4294967295:Int)%((2^64:Nat):Int)).toNat=4294967295:=by decide
  rw[Ad,Ae];exact Nat.and_two_pow_sub_one_eq_mod a 32
 rw[e,IntKind.wrap_u64];omega
def ZS(x y:Nat)(A7:x<18446744073709551616)(A8:y<18446744073709551616):
 aj ctx 267 [.d (.int .u64 x),.d (.int .u64 y)] []=some (.ret (.bq [.d (.int .u64 (x*y/18446744073709551616:Nat)),.d (.int .u64 (x*y%18446744073709551616:Nat))]),[]):=by
 have A9:∀a:Nat,a<18446744073709551616->Dm .u64 (a:Int) 4294967295=((a%4294967296:Nat):Int):=λa I=>ao3 a I;have A1:∀a:Nat,(a:Int).fdiv 4294967296=((a/4294967296:Nat):Int):=λa=>by rw[Int.fdiv_eq_ediv_of_nonneg _ (by decide)];omega
 have mul':∀a b:Nat,(a:Int)*(b:Int)=((a*b:Nat):Int):=λa b=>(Int.natCast_mul a b).symm;have A4:∀a b:Nat,(a:Int)+(b:Int)=((a+b:Nat):Int):=λa b=>(Int.natCast_add a b).symm;have Y:∀a:Nat,a<18446744073709551616->IntKind.u64.wrap (a:Int)=(a:Int):=λa h=>by rw[IntKind.wrap_u64];omega
 have AM:∀a:Nat,IntKind.u64.wrap (a:Int)=((a%18446744073709551616:Nat):Int):=λa=>by rw[IntKind.wrap_u64];omega
 obtain⟨A5,A2,A3,Z⟩:=Lib.mul64_hi x y A7 A8;have AA:=Lib.half_mul_le (a:=x/4294967296) (b:=y/4294967296) (by omega) (by omega);have AB:=Lib.half_mul_le (a:=x/4294967296) (b:=y%4294967296) (by omega) (by omega);have AC:=Lib.half_mul_le (a:=x%4294967296) (b:=y/4294967296) (by omega) (by omega);have AN:=A9 x A7;have AO:=A9 y A8;have f1:=A1 x;have f2:=A1 y;have Af:x%4294967296<4294967296:=by omega
 have Ag:x/4294967296<4294967296:=by omega
 have Ah:y%4294967296<4294967296:=by omega
 have Ai:y/4294967296<4294967296:=by omega
 have AP:IntKind.u64.wrap ((x:Int)*(y:Int))=((x*y%18446744073709551616:Nat):Int):=by rw[mul',AM]
 have AQ:x*y/18446744073709551616<18446744073709551616:=by
  have:x*y<18446744073709551616*18446744073709551616:=Nat.mul_lt_mul_of_lt_of_lt A7 A8;omega
 generalize x*y%18446744073709551616=lo at AP⊢;generalize x*y/18446744073709551616=hi at Z AQ⊢;generalize x%4294967296=J at A5 A2 A3 Z AA AB AC AN Af;generalize x/4294967296=M at A5 A2 A3 Z AA AB AC f1 Ag;generalize y%4294967296=O at A5 A2 A3 Z AA AB AC AO Ah;generalize y/4294967296=T at A5 A2 A3 Z AA AB AC f2 Ai;generalize AR:M*O+J*O/4294967296=t at A2 A3 Z;generalize AS:t%4294967296+J*T=AD at A3 Z;have AT:IntKind.u64.wrap ((J:Int)*(O:Int))=((J*O:Nat):Int):=by rw[mul',Y _ A5]
 have AU:IntKind.u64.wrap ((M:Int)*(O:Int))=((M*O:Nat):Int):=by rw[mul',Y _ (by omega)]
 have AG:IntKind.u64.wrap (((M*O:Nat):Int)+((J*O/4294967296:Nat):Int))=(t:Int):=by rw[A4,AR,Y _ A2]
 have AW:IntKind.u64.wrap ((J:Int)*(T:Int))=((J*T:Nat):Int):=by rw[mul',Y _ (by omega)]
 have AH:IntKind.u64.wrap (((t%4294967296:Nat):Int)+((J*T:Nat):Int))=(AD:Int):=by rw[A4,AS,Y _ A3]
 have AY:IntKind.u64.wrap ((M:Int)*(T:Int))=((M*T:Nat):Int):=by rw[mul',Y _ (by omega)]
 have AE:IntKind.u64.wrap (((M*T:Nat):Int)+((t/4294967296:Nat):Int))=((M*T+t/4294967296:Nat):Int):=by rw[A4,Y _ (by omega)]
 have AF:IntKind.u64.wrap (((M*T+t/4294967296:Nat):Int)+((AD/4294967296:Nat):Int))=(hi:Int):=by rw[A4,Z,Y _ AQ]
 have Aj:=λa=>A1 a;have mt:=A9 t A2;rw[akI (by simp)];have f3:=A1 t;have f4:=A1 AD;have f5:=A1 (J*O);clear Aj A9 A1 A4 Y AM AR AS Z;generalize At:J*O/4294967296=Au at AG f5;generalize Av:J*O=Aw at AT f5;generalize Ax:M*O=Ay at AU AG;generalize Az:J*T=B' at AW AH;generalize B0:t/4294967296=Ak at AE AF f3;generalize B1:t%4294967296=B2 at AH mt;generalize B3:AD/4294967296=wd at AF f4;generalize B4:M*T+Ak=B5 at AE AF;generalize B6:M*T=B7 at AY AE;simp[f267, -gU.eq_6,J7,Hj,IntKind.bits,AN,AO,f1,f2,f3,f4,f5,mt,AT,AU,AG,AW,AH,AY,AE,AF,AP]
def acj(a b:Int)(I:bz a)(A':bz b):aj ctx 236 [.d (.int .i64 a),.d (.int .i64 b)] []=some (.ret (okZ (mm (a*b))),[]):=by
 have AZ:=MZ a I;have A_:=MZ b A';unfold bz at I A';have Al:a.natAbs<18446744073709551616:=by omega
 have An:b.natAbs<18446744073709551616:=by omega
 have hm:=ZS _ _ Al An;have Aa:=aeR a b;have Ab:=λs=>Sg (a.natAbs*b.natAbs%18446744073709551616) (by omega) s;generalize A7:a.natAbs=x at*;generalize A8:b.natAbs=y at*;have mul':((x*y:Nat):Int)=(x:Int)*(y:Int):=Int.natCast_mul x y;generalize x*y=p at*;have A6:(a<0↔b<0)=(decide (a<0)=decide (b<0)):=by simp
 rw[akD (by simp)];have AI:¬p/18446744073709551616=0->mm (a*b)=(0,false):=by
  intro h;unfold mm;rw[aaf];rw[Aa];split<;>omega
 by_cases AJ:p/18446744073709551616=0
 .have Ao:p%18446744073709551616=p:=by omega
  rw[Ao]at Ab hm;rw[AJ]at hm;have e:(if (decide (a<0) != decide (b<0))=true then-(p:Int)else (p:Int))=a*b:=by
   rw[Aa];by_cases h:decide (a<0)=decide (b<0)<;>simp[h]
  have AK:=Ab (decide (a<0) != decide (b<0));rw[e]at AK;try simp at hm
  try simp at AK
  simp[f236,AZ,A_,hm,AK]
 .have AI:=AI AJ;have Ap:¬((p/18446744073709551616:Nat):Int)=0:=by omega
  generalize p/18446744073709551616=q at*;generalize p%18446744073709551616=r at*;try simp at hm
  simp[f236,AZ,A_,hm,AI,AJ,Ap]
def ack(a b:Int)(I:bz a)(A':bz b):aj ctx 237 [.d (.int .i64 a),.d (.int .i64 b)] []=some (.ret (alQ (AX a b)),[]):=by
 rw[akE (by simp)];unfold AX;by_cases A0:b=0
 .simp[f237,A0]
 .by_cases H:a= -9223372036854775808
  .by_cases D:b= -1
   .simp[f237,A0,H,D]
   .have w:IntKind.i64.wrap (a.tdiv b)=a.tdiv b:=jb (by
     have AL:=HN a b;unfold bz at*;have hle:a.natAbs/b.natAbs<=9223372036854775808:=by
      have:=Nat.div_le_self a.natAbs b.natAbs;omega
     have Aq:decide (a<0)=decide (b<0)->a.natAbs/b.natAbs<=4611686018427387904:=by
      intro A6;rw[H]at A6;simp at A6;have Ar:2<=b.natAbs:=by omega
      have V:=Nat.div_le_div_left Ar (by decide) (a:=a.natAbs);have U:a.natAbs=9223372036854775808:=by omega
      rw[U]at V⊢;exact V
     generalize a.natAbs/b.natAbs=q at*;split at AL
     .rename_i A6;have:=Aq A6;omega
     .omega)
    rw[H]at w;simp at w;simp[f237,A0,H,D,w]
  .have w:IntKind.i64.wrap (a.tdiv b)=a.tdiv b:=jb (by
    have AL:=HN a b;unfold bz at*;have hle:a.natAbs/b.natAbs<=a.natAbs:=Nat.div_le_self _ _;generalize a.natAbs/b.natAbs=q at*;split at AL<;>omega)
   simp[f237,A0,H,w]
def acm(a b:Int)(I:bz a)(A':bz b):aj ctx 238 [.d (.int .i64 a),.d (.int .i64 b)] []=some (.ret (alQ (CX a b)),[]):=by
 rw[akF (by simp)];unfold CX;by_cases A0:b=0
 .simp[f238,A0]
 .by_cases D:b= -1
  .simp[f238,A0,D]
  .simp[f238,A0,D]
def tU(b:Bool):aj ctx 174 [.d (.bool b)] []=some (.ret (.d (.int .i64 (cg b))),[]):=by
 rw[aki (by simp)];cases b<;>simp[f174,cg]
@[simp] def wr0:IntKind.i64.wrap 0=0:=rfl
@[simp] def wr1:IntKind.i64.wrap 1=1:=rfl
@[simp] def wr2:IntKind.i64.wrap 2=2:=rfl
@[simp] def wr3:IntKind.i64.wrap 3=3:=rfl
@[simp] def wr4:IntKind.i64.wrap 4=4:=rfl
@[simp] def awy:IntKind.i64.wrap (-1)= -1:=rfl
@[simp] def wu0:IntKind.u64.wrap 0=0:=rfl
@[simp] def wu1:IntKind.u64.wrap 1=1:=rfl
def ZT(op a:Int)(t:Bool)(D:bz a)(y:t=true->a=0\/a=1):aj ctx 182 [.d (.int .i64 op),.d (.int .i64 a),.d (.bool t)] []=some (.ret (GW (jl op a t)),[]):=by
 have Y:=Q0 0 a (by unfold bz;omega) D;rw[akq (by simp)];unfold jl;generalize mm (0-a)=p at*;cases t
 .by_cases Z:op=6
  .simp at Y;cases H:p.2<;>simp[f182,Z,H,Y,px]
  .simp[f182,Z,hU]
 .rcases y rfl with rfl|rfl<;>by_cases O:op=7
  .simp[f182,O,cg,wr0,wr1]
  .simp[f182,O,hU]
  .simp[f182,O,cg,wr0,wr1]
  .simp[f182,O,hU]
def Q3(op a b:Int)(D:a=0\/a=1)(I:b=0\/b=1):aj ctx 183 [.d (.int .i64 op),.d (.int .i64 a),.d (.int .i64 b)] []=some (.ret (GW (wX op a b)),[]):=by
 have A':Dm .i64 0 0=0:=by decide
 have A0:Dm .i64 0 1=0:=by decide
 have A1:Dm .i64 1 0=0:=by decide
 have A2:Dm .i64 1 1=1:=by decide
 have A3:Q1 .i64 0 0=0:=by decide
 have A4:Q1 .i64 0 1=1:=by decide
 have A5:Q1 .i64 1 0=1:=by decide
 have A6:Q1 .i64 1 1=1:=by decide
 rw[akr (by simp)];unfold wX;have M:op=13\/op=14\/op=20\/op=19\/op=21\/(op≠13/\op≠14/\op≠20/\op≠19/\op≠21):=by omega
 rcases D with rfl|rfl<;>rcases I with rfl|rfl<;>rcases M with rfl|rfl|rfl|rfl|rfl|⟨A7,A8,J,A9,AA⟩<;>
  simp[f183,tU, -gU.eq_6, -gU.eq_7,J7,ZR,cg,hU, *]
def Q4(op a b:Int)(h:13<=op/\op<=18):aj ctx 185 [.d (.int .i64 op),.d (.int .i64 a),.d (.int .i64 b)] []=some (.ret (GW (xo op a b)),[]):=by
 rw[akt (by simp)];unfold xo;have M:op=13\/op=14\/op=15\/op=16\/op=17\/op=18:=by omega
 rcases M with rfl|rfl|rfl|rfl|rfl|rfl<;>simp[f185,tU,bne]
def Q5(op a b:Int)(h:8<=op/\op<=12)(D:bz a)(I:bz b):aj ctx 184 [.d (.int .i64 op),.d (.int .i64 a),.d (.int .i64 b)] []=some (.ret (GW (xo op a b)),[]):=by
 have q1:=aci a b D I;have q2:=Q0 a b D I;have q3:=acj a b D I;have T:=ack a b D I;have U:=acm a b D I;have M:op=8\/op=9\/op=10\/op=11\/op=12:=by omega
 rw[aks (by simp)];unfold xo;generalize mm (a+b)=f1 at*;generalize mm (a-b)=f2 at*;generalize mm (a*b)=f3 at*;generalize AX a b=f4 at*;generalize CX a b=f5 at*;simp at q1 q2 q3 T U;rcases M with rfl|rfl|rfl|rfl|rfl
 .cases H:f1.2<;>simp[f184,q1,H,px]
 .cases H:f2.2<;>simp[f184,q2,H,px]
 .cases H:f3.2<;>simp[f184,q3,H,px]
 .by_cases J:f4.2=3
  .simp[f184,T,J,oO]
  .by_cases V:f4.2=0<;>simp[f184,T,V,J,oO]
 .by_cases J:f5.2=3
  .simp[f184,U,J,oO]
  .by_cases V:f5.2=0<;>simp[f184,U,V,J,oO]
@[simp] def jD(n:Int):D:=.int .i64 n
def xU(b:Bool):aj ctx 119 [.d (.bool b)] []=some (.ret (.d (.int .i64 (cg b))),[]):=by
 rw[ajX (by simp)];cases b<;>simp[f119,cg]
def agb(a b q e:Int)(he:bz e)(M:bz b):aj ctx 186 [.ptr 0 0 0] [.box [.vec 1 0 0 4],.vec 1 [.int .i64 a,.int .i64 b,.int .i64 q,.int .i64 e]]=
 some (.ret (.bq []),[(0,.box [.vec 1 0 0 4]),(0,.vec 1 [.int .i64 a,.int .i64 b,.int .i64 q,.int .i64 (DK e b)])]):=by
 rw[Zr (by simp)];unfold DK;by_cases h:e<b
 .have w:IntKind.i64.wrap (e+1)=e+1:=jb (by unfold bz at*;omega);simp[f186,h,w,ak]
 .simp[f186,h,ak]
def agc(a b q e p r:Int)(he:bz e)(M:bz b):aj ctx 186 [.ptr 0 0 0] [.box [.vec 1 0 0 6],.vec 1 [.int .i64 a,.int .i64 b,.int .i64 q,.int .i64 e,.int .i64 p,.int .i64 r]]=
 some (.ret (.bq []),[(0,.box [.vec 1 0 0 6]),(0,.vec 1 [.int .i64 a,.int .i64 b,.int .i64 q,.int .i64 (DK e b),.int .i64 p,.int .i64 r])]):=by
 rw[Zr (by simp)];unfold DK;by_cases h:e<b
 .have w:IntKind.i64.wrap (e+1)=e+1:=jb (by unfold bz at*;omega);simp[f186,h,w,ak]
 .simp[f186,h,ak]
def J8(k a b q e:Int)(U:k=10\/k=11)(he:bz e)(M:bz b):aj ctx 117 [.d (.int .i64 k),.vec 0 0 0 4] [.vec 1 [.int .i64 a,.int .i64 b,.int .i64 q,.int .i64 e]]=
 some (.ret (.bq []),[(0,.vec 1 ((xO k a b q e).map jD))]):=by
 have hu:=agb a b q e he M;have H:=xU;unfold xO;generalize DK e b=u at*;rw[Zn (by simp)];rcases U with rfl|rfl
 .by_cases h:a=0<;>simp[f117,h,hu,H,ak]
 .by_cases h:a=0
  .subst h;by_cases V:q=0<;>simp[f117,V,hu,H,ak]
  .simp[f117,h,hu,H,ak]
def Ws(a b q e p r:Int)(he:bz e)(M:bz b):aj ctx 117 [.d (.int .i64 12),.vec 0 0 0 6] [.vec 1 [.int .i64 a,.int .i64 b,.int .i64 q,.int .i64 e,.int .i64 p,.int .i64 r]]=
 some (.ret (.bq []),[(0,.vec 1 ((sf 12 a b q e p r).map jD))]):=by
 have hu:=λa q e p r he=>agc a b q e p r he M;have H:=xU;unfold sf tpS;rw[Zn (by simp)];have Y:bz 0:=by unfold bz;omega
 by_cases I:a=0
 .subst I;by_cases J:r=0
  .simp[f117,J,H,ak,bne]
  .by_cases O:e<b<;>simp[f117,J,H,hu,he,O,ak,bne]
 .by_cases J:r=0
  .subst J;by_cases T:p=0
   .subst T;by_cases O:0<b<;>simp[f117,I,H,hu,Y,O,ak,bne]
   .simp[f117,I,T,H,ak,bne]
  .by_cases T:p=0
   .subst T;by_cases O:e<b<;>simp[f117,I,J,H,hu,he,O,ak,bne]
   .by_cases O:e<b<;>simp[f117,I,J,T,H,hu,he,O,ak,bne]
def G9(k a b q e p r:Int)(U:k=13\/k=14)(he:bz p):aj ctx 118 [.d (.int .i64 k),.vec 0 0 0 6] [.vec 1 [.int .i64 a,.int .i64 b,.int .i64 q,.int .i64 e,.int .i64 p,.int .i64 r]]=
 some (.ret (.bq []),[(0,.vec 1 ((sf k a b q e p r).map jD))]):=by
 have H:=xU;unfold sf cuS cdS;unfold bz at he;rw[ajW (by simp)];rcases U with rfl|rfl
 .by_cases M:b=0
  .by_cases I:a=0
   .simp[f118,I,M,H,ak,bne]
   .by_cases J:r=0
    .by_cases O:p<9223372036854775807
     .have w:IntKind.i64.wrap (p+1)=p+1:=jb (by unfold bz at*;omega);simp[f118,I,M,J,O,w,H,ak,bne]
     .simp[f118,I,M,J,O,H,ak,bne]
    .simp[f118,I,M,J,H,ak,bne]
  .by_cases I:a=0<;>by_cases J:r=0<;>simp[f118,I,M,J,H,ak,bne]
 .by_cases M:b=0
  .by_cases I:a=0
   .simp[f118,I,M,H,ak,bne]
   .by_cases J:r=0
    .by_cases O: -9223372036854775808<p
     .have w:IntKind.i64.wrap (p-1)=p-1:=jb (by unfold bz at*;omega);simp[f118,I,M,J,O,w,H,ak,bne]
     .simp[f118,I,M,J,O,H,ak,bne]
    .simp[f118,I,M,J,H,ak,bne]
  .by_cases I:a=0<;>by_cases J:r=0<;>simp[f118,I,M,J,H,ak,bne]
def Ld{s:Tx}{w:Vr}:∀(l:List Vr)(n:Int)(a:Nat),bj l s=some w->∃i:Nat,jU (λv:Vr=>decide (v.name=s)) l a=((a+i:Nat):Int)/\l[i]?=some w/\(rm l n)[i]?=some (qo l s n).1
 |[],_,_,h=>by simp[bj]at h
 |v::r,n,a,h=>by
  simp only[bj]at h;simp only[jU,rm,qo];by_cases O:v.name=s
  .rw[ac1 O]at h;cases h;exact⟨0,by simp[O],rfl,by simp[O]⟩
  .rw[aaf O]at h;obtain⟨i,H,I,T⟩:=Ld r (n+cB v) (a+1) h;refine⟨i+1,?_,by simpa using I,?_⟩
   .simp only[O,decide_false,ahs,adN];rw[H];congr 1;omega
   .rw[aaf O];simpa using T
def zu:∀(l:List Vr)(n:Int),(rm l n).length=l.length
 |[],_=>rfl
 |v::r,n=>by simp[rm,zu r]
def J9(v:Vr):D:=.list ((dQ v.ty).map gz)
@[simp] def rnB(p:Pg)(C:List Int)(f v:Nat):aF:=.box [.d (.str p.name),.d (.list (p.vars.map bF)),.d (.list (p.body.map bZ)),.d (.list ((rm p.vars 0).map eQ)),.vec 1 0 0 p.vars.length,.vec 2 v 0 C.length,.d (.int .i64 f)]
@[simp] def my(p:Pg)(C:List Int)(f:Nat):List aF:=[rnB p C f 0,.vec 1 (p.vars.map J9),.vec 1 (C.map jD)]
@[simp] def uz(p:Pg)(C:List Int)(f v:Nat):List (Nat×aF):=[(0,rnB p C f v),(0,.vec 1 (p.vars.map J9)),(v,.vec 1 (C.map jD))]
def oz(e:Int):D:=.agg [.int .i64 e]
section
variable {p:Pg} (J:p.vars.length<=1000)
include J
theorem Ha(s:Tx)(C:List Int)(f:Nat):aj ctx 241 [.ptr 0 0 0,.d (.str s)] (my p C f)=some (.ret (.d (.int .i64 (jU (λv:Vr=>decide (v.name=s)) p.vars 0))),uz p C f 0):=by
 have h:=af9 s p.vars (by omega);rw[akG (by simp)];try simp at h
 simp[f241,h]
theorem yh{s:Tx}{w:Vr}(U:bj p.vars s=some w)(C:List Int)(f:Nat):aj ctx 193 [.ptr 0 0 0,.d (.str s)] (my p C f)=some (.ret (.bq [.d (.int .i64 (bu p.vars s).1),.d (bF w)]),uz p C f 0):=by
 have h:=Ha J s C f;obtain⟨i,H,I,T⟩:=Ld p.vars 0 0 U;rw[agT]at H;rw[H]at h;have hi:=(aap.1 I).1;have Y:i<(rm p.vars 0).length:=by rw[zu];exact hi
 have g2:p.vars[i]=w:=(aap.1 I).2;have g3:(rm p.vars 0)[i]=(bu p.vars s).1:=(aap.1 T).2;rw[aku (by simp)];simp at h;have A3:=zu p.vars 0;simp[f193,h,ak,hi,Y,g2,g3,bF,dK]
theorem ZU{s fl:Tx}{w:Vr}{q:Pn}(U:bj p.vars s=some w)(Z:2<w.ty)(A4:mn w.ty fl=some q)(AC:0<=(bu p.vars s).1/\(bu p.vars s).1<=100000)(C:List Int)(f:Nat):aj ctx 197 [.ptr 0 0 0,.d (.str s),.d (.str fl)] (my p C f)=some (.ret (.bq [.d (.int .i64 (eH p.vars s fl).1),.d (gz q)]),uz p C f 0):=by
 have h:=Ha J s C f;obtain⟨i,H,I,T⟩:=Ld p.vars 0 0 U;rw[agT]at H;rw[H]at h;have hi:=(aap.1 I).1;have Y:i<(rm p.vars 0).length:=by rw[zu];exact hi
 have g2:p.vars[i]=w:=(aap.1 I).2;have g3:(rm p.vars 0)[i]=(bu p.vars s).1:=(aap.1 T).2;have AD:=wm w.ty;obtain⟨q0,AE,j,A1,_,AF⟩:=JF (i:=0) A4;have A2:=H8 fl (dQ w.ty) 0;rw[A1]at A2;obtain⟨A5,_,y⟩:=A2;rw[Nat.sub_zero]at y;have A6:(eH p.vars s fl).1=(bu p.vars s).1+j:=by
  unfold eH;rw[U,eI U,ac1 ⟨rfl,Z,q0⟩,A1]
 have A':=aga fl (dQ w.ty) (by omega);rw[A5]at A';have A7:=(aap.1 y).1;have A8:(dQ w.ty)[j]=q:=(aap.1 y).2;have AG:(p.vars.map J9)[i]'(by simpa using hi)=.list ((dQ w.ty).map gz):=by simp[g2,J9]
 have V:=b9 ((bu p.vars s).1+(j:Int));rw[aky (by simp),A6];simp at h A';have A3:=zu p.vars 0;simp[f197,h,ak,hi,Y,g2,g3,J9,A',A7,A8,V,gz]
omit J in
theorem pt(C:List Int)(f:Nat)(AH:f<=1000000):aj ctx 133 [.ptr 0 0 0] (my p C f)=if f=0 then some (.panic 101 (oz 4),uz p C 0 0)else some (.ret (.bq []),uz p C (f-1) 0):=by
 rw[aj0 (by simp)];by_cases h:f=0
 .subst h;simp[f133,oz]
 .have A9:¬((f:Int)=0):=by omega
  have V:IntKind.i64.wrap ((f:Int)-1)=((f-1:Nat):Int):=by rw[show (f:Int)-1=((f-1:Nat):Int) by omega];exact (b9 _)
  simp[f133,h,A9,V]
omit J in
theorem acn(b:Bool):aj ctx 297 [.d (.bool b)] []=some (.ret (.d (.int .i64 (cg b))),[]):=by
 rw[akN (by simp)];cases b<;>simp[f297,cg]
omit J in
theorem Le(C:List Int)(f:Nat){a t:Int}(M:0<=a/\a.toNat<C.length):aj ctx 273 [.ptr 0 0 0,.d (.int .i64 a),.d (.int .i64 t)] (my p C f)=some (.ret (.d (.int .i64 (zh C a t))),uz p C f 0):=by
 obtain⟨n,rfl⟩:∃n:Nat,a=n:=⟨a.toNat,by omega⟩;obtain⟨_,M⟩:=M;simp only[Int.toNat_natCast]at M;have AA:jB C (n:Int)=C[n]:=by unfold jB;simp[M]
 have Z:=λb=>acn b;rw[akM (by simp)];unfold zh;rw[AA];by_cases h:t=2
 .simp[f273,h,M,Z,ak];by_cases A0:C[n]=0
  .simp[A0]
  .simp[A0];exact ahw cg (bne_iff_ne.2 A0)
 .simp[f273,h,M,ak]
omit J in
theorem M0{a n:Int}{w:Vr}(M:0<=a/\a<=100000)(hw:0<=w.lo/\w.hi<=255):aj ctx 195 [.d (.int .i64 a),.d (bF w),.d (.int .i64 n)] []=if n<w.lo\/w.hi<n then some (.panic 101 (oz 3),[])else some (.ret (.d (.int .i64 (a+(n-w.lo)))),[]):=by
 rw[akw (by simp)];by_cases H:n<w.lo
 .simp[f195,bF,dK,H,oz]
 .by_cases I:w.hi<n
  .simp[f195,bF,dK,H,I,oz]
  .have V:=b9 (n-w.lo);have AB:=b9 (a+(n-w.lo));simp[f195,bF,dK,H,I,V,AB]
end
def A9(op a:Int)(t:Bool)(O:bz a):aj ctx 116 [.d (.int .i64 op),.d (.list [.int .i64 a]),.d (.bool t)] []=some (.ret (GW (jl op a t)),[]):=by
 rw[Zm (by simp)];by_cases I:t=true/\a≠0/\a≠1
 .obtain⟨rfl,V,D⟩:=I;simp[f116];rw[ah];simp[V,D,jl,hU]
 .have D:=ZT op a t O (by intro h;subst h;simp at I;omega);have Y:(t&&(a != 0))=true->a=1:=by simp;intro D H;simp[D]at I;exact I H
  generalize jl op a t=p at*;simp at D;cases t
  .simp[f116];rw[ah];simp;rw[ah];simp[D]
  .have Z:a=0\/a=1:=by simp at Y;omega
   rcases Z with rfl|rfl
   .simp[f116];rw[ah];simp;rw[ah];simp[D]
   .simp[f116];rw[ah];simp;rw[ah];simp[D]
def rX(op a b:Int)(t:Bool)(O:bz a)(I:bz b):aj ctx 116 [.d (.int .i64 op),.d (.list [.int .i64 a,.int .i64 b]),.d (.bool t)] []=some (.ret (GW (gR op a b t)),[]):=by
 rw[Zm (by simp)];have cmp:=λh=>Q4 op a b h;have y:=λh=>Q5 op a b h O I;have qX:=λD H=>Q3 op a b D H;unfold gR;cases t
 .have A':¬(8<=op/\op<=12)->¬(13<=op/\op<=18)->xo op a b=hU:=by
   intro D H;unfold xo;simp only[show ¬op=8 by omega,show ¬op=9 by omega,show ¬op=10 by omega,show ¬op=11 by omega,show ¬op=12 by omega,show ¬op=13 by omega,show ¬op=14 by omega,show ¬op=15 by omega,show ¬op=16 by omega,show ¬op=17 by omega,show ¬op=18 by omega,adN]
  generalize xo op a b=p at*;simp[f116];rw[ah];simp;rw[ah];simp;rw[ah];simp;by_cases D:8<=op/\op<=12
  .have r:=y D;simp at r;simp[D.1,D.2,r,ak]
  .by_cases H:13<=op/\op<=18
   .have r:=cmp H;have J:¬op<=12:=by omega
    have M:8<=op:=by omega
    simp at r;simp[H.1,H.2,J,M,r,ak]
   .have A0:=A' D H;subst A0;by_cases U:8<=op
    .have A1:¬op<=12:=by omega
     have T:13<=op:=by omega
     have A2:¬op<=18:=by omega
     simp[U,A1,T,A2,hU]
    .have T:¬13<=op:=by omega
     simp[U,T,hU]
 .by_cases D:a=0\/a=1
  .by_cases H:b=0\/b=1
   .have r:=qX D H;generalize wX op a b=p at*;rcases D with rfl|rfl<;>rcases H with rfl|rfl<;>
     (simp at r
      simp[f116];rw[ah];simp;rw[ah];simp;rw[ah];simp[r,ak])
   .have J:¬b=0:=by omega
    have M:¬b=1:=by omega
    rcases D with rfl|rfl<;>
     (simp[f116]
      rw[ah];simp;rw[ah];simp[J,M,hU])
  .have J:¬a=0:=by omega
   have M:¬a=1:=by omega
   simp[f116];rw[ah];simp[J,M,hU]
def Fx(f:Nat)(I:Int->Nat):Prop:=∀b:Int,∃l:List D,aj ctx f [.d (.int .i64 b)] []=some (.ret (.d (.list l)),[])/\l.length=I b/\I b<=100
def aco(I:Int->Nat)(AH:Fx 45 I)(ins:List ar)(vars cells:Int)(M O:Nat)(S T:List D)(at_:Int)(x:ar)(Y:0<=cells/\cells<=8192)(AJ:ins.length<=5000):
 aj ctx 110 [.ptr 0 0 0,.d (.int .i64 at_),.d (cH x)] [gn ins vars cells (.vec 1 0 0 M) (.vec 2 0 0 O),.vec 1 S,.vec 1 T]=
  some (.ret (.d (.bool (dH I cells ((ins.length:Int)-1) at_ x))),[(0,gn ins vars cells (.vec 1 0 0 M) (.vec 2 0 0 O)),(0,.vec 1 S),(0,.vec 1 T)]):=by
 have U:=Dg ins vars cells M O S T x.a 1 Y (by unfold bz;omega);have H:=b9 ((ins.length:Int)-1);rw[ajS (by simp)];unfold dH;simp at U;by_cases A3:x.op=1
 .simp[f110,H,A3]
 by_cases A4:x.op=11
 .simp[f110,H,A4]
 by_cases A5:x.op=2
 .simp[f110,H,A5,U]
 by_cases A6:x.op=3
 .simp[f110,H,A6,U]
 by_cases A7:x.op=6
 .simp[f110,H,A7,U]
 by_cases A8:x.op=14
 .simp[f110,H,A8,U]
 by_cases A9:x.op=13
 .have AA:=Dg ins vars cells M O S T x.b 2 Y (by unfold bz;omega);simp at AA;cases AI:fW cells x.a 1<;>simp[f110,H,A9,U,AA,AI]
 have J:=ZB ins vars cells M O S T x Y;simp at J;by_cases Z:x.op=4
 .simp[Z]at J;simp[f110,H,Z,J]
 by_cases y:x.op=5
 .simp[y]at J;simp[f110,H,y,J]
 by_cases A':x.op=7
 .simp[A']at J;simp[f110,H,A',J]
 by_cases A0:x.op=8
 .have AB:=ab6 x;simp[A0]at AB;simp[f110,H,A0,AB]
 by_cases AC:x.op=9
 .by_cases V:0<=x.a<;>simp[f110,H,AC,V]
 by_cases AD:x.op=10
 .by_cases V:0<=x.a<;>simp[f110,H,AD,V]
 by_cases A1:x.op=12
 .obtain⟨l,AE,AF,AK⟩:=AH x.b;have A2:=Dg ins vars cells M O S T x.a (I x.b) Y (by unfold bz;omega);simp at A2;by_cases V:0<I x.b
  .simp[f110,H,A1,V,AE,AF,A2]
  .simp[f110,H,A1,V,AE,AF,A2]
 by_cases AG:x.op=15
 .simp[f110,H,AG]
 .simp[f110,H,A3,A5,A6,Z,y,A7,A',A0,AC,AD,A4,A1,A9,A8,AG]
def Gs:Fx 45 jT:=λb=>⟨_,B0 b,by simp[jT],alB (wm b) (by decide)⟩
def nA(c:List Int)(A2:c.length<=100000):aj ctx 39 [.d (.list (c.map jD))] []=some (.ret (.vec 0 0 0 c.length),[(0,.vec 1 (c.map jD))]):=by
 rw[aok (by simp)];cases c with
 |nil=>simp[f39]
 |cons x r=>
  simp at A2;have A8:((r.length:Int)+1)*8<=140737488355328:=by omega
  have A3:(r.length+1)*8<=140737488355328:=by omega
  have A4:r.length+1<=4611686018427387904:=by omega
  simp[f39,A3,A4]
def cl3{c:List Int}(h:c.length=3):∃a b q,c=[a,b,q]:=by
 match c,h with
 |[a,b,q],_=>exact⟨a,b,q,rfl⟩
def alU{c:List Int}(h:c.length=4):∃a b q e,c=[a,b,q,e]:=by
 match c,h with
 |[a,b,q,e],_=>exact⟨a,b,q,e,rfl⟩
def acp{c:List Int}(h:c.length=6):∃a b q e p r,c=[a,b,q,e,p,r]:=by
 match c,h with
 |[a,b,q,e,p,r],_=>exact⟨a,b,q,e,p,r,rfl⟩
def Sh{k:Int}(A':k<10\/18<k)(c:List Int):ie k c=c:=by
 unfold ie;split
 .unfold xP;simp only[show ¬k=15 by omega,show ¬k=16 by omega,show ¬k=17 by omega,show ¬k=18 by omega,adN]
 .unfold xO;simp only[show ¬k=10 by omega,show ¬k=11 by omega,adN]
 .unfold sf;simp only[show ¬k=12 by omega,show ¬k=13 by omega,show ¬k=14 by omega,adN]
 .rfl
def Q8(k:Int)(c:List Int)(O:c.length=jT k)(T:∀x∈c,bz x):aj ctx 76 [.d (.int .i64 k),.d (.list (c.map jD))] []=some (.ret (.vec 0 0 0 c.length),[(0,.vec 1 ((ie k c).map jD))]):=by
 obtain⟨pl,D,Z,y⟩:=Gs k;have H:=nA c (by omega);have A9:=xU;have I:(pl.length:Int)=c.length:=by omega
 rw[aoE (by simp)];by_cases A':k<10\/18<k
 .rw[Sh A'];try simp at H
  try simp at D
  simp[f76,H,D,I,show ¬k=10 by omega,show ¬k=11 by omega,show ¬k=12 by omega,show ¬k=13 by omega,show ¬k=14 by omega,show ¬k=15 by omega,show ¬k=16 by omega,show ¬k=17 by omega,show ¬k=18 by omega,ak]
 .have A5:k=10\/k=11\/k=12\/k=13\/k=14\/k=15\/k=16\/k=17\/k=18:=by omega
  clear A';have A6:(k=10\/k=11->jT k=4)/\(k=12\/k=13\/k=14->jT k=6)/\(k=15\/k=16\/k=17\/k=18->jT k=3):=by
   refine⟨?_,?_,?_⟩
   .rintro (rfl|rfl)<;>rfl
   .rintro (rfl|rfl|rfl)<;>rfl
   .rintro (rfl|rfl|rfl|rfl)<;>rfl
  obtain⟨Y,V,U⟩:=A6;rcases A5 with h|h|h|h|h|h|h|h|h
  .obtain⟨a,b,q,e,rfl⟩:=alU (O.trans (Y (by omega)));have:=J8 k a b q e (.inl h) (T _ (by simp)) (T _ (by simp));subst h;simp at H D I;simp[ie];have J:=E4 10 a b q e;generalize xO 10 a b q e=z at*;have M:(z.map jD).take z.length=z.map jD:=adK (by simp);rw[J]at M;try simp at this
   simp[f76,H,D,I,this,J,M,ak]
  .obtain⟨a,b,q,e,rfl⟩:=alU (O.trans (Y (by omega)));have:=J8 k a b q e (.inr h) (T _ (by simp)) (T _ (by simp));subst h;simp at H D I;simp[ie];have J:=E4 11 a b q e;generalize xO 11 a b q e=z at*;have M:(z.map jD).take z.length=z.map jD:=adK (by simp);rw[J]at M;try simp at this
   simp[f76,H,D,I,this,J,M,ak]
  .obtain⟨a,b,q,e,p,r,rfl⟩:=acp (O.trans (V (by omega)));have:=Ws a b q e p r (T _ (by simp)) (T _ (by simp));subst h;simp at H D I;simp[ie];have J:=z6 12 a b q e p r;generalize sf 12 a b q e p r=z at*;have M:(z.map jD).take z.length=z.map jD:=adK (by simp);rw[J]at M;try simp at this
   simp[f76,H,D,I,this,J,M,ak]
  .obtain⟨a,b,q,e,p,r,rfl⟩:=acp (O.trans (V (by omega)));have:=G9 k a b q e p r (.inl h) (T _ (by simp));subst h;simp at H D I;simp[ie];have J:=z6 13 a b q e p r;generalize sf 13 a b q e p r=z at*;have M:(z.map jD).take z.length=z.map jD:=adK (by simp);rw[J]at M;try simp at this
   simp[f76,H,D,I,this,J,M,ak]
  .obtain⟨a,b,q,e,p,r,rfl⟩:=acp (O.trans (V (by omega)));have:=G9 k a b q e p r (.inr h) (T _ (by simp));subst h;simp at H D I;simp[ie];have J:=z6 14 a b q e p r;generalize sf 14 a b q e p r=z at*;have M:(z.map jD).take z.length=z.map jD:=adK (by simp);rw[J]at M;try simp at this
   simp[f76,H,D,I,this,J,M,ak]
  .obtain⟨a,b,q,rfl⟩:=cl3 (O.trans (U (by omega)));subst h;simp at H D I;clear T O U Y V Z y;rcases akZ (a=0)with rfl|A0<;>rcases akZ (q=0)with rfl|A1<;>simp[f76,ie,xP,ak,bne, *]
  .obtain⟨a,b,q,rfl⟩:=cl3 (O.trans (U (by omega)));subst h;simp at H D I;clear T O U Y V Z y;rcases akZ (a=0)with rfl|A0<;>rcases akZ (q=0)with rfl|A1<;>simp[f76,ie,xP,ak,bne, *]
  .obtain⟨a,b,q,rfl⟩:=cl3 (O.trans (U (by omega)));subst h;simp at H D I;clear T O U Y V Z y;rcases akZ (a=0)with rfl|A0<;>rcases akZ (q=0)with rfl|A1<;>rcases akZ (b=0)with rfl|A7<;>simp[f76,ie,xP,ak,bne, *]
  .obtain⟨a,b,q,rfl⟩:=cl3 (O.trans (U (by omega)));subst h;simp at H D I;clear T O U Y V Z y;rcases akZ (a=0)with rfl|A0<;>rcases akZ (q=0)with rfl|A1<;>rcases akZ (b=0)with rfl|A7<;>simp[f76,ie,xP,ak,bne, *]
@[simp] def iA(n:Int):AV:=.d (.int .i64 n)
def mB(O:AV)(H I:Int)(M:AV)(S G:List Int)(h a f x:Int):List AV:=
 O::.d (.int .i64 H)::.d (.int .i64 I)::M::((S++G).map iA++[.d (.int .i64 h),.d (.int .i64 a),.d (.int .i64 f),.d (.int .i64 x)])
section
variable {O:AV} {H I:Int} {M:AV} {S G:List Int} {h a f x:Int}
theorem eD(J:S.length+G.length=64):(mB O H I M S G h a f x).length=72:=by simp[mB];omega
theorem Ka(J:S.length+G.length=64)(k:Nat)(T:68<=k):(mB O H I M S G h a f x)[k]?=[AV.d (.int .i64 h),.d (.int .i64 a),.d (.int .i64 f),.d (.int .i64 x)][k-68]?:=by
 obtain⟨j,rfl⟩:∃j,k=68+j:=⟨k-68,by omega⟩;have e:68+j=(64+j)+1+1+1+1:=by omega
 rw[mB,e];simp only[List.getElem?_cons_succ];rw[adb (by simp;omega)];congr 1;simp;omega
theorem ao4(J:S.length+G.length=64):(mB O H I M S G h a f x)[68]?=some (.d (.int .i64 h)):=by rw[Ka J 68 (by omega)];rfl
theorem ao5(J:S.length+G.length=64):(mB O H I M S G h a f x)[69]?=some (.d (.int .i64 a)):=by rw[Ka J 69 (by omega)];rfl
theorem ao6(J:S.length+G.length=64):(mB O H I M S G h a f x)[70]?=some (.d (.int .i64 f)):=by rw[Ka J 70 (by omega)];rfl
theorem ao7(J:S.length+G.length=64):(mB O H I M S G h a f x)[71]?=some (.d (.int .i64 x)):=by rw[Ka J 71 (by omega)];rfl
theorem alV(k:Nat)(T:k<(S++G).length):(mB O H I M S G h a f x)[4+k]?=some (.d (.int .i64 (S++G)[k])):=by
 rw[mB,show 4+k=k+1+1+1+1 by omega];simp only[List.getElem?_cons_succ];rw[ac9 (by simpa using T),adn,ado T];rfl
theorem gE{l:List AV}{k:Nat}{y:AV}(h:l[k]?=some y)(T:k<l.length):l[k]=y:=by
 rw[ado T]at h;exact aiX h
theorem pS(T):(mB O H I M S G h a f x)[3]'T=M:=rfl
theorem tW(J:S.length+G.length=64)(T):(mB O H I M S G h a f x)[68]'T=.d (.int .i64 h):=gE (ao4 J) T
theorem Q9(J:S.length+G.length=64)(T):(mB O H I M S G h a f x)[69]'T=.d (.int .i64 a):=gE (ao5 J) T
theorem Ra(J:S.length+G.length=64)(T):(mB O H I M S G h a f x)[70]'T=.d (.int .i64 f):=gE (ao6 J) T
theorem wJ(J:S.length+G.length=64)(T):(mB O H I M S G h a f x)[71]'T=.d (.int .i64 x):=gE (ao7 J) T
theorem Gt(J:S.length+G.length=64)(k:Nat)(y:AV):(mB O H I M S G h a f x).set (68+k) y=O::.d (.int .i64 H)::.d (.int .i64 I)::M::((S++G).map iA++[AV.d (.int .i64 h),.d (.int .i64 a),.d (.int .i64 f),.d (.int .i64 x)].set k y):=by
 rw[mB,show 68+k=(64+k)+1+1+1+1 by omega];simp only[amM];rw[List.set_append_right _ _ (by simp;omega)];congr 6;simp;omega
theorem qA(J:S.length+G.length=64)(n:Int):(mB O H I M S G h a f x).set 68 (.d (.int .i64 n))=mB O H I M S G n a f x:=Gt J 0 _
theorem Dn(J:S.length+G.length=64)(n:Int):(mB O H I M S G h a f x).set 69 (.d (.int .i64 n))=mB O H I M S G h n f x:=Gt J 1 _
theorem acq(J:S.length+G.length=64)(n:Int):(mB O H I M S G h a f x).set 70 (.d (.int .i64 n))=mB O H I M S G h a n x:=Gt J 2 _
theorem u9(J:S.length+G.length=64)(n:Int):(mB O H I M S G h a f x).set 71 (.d (.int .i64 n))=mB O H I M S G h a f n:=Gt J 3 _
theorem agd(g n:Int):(mB O H I M S (g::G) h a f x).set (4+S.length) (.d (.int .i64 n))=mB O H I M (S++[n]) G h a f x:=by
 rw[mB,show 4+S.length=S.length+1+1+1+1 by omega];simp only[amM];rw[List.set_append_left _ _ (by simp)];simp[mB]
theorem acr(n:Int)(T):(mB O H I M S (n::G) h a f x)[4+S.length]'T=.d (.int .i64 n):=gE (by rw[alV _ (by simp)];simp) T
theorem B7(n:Int):mB O H I M (S++[n]) G h a f x=mB O H I M S (n::G) h a f x:=by simp[mB]
theorem Si(L:List Int)(r:List AV):kr (L.map iA++r)=kr r:=by
 induction L with
 |nil=>rfl
 |cons x t ih=>simpa [kr,jK,iA]using ih
theorem dx(i:D):kr (mB (.d i) H I M S G h a f x)=jK M:=by
 simp only[mB,kr,jK,Si,aeg];simp
theorem age(m:Mem)(ρ:List Nat)(bor:Nat->Bool)(nv:Nat->Nat->Nat)(L:List Int)(r:List AV):rG m ρ bor nv (L.map iA++r)=L.map iA++rG m ρ bor nv r:=by
 induction L with
 |nil=>rfl
 |cons x t ih=>simpa [rG,vw,iA]using ih
theorem dR(m:Mem)(ρ:List Nat)(bor:Nat->Bool)(nv:Nat->Nat->Nat)(i:D):rG m ρ bor nv (mB (.d i) H I M S G h a f x)=mB (.d i) H I (vw m ρ bor nv M) S G h a f x:=by
 simp only[mB,rG,vw,age]
theorem agf(ρ bs:List Nat)(L:List Int)(r:List AV):um ρ bs (L.map iA++r)=L.map iA++um ρ bs r:=by
 induction L with
 |nil=>rfl
 |cons x t ih=>simpa [um,up,iA]using ih
theorem dS(ρ bs:List Nat)(i:D):um ρ bs (mB (.d i) H I M S G h a f x)=mB (.d i) H I (up ρ bs M) S G h a f x:=by
 simp only[mB,um,up,agf]
end
def qB(i:D)(H I:Int)(C S G:List Int)(g a f x n:Int)(J:S.length+(G.length+1)=64):
 aj ctx 71 [.ptr 0 0 0,.d (.int .i64 n)] [.box (mB (.d i) H I (.vec 1 0 0 C.length) S (g::G) S.length a f x),.vec 1 (C.map jD)]=
  some (.ret (.bq []),[(0,.box (mB (.d i) H I (.vec 1 0 0 C.length) (S++[n]) G ((S++[n]).length:Nat) a f x)),(0,.vec 1 (C.map jD))]):=by
 have U:S.length+(g::G).length=64:=by simpa using J
 have Y:(S++[n]).length+G.length=64:=by simp;omega
 have A0:S.length<64:=by omega
 have A1:4+S.length<=71:=by omega
 have V:=b9 ((S.length:Int)+1);rw[aoA (by simp)];simp[f71,ak,eD U,tW U,agd,eD Y,tW Y,qA Y,dx,dR,dS,A0,A1,V]
def B8(i:D)(H I:Int)(C S G:List Int)(a f x n:Int)(J:S.length+(G.length+1)=64):
 aj ctx 74 [.ptr 0 0 0] [.box (mB (.d i) H I (.vec 1 0 0 C.length) (S++[n]) G ((S++[n]).length:Nat) a f x),.vec 1 (C.map jD)]=
  some (.ret (.d (.int .i64 n)),[(0,.box (mB (.d i) H I (.vec 1 0 0 C.length) S (n::G) S.length a f x)),(0,.vec 1 (C.map jD))]):=by
 have U:S.length+(n::G).length=64:=by simpa using J
 have A0:S.length<64:=by omega
 have A1:4+S.length<72:=by omega
 have V:=b9 (S.length:Int);rw[aoD (by simp),B7];simp[f74,ak,eD U,tW U,qA U,acr,dx,dR,dS,A0,A1,V]
def Ar(b:Bool):aj ctx 72 [.d (.bool b)] []=some (.ret (.d (.int .i64 (if b=true then 1 else 0))),[]):=by
 rw[aoB (by simp)];cases b<;>simp[f72]
def Kb(i:D)(H I:Int)(C S G:List Int)(h a f Z:Int)(x:ar)(n:Int)(J:S.length+G.length=64)(A3:0<=x.n/\x.m<=255/\0<=x.a/\x.a<=8192):
 aj ctx 73 [.ptr 0 0 0,.d (cH x),.d (.int .i64 n)] [.box (mB (.d i) H I (.vec 1 0 0 C.length) S G h a f Z),.vec 1 (C.map jD)]=
  some (if iT x n=true then .ret (.bq [.d (.int .i64 (x.a+(n-x.n))),.d (.bool true)])else .ret (.bq [.d (.int .i64 0),.d (.bool false)]),
   [(0,.box (mB (.d i) H I (.vec 1 0 0 C.length) S G h a f (if iT x n=true then Z else 3))),(0,.vec 1 (C.map jD))]):=by
 rw[aoC (by simp)];unfold iT;by_cases U:x.n<=n
 .by_cases Y:n<=x.m
  .have V:=b9 (n-x.n);have A4:=b9 (x.a+(n-x.n));have A':¬n<x.n:=by omega
   have A2:¬x.m<n:=by omega
   simp[f73,ak,eD J,wJ J,u9 J,dx,dR,dS,U,Y,A',A2,V,A4]
  .have A':¬n<x.n:=by omega
   have A2:x.m<n:=by omega
   simp[f73,ak,eD J,wJ J,u9 J,dx,dR,dS,U,Y,A',A2]
 .have A':n<x.n:=by omega
  simp[f73,ak,eD J,wJ J,u9 J,dx,dR,dS,U,A']
def acs(i:D)(H I:Int)(C S G:List Int)(h a f Z:Int)(x:ar)(J:S.length+G.length=64)(A3:0<=x.a/\x.a.toNat<C.length/\0<=x.b/\x.b.toNat+1<C.length/\C.length<=8192):
 aj ctx 77 [.ptr 0 0 0,.d (cH x)] [.box (mB (.d i) H I (.vec 1 0 0 C.length) S G h a f Z),.vec 1 (C.map jD)]=
  some (.ret (.d (.bool (tM C x))),[(0,.box (mB (.d i) H I (.vec 1 0 0 C.length) S G h a f Z)),(0,.vec 1 (C.map jD))]):=by
 obtain⟨A5,a2,A6,AA,AB⟩:=A3;have V:=b9 (x.b+1);have A7:(x.b+1).toNat<C.length:=by omega
 have A8:0<=x.b+1:=by omega
 have A9:x.b.toNat<C.length:=by omega
 rw[aoF (by simp)];simp[f77,ak,eD J,pS,dx,dR,dS,A5,a2,A6,A7,A8,A9,V,cellAt];unfold tM;grind
def B9(n:Nat)(k:Int):Prop:=0<=k/\k.toNat<n
def NS(n:Nat)(x:ar):Prop:=0<=x.n/\x.n<=x.m/\x.m<=255/\0<=x.a/\x.a+(x.m-x.n)<n
structure Fit(x:ar)(n h:Nat):Prop where
 top:h<=64
 i1:x.op=1->h<64
 i2:x.op=2\/x.op=3\/x.op=14->h<64/\B9 n x.a
 i4:x.op=4\/x.op=5->1<=h/\NS n x
 i6:x.op=6->1<=h/\B9 n x.a
 i7:x.op=7->2<=h/\NS n x
 i8:x.op=8->(x.b=6\/x.b=7->1<=h)/\(¬(x.b=6\/x.b=7)->2<=h)
 i10:x.op=10->1<=h
 i12:x.op=12->0<=x.a/\x.a.toNat+jT x.b<=n
 i13:x.op=13->h<64/\B9 n x.a/\B9 n x.b/\B9 n (x.b+1)
def yi{l:List Int}(h:1<=l.length):∃S n,l=S++[n]:=by
 have AM:l≠[]:=by intro AR;subst AR;simp at h
 exact⟨l.dropLast,l.getLast AM,(List.dropLast_concat_getLast AM).symm⟩
def Rb{l:List Int}(h:2<=l.length):∃S m n,l=S++[m,n]:=by
 obtain⟨T,n,rfl⟩:=yi (l:=l) (by omega);obtain⟨S,m,rfl⟩:=yi (l:=T) (by simp at h;omega);exact⟨S,m,n,by simp⟩
def Ca{S G:List Int}(O:S.length+G.length=64)(h:S.length<64):∃g H,G=g::H/\S.length+(H.length+1)=64:=by
 match G,O with
 |[],O=>simp at O;omega
 |g::H,O=>exact⟨g,H,rfl,by simpa using O⟩
def mC(i:D)(I J:Int)(s:Ms)(G:List Int):List aF:=[.box (mB (.d i) I J (.vec 1 0 0 s.cells.length) s.eL G s.eL.length s.at_ s.fuel s.fault),.vec 1 (s.cells.map jD)]
def kU(i:D)(I J:Int)(s:Ms)(G:List Int):List (Nat×aF):=[(0,.box (mB (.d i) I J (.vec 1 0 0 s.cells.length) s.eL G s.eL.length s.at_ s.fuel s.fault)),(0,.vec 1 (s.cells.map jD))]
def ass(i:D)(I J:Int)(x:ar)(s:Ms)(G:List Int)(O:s.eL.length+G.length=64)(U:Fit x s.cells.length s.eL.length)(M:x.op=1):
 ∃H,(s.push x.n).eL.length+H.length=64/\aj ctx 40 [.ptr 0 0 0,.d (cH x)] (mC i I J s G)=some (.ret (.d (.bool true)),kU i I J (s.push x.n) H):=by
 obtain⟨C,S,a,f,Z⟩:=s;simp only at O U;obtain⟨g,H,rfl,V⟩:=Ca O (U.i1 M);refine⟨H,by simp[Ms.push];omega,?_⟩;have A5:=qB i I J C S H g a f Z x.n V;have y:S.length+(g::H).length=64:=by simpa using V
 simp at A5;rw[vF (by simp[mC])];simp[f40,mC,kU,Ms.push,M,A5,dx,dR,dS,ak]
def ast(i:D)(I J:Int)(x:ar)(s:Ms)(G:List Int)(O:s.eL.length+G.length=64)(U:Fit x s.cells.length s.eL.length)(M:x.op=2):
 ∃H,(s.push (fo s.cells x.a)).eL.length+H.length=64/\aj ctx 40 [.ptr 0 0 0,.d (cH x)] (mC i I J s G)=some (.ret (.d (.bool true)),kU i I J (s.push (fo s.cells x.a)) H):=by
 obtain⟨C,S,a,f,Z⟩:=s;simp only at O U;obtain⟨A3,A8,A9⟩:=U.i2 (.inl M);obtain⟨g,H,rfl,V⟩:=Ca O A3;refine⟨H,by simp[Ms.push];omega,?_⟩;have A5:=qB i I J C S H g a f Z (fo C x.a) V;have y:S.length+(g::H).length=64:=by simpa using V
 simp at A5;rw[vF (by simp[mC])];simp[f40,mC,kU,Ms.push,M,A5,dx,dR,dS,eD y,pS,A8,A9,cellAt,ak]
def asu(i:D)(I J:Int)(x:ar)(s:Ms)(G:List Int)(O:s.eL.length+G.length=64)(U:Fit x s.cells.length s.eL.length)(M:x.op=3):
 ∃H,(s.push (cg (decide (fo s.cells x.a≠0)))).eL.length+H.length=64/\aj ctx 40 [.ptr 0 0 0,.d (cH x)] (mC i I J s G)=some (.ret (.d (.bool true)),kU i I J (s.push (cg (decide (fo s.cells x.a≠0)))) H):=by
 obtain⟨C,S,a,f,Z⟩:=s;simp only at O U;obtain⟨A3,A8,A9⟩:=U.i2 (.inr (.inl M));obtain⟨g,H,rfl,V⟩:=Ca O A3;refine⟨H,by simp[Ms.push];omega,?_⟩;have A5:=qB i I J C S H g a f Z (cg (decide (fo C x.a≠0))) V;have A6:=Ar (decide (fo C x.a≠0));have AG:(if decide (fo C x.a≠0)=true then (1:Int)else 0)=cg (decide (fo C x.a≠0)):=rfl;rw[AG]at A6;have y:S.length+(g::H).length=64:=by simpa using V
 have AA:(fo C x.a != 0)=decide (fo C x.a≠0):=by by_cases h:fo C x.a=0<;>simp[h]
 generalize decide (fo C x.a≠0)=b at*;simp at A5;rw[vF (by simp[mC])];simp[f40,mC,kU,Ms.push,M,A5,A6,AA,dx,dR,dS,eD y,pS,A8,A9,cellAt,ak]
def asv(i:D)(I J:Int)(x:ar)(s:Ms)(G:List Int)(O:s.eL.length+G.length=64)(A7:s.cells.length<=8192)(U:Fit x s.cells.length s.eL.length)(M:x.op=4\/x.op=5):
 ∃t H,dI x s=some t/\t.eL.length+H.length=64/\aj ctx 40 [.ptr 0 0 0,.d (cH x)] (mC i I J s G)=some (.ret (.d (.bool true)),kU i I J t H):=by
 obtain⟨C,S0,a,f,Z⟩:=s;simp only at O U A7;obtain⟨A3,AH,AS,AI,AJ,AT⟩:=U.i4 M;obtain⟨S,n,rfl⟩:=yi A3;have V:S.length+(G.length+1)=64:=by simp at O;omega
 have A0:=B8 i I J C S G a f Z n V;have A1:S.length+(n::G).length=64:=by simpa using V
 have A':=Kb i I J C S (n::G) S.length a f Z x n A1 ⟨AH,AI,AJ,by omega⟩;have A4:=λv=>qB i I J C S G n a f Z v V;have y:x.op≠1:=by omega
 have A2:x.op≠2:=by omega
 have AB:x.op≠3:=by omega
 by_cases Y:iT x n=true
 .have AK:0<=x.a+(n-x.n)/\(x.a+(n-x.n)).toNat<C.length:=by
   unfold iT at Y;simp at Y;omega
  obtain⟨AC,AD⟩:=AK;rw[ac1 Y,ac1 Y]at A';generalize AE:x.a+(n-x.n)=v at*;rcases M with M|M
  .have A4:=A4 (fo C v);refine⟨_,G,by simp[dI,M,Ms.top,Ms.pop,Y,AE];rfl,by simp[Ms.push];omega,?_⟩;simp[M]at A0 A' A4;rw[vF (by simp[mC])];simp[f40,mC,kU,Ms.push,Ms.pop,M,A0,A',A4,dx,dR,dS,eD A1,pS,AC,AD,cellAt,ak]
  .have A4:=A4 (cg (decide (fo C v≠0)));have A6:=Ar (decide (fo C v≠0));have AG:(if decide (fo C v≠0)=true then (1:Int)else 0)=cg (decide (fo C v≠0)):=rfl;rw[AG]at A6;have AA:(fo C v != 0)=decide (fo C v≠0):=by by_cases h:fo C v=0<;>simp[h]
   refine⟨_,G,by simp only[dI,M,Ms.top,Ms.pop];simp[Y,AE];rfl,by simp[Ms.push];omega,?_⟩;have AU:decide (fo C v≠0)=!decide (fo C v=0):=by simp
   rw[AU]at A4 A6 AA;generalize (!decide (fo C v=0))=b at*;simp[M]at A0 A' A4;rw[vF (by simp[mC])];simp[f40,mC,kU,Ms.push,Ms.pop,M,A0,A',A4,A6,AA,dx,dR,dS,eD A1,pS,AC,AD,cellAt,ak]
 .rw[aaf Y,aaf Y]at A';have AL:iT x n=false:=by simpa using Y
  refine⟨_,n::G,by simp only[dI,Ms.top,Ms.pop];simp[y,A2,AB,M,AL];rfl,by simpa using V,?_⟩;rw[vF (by simp[mC])];rcases M with M|M<;>simp[M]at A0 A'<;>
  simp[f40,mC,kU,Ms.push,Ms.pop,M,A0,A',dx,dR,dS,eD A1,pS,ak]
def asw(i:D)(I J:Int)(x:ar)(s:Ms)(G:List Int)(O:s.eL.length+G.length=64)(U:Fit x s.cells.length s.eL.length)(M:x.op=6):
 ∃t H,dI x s=some t/\t.eL.length+H.length=64/\aj ctx 40 [.ptr 0 0 0,.d (cH x)] (mC i I J s G)=some (.ret (.d (.bool true)),kU i I J t H):=by
 obtain⟨C,S0,a,f,Z⟩:=s;simp only at O U;obtain⟨A3,A8,A9⟩:=U.i6 M;obtain⟨S,n,rfl⟩:=yi A3;have V:S.length+(G.length+1)=64:=by simp at O;omega
 have A0:=B8 i I J C S G a f Z n V;have A1:S.length+(n::G).length=64:=by simpa using V
 refine⟨_,n::G,by simp only[dI,Ms.top,Ms.pop];simp[M];rfl,by simpa using V,?_⟩;simp at A0;rw[vF (by simp[mC])];simp[f40,mC,kU,oP,M,A0,dx,dR,dS,eD A1,pS,A8,A9,ak]
def acv(S:List Int)(m n:Int):(S++[m,n]).getLast?=some n:=by
 rw[show S++[m,n]=(S++[m])++[n] by simp];simp
def acw(S:List Int)(m n:Int):(S++[m,n]).dropLast=S++[m]:=by
 rw[show S++[m,n]=(S++[m])++[n] by simp,ajb]
def asx(i:D)(I J:Int)(x:ar)(s:Ms)(G:List Int)(O:s.eL.length+G.length=64)(A7:s.cells.length<=8192)(U:Fit x s.cells.length s.eL.length)(M:x.op=7):
 ∃t H,dI x s=some t/\t.eL.length+H.length=64/\aj ctx 40 [.ptr 0 0 0,.d (cH x)] (mC i I J s G)=some (.ret (.d (.bool true)),kU i I J t H):=by
 obtain⟨C,S0,a,f,Z⟩:=s;simp only at O U A7;obtain⟨A3,AH,AS,AI,AJ,AT⟩:=U.i7 M;obtain⟨S,m,n,rfl⟩:=Rb A3;have V:S.length+(G.length+1+1)=64:=by simp at O;omega
 have A0:=B8 i I J C (S++[m]) G a f Z n (by simp;omega);have AF:=B8 i I J C S (n::G) a f Z m (by simp;omega);have A1:S.length+(m::n::G).length=64:=by simpa using V
 have A':=Kb i I J C S (m::n::G) S.length a f Z x m A1 ⟨AH,AI,AJ,by omega⟩;by_cases Y:iT x m=true
 .have AK:0<=x.a+(m-x.n)/\(x.a+(m-x.n)).toNat<C.length:=by
   unfold iT at Y;simp at Y;omega
  obtain⟨AC,AD⟩:=AK;rw[ac1 Y,ac1 Y]at A';generalize AE:x.a+(m-x.n)=v at*;refine⟨_,m::n::G,by simp only[dI,Ms.top,Ms.pop];simp[M,Y,AE,acv,acw];rfl,by simpa using V,?_⟩;simp[M]at A0 AF A';rw[vF (by simp[mC])];simp[f40,mC,kU,oP,M,A0,AF,A',dx,dR,dS,eD A1,pS,AC,AD,ak]
 .rw[aaf Y,aaf Y]at A';have AL:iT x m=false:=by simpa using Y
  refine⟨_,m::n::G,by simp only[dI,Ms.top,Ms.pop];simp[M,AL,acv,acw];rfl,by simpa using V,?_⟩;simp[M]at A0 AF A';rw[vF (by simp[mC])];simp[f40,mC,kU,M,A0,AF,A',dx,dR,dS,eD A1,pS,ak]
def Wt(i:D)(I J:Int)(x:ar)(s:Ms)(G:List Int)(O:s.eL.length+G.length=64)(A7:s.cells.length<=8192)(U:Fit x s.cells.length s.eL.length)(M:1<=x.op/\x.op<=7):
 ∃t H,dI x s=some t/\t.eL.length+H.length=64/\aj ctx 40 [.ptr 0 0 0,.d (cH x)] (mC i I J s G)=some (.ret (.d (.bool true)),kU i I J t H):=by
 have AV:x.op=1\/x.op=2\/x.op=3\/(x.op=4\/x.op=5)\/x.op=6\/x.op=7:=by omega
 rcases AV with h|h|h|h|h|h
 .obtain⟨H,y,A2⟩:=ass i I J x s G O U h;exact⟨_,H,by simp[dI,h],y,A2⟩
 .obtain⟨H,y,A2⟩:=ast i I J x s G O U h;exact⟨_,H,by simp[dI,h],y,A2⟩
 .obtain⟨H,y,A2⟩:=asu i I J x s G O U h;exact⟨_,H,by simp only[dI,h];rfl,y,A2⟩
 .exact asv i I J x s G O A7 U h
 .exact asw i I J x s G O U h
 .exact asx i I J x s G O A7 U h
def Sj(i:D)(I J:Int)(x:ar)(s:Ms)(G:List Int)(M:8<=x.op):
 dI x s=none/\aj ctx 40 [.ptr 0 0 0,.d (cH x)] (mC i I J s G)=some (.ret (.d (.bool false)),kU i I J s G):=by
 have y:x.op≠1:=by omega
 have A2:x.op≠2:=by omega
 have AB:x.op≠3:=by omega
 have AN:x.op≠4:=by omega
 have AO:x.op≠5:=by omega
 have AP:x.op≠6:=by omega
 have AQ:x.op≠7:=by omega
 refine⟨by simp[dI,y,A2,AB,AN,AO,AP,AQ],?_⟩;obtain⟨C,S,a,f,Z⟩:=s;rw[vF (by simp[mC])];simp[f40,mC,kU,y,A2,AB,AN,AO,AP,AQ,dx,dR,dS]
def Na:∀T:List Int,qE (T.map iA)=some (T.map jD)
 |[]=>rfl
 |x::r=>by
  have:=Na r;simp only[adz,iA]at this⊢;rw[qE.eq_2,this];rfl
def agh{y:AV}{H I:Int}{A':AV}{S T G:List Int}{h a f x:Int}:(mB y H I A' (S++T) G h a f x).drop (4+S.length)=T.map iA++(G.map iA++[.d (.int .i64 h),.d (.int .i64 a),.d (.int .i64 f),.d (.int .i64 x)]):=by
 rw[mB,show 4+S.length=S.length+1+1+1+1 by omega];simp only[List.drop_succ_cons,alH,adM];rw[apV (by simp),show S.length=(S.map iA).length by simp,List.drop_length];rfl
def ZV{y:AV}{H I:Int}{A':AV}{S T G:List Int}{h a f x:Int}{n:Nat}(A1:n=T.length):qE (((mB y H I A' (S++T) G h a f x).drop (4+S.length)).take n)=some (T.map jD):=by
 rw[agh,A1,ahb (by simp),show T.length=(T.map iA).length by simp,List.take_length];exact Na T
def Kc(L:List Int)(AD:L.length<=100000):aj ctx 39 [.d (.list (L.map jD))] []=some (.ret (.vec 0 0 0 L.length),[(0,.vec 1 (L.map jD))]):=nA L AD
def alW(i:D)(H I:Int)(x:ar)(C S G:List Int)(a f O n:Int)(A2:S.length+(G.length+1)=64)(A1:bz n)(M:x.b=6\/x.b=7):
 aj ctx 75 [.ptr 0 0 0,.d (cH x)] [.box (mB (.d i) H I (.vec 1 0 0 C.length) (S++[n]) G ((S++[n]).length:Nat) a f O),.vec 1 (C.map jD)]=
  some (.ret (.bq []),if (jl x.b n (decide (x.a=1))).2.2=0 then [(0,.box (mB (.d i) H I (.vec 1 0 0 C.length) (S++[(jl x.b n (decide (x.a=1))).1]) G ((S++[n]).length:Nat) a f O)),(0,.vec 1 (C.map jD))]
   else [(0,.box (mB (.d i) H I (.vec 1 0 0 C.length) S (n::G) S.length a f (jl x.b n (decide (x.a=1))).2.2)),(0,.vec 1 (C.map jD))]):=by
 have U:=A9 x.b n (decide (x.a=1)) A1;have Y:=Kc [n] (by simp);have Z:∀h,qE (((mB (.d i) H I (.vec 1 0 0 C.length) (S++[n]) G h a f O).drop (4+S.length)).take 1)=some [D.int .i64 n]:=λh=>ZV rfl;simp only[B7]at Z;have g1:(S.length:Int)<=(S.length:Int)+1:=by omega
 have A0:(S++[n]).length+G.length=64:=by simp;omega
 have J:S.length+(n::G).length=64:=by simpa using A2
 have A3:4+S.length+1<=72:=by omega
 have hle:S.length+1<=64:=by omega
 have V:=λv=>qB i H I C S G n a f O v A2;have A4:=b9 (S.length:Int);have g0:(0:Int)<=(S.length:Int):=by omega
 have AE:(decide (x.b=6)||decide (x.b=7))=true:=by simpa using M
 generalize jl x.b n (decide (x.a=1))=p at*;have V:=V p.1;simp at U Y V;rw[ad3 (by simp)];by_cases A5:p.2.2=0
 .rcases M with M|M<;>simp only[M]at U<;>
  simp[f75,M,U,Y,Z,A5,V,dx,dR,dS,eD A0,eD J,tW A0,tW J,qA A0,qA J,B7,A3,hle,A4,g0,g1,ak]
 .rcases M with M|M<;>simp only[M]at U<;>
  simp[f75,M,U,Y,Z,A5,dx,dR,dS,eD A0,eD J,tW A0,tW J,qA A0,qA J,u9 J,B7,A3,hle,A4,g0,g1,ak]
def Lf{y:AV}{H I:Int}{A':AV}{S G:List Int}{h a f x:Int}(m n:Int):mB y H I A' (S++[m,n]) G h a f x=mB y H I A' S (m::n::G) h a f x:=by simp[mB]
def alX(i:D)(H I:Int)(x:ar)(C S G:List Int)(a f O m n:Int)(A2:S.length+(G.length+2)=64)(hm:bz m)(A1:bz n)(M:¬(x.b=6\/x.b=7)):
 aj ctx 75 [.ptr 0 0 0,.d (cH x)] [.box (mB (.d i) H I (.vec 1 0 0 C.length) (S++[m,n]) G ((S++[m,n]).length:Nat) a f O),.vec 1 (C.map jD)]=
  some (.ret (.bq []),if (gR x.b m n (decide (x.a=1))).2.2=0 then [(0,.box (mB (.d i) H I (.vec 1 0 0 C.length) (S++[(gR x.b m n (decide (x.a=1))).1]) (n::G) ((S++[n]).length:Nat) a f O)),(0,.vec 1 (C.map jD))]
   else [(0,.box (mB (.d i) H I (.vec 1 0 0 C.length) S (m::n::G) S.length a f (gR x.b m n (decide (x.a=1))).2.2)),(0,.vec 1 (C.map jD))]):=by
 have U:=rX x.b m n (decide (x.a=1)) hm A1;have Y:=Kc [m,n] (by simp);have Z:∀h,qE (((mB (.d i) H I (.vec 1 0 0 C.length) (S++[m,n]) G h a f O).drop (4+S.length)).take 2)=some [D.int .i64 m,D.int .i64 n]:=λh=>ZV rfl;simp only[Lf]at Z;have g1:(S.length:Int)<=(S.length:Int)+2:=by omega
 have J:S.length+(m::n::G).length=64:=by simpa using A2
 have A3:4+S.length+2<=72:=by omega
 have hle:S.length+2<=64:=by omega
 have A6:((S.length:Int)+2).toNat=S.length+2:=by omega
 have A7:((S.length:Int)+2).toNat -S.length=2:=by omega
 have A8:(S.length:Int)+2<=64:=by omega
 have V:=λv=>qB i H I C S (n::G) m a f O v (by simpa using A2);have A4:IntKind.i64.wrap ((S.length:Int)+2-2)=(S.length:Int):=by rw[show (S.length:Int)+2-2=S.length by omega];exact (b9 _)
 have AA:=b9 (S.length:Int);have g0:(0:Int)<=(S.length:Int):=by omega
 have AB:¬x.b=6:=λh=>M (.inl h);have AC:¬x.b=7:=λh=>M (.inr h);generalize gR x.b m n (decide (x.a=1))=p at*;have V:=V p.1;simp at U Y V;rw[ad3 (by simp)];by_cases A5:p.2.2=0
 .simp[f75,AB,AC,U,Y,Z,A5,V,dx,dR,dS,eD J,tW J,qA J,Lf,B7,A3,hle,A8,A6,A7,A4,AA,g0,g1,ak]
 .simp[f75,AB,AC,U,Y,Z,A5,dx,dR,dS,eD J,tW J,qA J,u9 J,Lf,B7,A3,hle,A8,A6,A7,A4,AA,g0,g1,ak]
structure wK(s:Ms):Prop where
 cells:∀n∈s.cells,bz n
 eL:∀n∈s.eL,bz n
 ZW:s.cells.length<=8192
 fuel:0<=s.fuel/\s.fuel<=16384
 place:0<=s.at_/\s.at_<=5000
def oU(i:D)(J M:Int)(x:ar)(s:Ms)(G:List Int):Prop:=
 ∃A',(fZ x s).eL.length+A'.length=64/\aj ctx 41 [.ptr 0 0 0,.d (cH x)] (mC i J M s G)=some (.ret (.bq []),kU i J M (fZ x s) A')
def asy(i:D)(J M:Int)(x:ar)(s:Ms)(G:List Int)(H:s.eL.length+G.length=64)(O:Fit x s.cells.length s.eL.length)(U:wK s)(I:x.op=8):oU i J M x s G:=by
 obtain⟨C,S0,a,f,V⟩:=s;simp only at H O;obtain⟨f1,f2⟩:=O.i8 I;have A7:=U.eL;simp only at A7;unfold oU;have AN:fZ x ⟨C,S0,a,f,V⟩=Mw x ⟨C,S0,a,f,V⟩:=by simp[fZ,I]
 rw[AN];rw[Dc (by simp[mC])];by_cases A1:x.b=6\/x.b=7
 .obtain⟨S,n,rfl⟩:=yi (f1 A1);have Z:=alW i J M x C S G a f V n (by simp at H;omega) (A7 n (by simp)) A1;unfold Mw;rw[ac1 A1];simp only[Ms.top,Ms.pop,Ms.push,List.getLast?_concat,ahx,ajb];generalize jl x.b n (decide (x.a=1))=p at*;by_cases A4:p.2.2=0
  .rw[ac1 A4]at Z⊢;refine⟨G,by simpa using H,?_⟩;simp[I]at Z;simp[f41,mC,kU,I,Z,dx,dR,dS,ak]
  .rw[aaf A4]at Z⊢;refine⟨n::G,by simp at H⊢;omega,?_⟩;simp[I]at Z;simp[f41,mC,kU,I,Z,dx,dR,dS,ak]
 .obtain⟨S,m,n,rfl⟩:=Rb (f2 A1);have Z:=alX i J M x C S G a f V m n (by simp at H;omega) (A7 m (by simp)) (A7 n (by simp)) A1;unfold Mw;rw[aaf A1];simp only[Ms.top,Ms.pop,Ms.push,acv,acw,List.getLast?_concat,ahx,ajb];generalize gR x.b m n (decide (x.a=1))=p at*;by_cases A4:p.2.2=0
  .rw[ac1 A4]at Z⊢;refine⟨n::G,by simp at H⊢;omega,?_⟩;simp[I]at Z;simp[f41,mC,kU,I,Z,dx,dR,dS,ak]
  .rw[aaf A4]at Z⊢;refine⟨m::n::G,by simp at H⊢;omega,?_⟩;simp[I]at Z;simp[f41,mC,kU,I,Z,dx,dR,dS,ak]
def asz(i:D)(J M:Int)(x:ar)(s:Ms)(G:List Int)(H:s.eL.length+G.length=64)(I:x.op=9):oU i J M x s G:=by
 obtain⟨C,S,a,f,V⟩:=s;simp only at H;unfold oU;refine⟨G,by simpa [fZ,I]using H,?_⟩;rw[Dc (by simp[mC])];simp[f41,fZ,mC,kU,I,dx,dR,dS,eD H,Dn H,ak]
def ao8(i:D)(J M:Int)(x:ar)(s:Ms)(G:List Int)(H:s.eL.length+G.length=64)(O:Fit x s.cells.length s.eL.length)(I:x.op=10):oU i J M x s G:=by
 obtain⟨C,S0,a,f,V⟩:=s;simp only at H O;obtain⟨S,n,rfl⟩:=yi (O.i10 I);have A2:S.length+(G.length+1)=64:=by simp at H;omega
 have A9:=B8 i J M C S G a f V n A2;have AH:S.length+(n::G).length=64:=by simpa using A2
 unfold oU;rw[Dc (by simp[mC])];simp at A9;by_cases A0:n=0
 .refine⟨n::G,by simp[fZ,I,Ms.top,Ms.pop,A0];omega,?_⟩;subst A0;simp[f41,fZ,Ms.top,Ms.pop,mC,kU,I,A9,dx,dR,dS,eD AH,Dn AH,ak]
 .refine⟨n::G,by simp[fZ,I,Ms.top,Ms.pop,A0];omega,?_⟩;simp[f41,fZ,Ms.top,Ms.pop,mC,kU,I,A9,A0,dx,dR,dS,ak]
def ao9(i:D)(J M:Int)(x:ar)(s:Ms)(G:List Int)(H:s.eL.length+G.length=64)(U:wK s)(I:x.op=11):oU i J M x s G:=by
 obtain⟨C,S,a,f,V⟩:=s;have AO:=U.fuel;simp only at H AO;unfold oU;rw[Dc (by simp[mC])];by_cases A0:f=0
 .refine⟨G,by simpa [fZ,I,A0]using H,?_⟩;simp[f41,fZ,mC,kU,I,A0,dx,dR,dS,eD H,Ra H,u9 H,ak]
 .have w:=b9 (f-1);refine⟨G,by simpa [fZ,I,A0]using H,?_⟩;simp[f41,fZ,mC,kU,I,A0,w,dx,dR,dS,eD H,Ra H,acq H,ak]
def apa(i:D)(J M:Int)(x:ar)(s:Ms)(G:List Int)(H:s.eL.length+G.length=64)(O:Fit x s.cells.length s.eL.length)(U:wK s)(I:x.op=13):oU i J M x s G:=by
 obtain⟨C,S,a,f,V⟩:=s;have A8:=U.ZW;simp only at H O A8;obtain⟨A5,⟨AP,a2⟩,⟨AQ,Af⟩,⟨Ag,Ah⟩⟩:=O.i13 I;obtain⟨g,A',rfl,A2⟩:=Ca H A5;have hu:=acs i J M C S (g::A') S.length a f V x H ⟨AP,a2,AQ,by omega,A8⟩;have A3:=Ar (tM C x);have A6:(if tM C x=true then (1:Int)else 0)=cg (tM C x):=rfl;rw[A6]at A3;have T:=qB i J M C S A' g a f V (cg (tM C x)) A2;unfold oU;rw[Dc (by simp[mC])];refine⟨A',by simp[fZ,I,Ms.push];omega,?_⟩;simp[I]at hu T;simp[f41,fZ,Ms.push,mC,kU,I,hu,A3,T,dx,dR,dS,ak]
def apb(i:D)(J M:Int)(x:ar)(s:Ms)(G:List Int)(H:s.eL.length+G.length=64)(O:Fit x s.cells.length s.eL.length)(I:x.op=14):oU i J M x s G:=by
 obtain⟨C,S,a,f,V⟩:=s;simp only at H O;obtain⟨AR,AA,AB⟩:=O.i2 (.inr (.inr I));obtain⟨g,A',rfl,A2⟩:=Ca H AR;have T:=λv=>qB i J M C S A' g a f V v A2;unfold oU;rw[Dc (by simp[mC])];refine⟨A',by simp[fZ,I,Ms.push];omega,?_⟩;have A3:=Ar;by_cases A5:x.n<=fo C x.a
 .by_cases AI:fo C x.a<=x.m
  .have T:=T 1;simp at T;simp[f41,fZ,Ms.push,mC,kU,I,A3,cg,T,A5,AI,AA,AB,cellAt,dx,dR,dS,eD H,pS,ak]
  .have T:=T 0;simp at T;simp[f41,fZ,Ms.push,mC,kU,I,A3,cg,T,A5,AI,AA,AB,cellAt,dx,dR,dS,eD H,pS,ak]
 .have T:=T 0;simp at T;simp[f41,fZ,Ms.push,mC,kU,I,A3,cg,T,A5,AA,AB,cellAt,dx,dR,dS,eD H,pS,ak]
def xV:∀Y:List Int,mM (Y.map jD)=true
 |[]=>rfl
 |x::r=>by simp[mM,kM,xV r]
def Rc(C Y:List Int)(a:Nat)(h:a+Y.length<=C.length):bL (C.map jD) a (Y.map jD)=(C.take a++Y++C.drop (a+Y.length)).map jD:=by
 rw[ea _ _ _ (by simpa using h)];simp[apP,List.map_drop]
def apc(i:D)(J M:Int)(x:ar)(s:Ms)(G:List Int)(H:s.eL.length+G.length=64)(O:Fit x s.cells.length s.eL.length)(U:wK s)(I:x.op=12):oU i J M x s G:=by
 obtain⟨C,S,a,f,V⟩:=s;have A8:=U.ZW;have AC:=U.cells;simp only at H O A8 AC;obtain⟨Ai,AJ⟩:=O.i12 I;obtain⟨pl,AK,AL,Aj⟩:=Gs x.b;obtain⟨o,A6⟩:∃o:Nat,x.a=(o:Int):=⟨x.a.toNat,by omega⟩;have AS:o+pl.length<=C.length:=by rw[A6]at AJ;simp at AJ;omega
 have AD:((C.drop o).take pl.length).length=pl.length:=by simp;omega
 have AE:=Q8 x.b ((C.drop o).take pl.length) (by rw[AD,AL]) (λy AT=>AC y (adx (adw AT)));have AF:(ie x.b ((C.drop o).take pl.length)).length=pl.length:=by rw[wo,AD]
 have AG:pb x C=C.take o++ie x.b ((C.drop o).take pl.length)++C.drop (o+(ie x.b ((C.drop o).take pl.length)).length):=by
  unfold pb;rw[A6,AF,<-AL];simp
 have AM:=Rc C (ie x.b ((C.drop o).take pl.length)) o (by omega);rw[<-AG]at AM;have AU:(pb x C).length=C.length:=by
  rw[AG];simp only[acY,ag6,agU,AF];omega
 rw[AD]at AE;generalize AV:ie x.b ((C.drop o).take pl.length)=Y at*;have AW:(Y.map jD).take (C.length-o)=Y.map jD:=adK (by simp;omega);have AX:(Y.map jD).take pl.length=Y.map jD:=adK (by simp;omega);have AY:=b9 ((o:Int)+(pl.length:Int));have AZ:((o:Int)+(pl.length:Int)).toNat=o+pl.length:=by omega
 have A_:o<=C.length:=by omega
 have Aa:(o:Int)<=(C.length:Int):=by omega
 have Ab:(0:Int)<=(o:Int)+(pl.length:Int):=by omega
 have Ac:(o:Int)<=(o:Int)+(pl.length:Int):=by omega
 have Ad:o+(C.length-o)<=C.length:=by omega
 unfold oU;refine⟨G,by simpa [fZ,I]using H,?_⟩;rw[Dc (by simp[mC])];clear U O AC AV AG;try simp at AK
 simp only[apP,List.map_drop]at AE;simp[f41,fZ,mC,kU,I,A6,AK,AE,AF,AW,AX,AM,AU,AY,AZ,A_,Aa,Ab,Ac,Ad,AS,dx,dR,dS,eD H,pS,xV,ak]
def Sk(i:D)(J M:Int)(x:ar)(s:Ms)(G:List Int)(H:s.eL.length+G.length=64)(O:Fit x s.cells.length s.eL.length)(U:wK s)(I:8<=x.op/\x.op<=14):oU i J M x s G:=by
 have Ae:x.op=8\/x.op=9\/x.op=10\/x.op=11\/x.op=12\/x.op=13\/x.op=14:=by omega
 rcases Ae with h|h|h|h|h|h|h
 .exact asy i J M x s G H O U h
 .exact asz i J M x s G H h
 .exact ao8 i J M x s G H O h
 .exact ao9 i J M x s G H U h
 .exact apc i J M x s G H O U h
 .exact apa i J M x s G H O U h
 .exact apb i J M x s G H O h
structure Lg(l:List ar)(st:Nat->List Bool)(n:Nat)(s:Ms):Prop where
 xc:wK s
 len:s.cells.length=n
 oA:s.eL.length<=64
 here:s.fault=0->s.at_.toNat<l.length/\s.eL.length=(st s.at_.toNat).length
def ni{t:Bool}{S S':List Bool}(h:fm t S=some S'):S.length<64/\S'.length=S.length+1:=by
 unfold fm at h;split at h
 .rename_i O;cases h;exact⟨O,by simp⟩
 .cases h
def qR{n:Nat}{t:Bool}{S S':List Bool}(h:jP n t S=some S'):n<=S.length/\S'.length=S.length-n:=by
 unfold jP at h;split at h
 .cases h
 .rename_i O;split at h
  .cases h
  .cases h;exact⟨by omega,by simp⟩
def rY{S S':List Bool}(h:iI S=some S'):S=[]/\S'=[]:=by
 unfold iI at h;split at h
 .rename_i O;cases h;exact⟨O,rfl⟩
 .cases h
def Ih{cells n:Nat}{a:Int}(h:fW cells a n=true):0<=a/\a.toNat+n<=cells:=by
 unfold fW at h;simp only[Ds,ac2]at h;omega
def hZ(x:ar)(h:Nat):Nat:=
 if x.op=1\/x.op=2\/x.op=3\/x.op=13\/x.op=14 then h+1 else if x.op=4\/x.op=5 then h else if x.op=6\/x.op=10 then h-1 else if x.op=7 then h-2
 else if x.op=8 then (if x.b=6\/x.b=7 then h else h-1)else h
def Lh{n:Nat}{x:ar}(h:AY n x=true):NS n x:=by
 unfold AY fW at h;unfold NS;simp only[Ds,ac2]at h;omega
def al0{n:Nat}{last at_:Int}{x:ar}{S S':List Bool}(J:dH jT n last at_ x=true)(I:cM x S=some S')(oA:S.length<=64):
 Fit x n S.length/\S'.length=hZ x S.length/\(x.op=10->S'.length=0)/\(x.op=9->S'.length=0)/\(1<=x.op/\x.op<=15):=by
 have Z:x.op=1\/x.op=2\/x.op=3\/x.op=4\/x.op=5\/x.op=6\/x.op=7\/x.op=8\/x.op=9\/x.op=10\/x.op=11\/x.op=12\/x.op=13\/x.op=14\/x.op=15:=by
  apply aiL;intro U;simp only[alp]at U;unfold dH at J;simp[U]at J
 unfold dH at J;unfold cM at I;have one:∀{a:Int},fW n a 1=true->B9 n a:=λh=>by
  have:=Ih (n:=1) h;exact⟨this.1,by omega⟩
 rcases Z with e|e|e|e|e|e|e|e|e|e|e|e|e|e|e<;>simp[e]at J I
 .obtain⟨D,H⟩:=ni I;exact⟨⟨oA,λ_=>D,by simp[e],by simp[e],by simp[e],by simp[e],by simp[e],by simp[e],by simp[e],by simp[e]⟩,by simp[hZ,e,H],by simp[e],by simp[e],by simp[e]⟩
 .obtain⟨D,H⟩:=ni I;exact⟨⟨oA,by simp[e],λ_=>⟨D,one J⟩,by simp[e],by simp[e],by simp[e],by simp[e],by simp[e],by simp[e],by simp[e]⟩,by simp[hZ,e,H],by simp[e],by simp[e],by simp[e]⟩
 .obtain⟨D,H⟩:=ni I;exact⟨⟨oA,by simp[e],λ_=>⟨D,one J⟩,by simp[e],by simp[e],by simp[e],by simp[e],by simp[e],by simp[e],by simp[e]⟩,by simp[hZ,e,H],by simp[e],by simp[e],by simp[e]⟩
 .obtain⟨T,t1,t2⟩:=agO.1 I;obtain⟨D,H⟩:=qR t1;obtain⟨V,Y⟩:=ni t2;exact⟨⟨oA,by simp[e],by simp[e],λ_=>⟨D,Lh J⟩,by simp[e],by simp[e],by simp[e],by simp[e],by simp[e],by simp[e]⟩,by simp[hZ,e];omega,by simp[e],by simp[e],by simp[e]⟩
 .obtain⟨T,t1,t2⟩:=agO.1 I;obtain⟨D,H⟩:=qR t1;obtain⟨V,Y⟩:=ni t2;exact⟨⟨oA,by simp[e],by simp[e],λ_=>⟨D,Lh J⟩,by simp[e],by simp[e],by simp[e],by simp[e],by simp[e],by simp[e]⟩,by simp[hZ,e];omega,by simp[e],by simp[e],by simp[e]⟩
 .obtain⟨D,H⟩:=qR I;exact⟨⟨oA,by simp[e],by simp[e],by simp[e],λ_=>⟨D,one J⟩,by simp[e],by simp[e],by simp[e],by simp[e],by simp[e]⟩,by simp[hZ,e];omega,by simp[e],by simp[e],by simp[e]⟩
 .obtain⟨D,H⟩:=qR I;exact⟨⟨oA,by simp[e],by simp[e],by simp[e],by simp[e],λ_=>⟨D,Lh J⟩,by simp[e],by simp[e],by simp[e],by simp[e]⟩,by simp[hZ,e];omega,by simp[e],by simp[e],by simp[e]⟩
 .obtain⟨T,t1,t2⟩:=agO.1 I;obtain⟨D,H⟩:=qR t1;obtain⟨V,Y⟩:=ni t2;by_cases M:x.b=6\/x.b=7
  .rw[ac1 M]at D H;exact⟨⟨oA,by simp[e],by simp[e],by simp[e],by simp[e],by simp[e],λ_=>⟨λ_=>D,λh=>absurd M h⟩,by simp[e],by simp[e],by simp[e]⟩,by simp[hZ,e,M];omega,by simp[e],by simp[e],by simp[e]⟩
  .rw[aaf M]at D H;exact⟨⟨oA,by simp[e],by simp[e],by simp[e],by simp[e],by simp[e],λ_=>⟨λh=>absurd h M,λ_=>D⟩,by simp[e],by simp[e],by simp[e]⟩,by simp[hZ,e,M];omega,by simp[e],by simp[e],by simp[e]⟩
 .obtain⟨D,H⟩:=rY I;exact⟨⟨oA,by simp[e],by simp[e],by simp[e],by simp[e],by simp[e],by simp[e],by simp[e],by simp[e],by simp[e]⟩,by simp[hZ,e,D,H],by simp[e],λ_=>by simp[H],by simp[e]⟩
 .obtain⟨T,t1,t2⟩:=agO.1 I;obtain⟨D,H⟩:=qR t1;obtain⟨V,Y⟩:=rY t2;subst V;subst Y;exact⟨⟨oA,by simp[e],by simp[e],by simp[e],by simp[e],by simp[e],by simp[e],λ_=>D,by simp[e],by simp[e]⟩,by simp[hZ,e];simpa using H,λ_=>rfl,by simp[e],by simp[e]⟩
 .obtain⟨D,H⟩:=rY I;exact⟨⟨oA,by simp[e],by simp[e],by simp[e],by simp[e],by simp[e],by simp[e],by simp[e],by simp[e],by simp[e]⟩,by simp[hZ,e,D,H],by simp[e],by simp[e],by simp[e]⟩
 .obtain⟨D,H⟩:=rY I;have U:=Ih J.2;exact⟨⟨oA,by simp[e],by simp[e],by simp[e],by simp[e],by simp[e],by simp[e],by simp[e],λ_=>U,by simp[e]⟩,by simp[hZ,e,D,H],by simp[e],by simp[e],by simp[e]⟩
 .obtain⟨D,H⟩:=ni I;have M:=Ih (n:=2) J.2;exact⟨⟨oA,by simp[e],by simp[e],by simp[e],by simp[e],by simp[e],by simp[e],by simp[e],by simp[e],λ_=>⟨D,one J.1,⟨M.1,by omega⟩,⟨by omega,by omega⟩⟩⟩,by simp[hZ,e,H],by simp[e],by simp[e],by simp[e]⟩
 .obtain⟨D,H⟩:=ni I;exact⟨⟨oA,by simp[e],λ_=>⟨D,one J⟩,by simp[e],by simp[e],by simp[e],by simp[e],by simp[e],by simp[e],by simp[e]⟩,by simp[hZ,e,H],by simp[e],by simp[e],by simp[e]⟩
 .obtain⟨D,H⟩:=rY I;exact⟨⟨oA,by simp[e],by simp[e],by simp[e],by simp[e],by simp[e],by simp[e],by simp[e],by simp[e],by simp[e]⟩,by simp[hZ,e,D,H],by simp[e],by simp[e],by simp[e]⟩
def kh:bz 0:=by unfold bz;omega
def NU:bz 1:=by unfold bz;omega
def wL(b:Bool):bz (cg b):=by unfold cg;split;exact NU;exact kh
def Kd(z:Int):bz (mm z).1:=by
 unfold mm;split
 .rename_i h;exact h
 .exact kh
def Ke{p:Int×Bool}(h:bz p.1):bz (px p).1:=by
 unfold px;split
 .exact h
 .exact kh
def agi{a b:Int}(H:bz a)(I:b≠0)(h:¬(a= -9223372036854775808/\b= -1)):bz (a.tdiv b):=by
 have J:=HN a b;unfold bz at*;have AG:a.natAbs/b.natAbs<=a.natAbs:=Nat.div_le_self _ _;have A2:decide (a<0)=decide (b<0)->a.natAbs/b.natAbs<=9223372036854775807:=by
  intro M;by_cases A3:a= -9223372036854775808
  .have A4:2<=b.natAbs:=by
    have:b<0:=by rw[A3]at M;simpa using M
    omega
   have AH:=Nat.div_le_div_left A4 (by decide) (a:=a.natAbs);omega
  .omega
 generalize a.natAbs/b.natAbs=q at*;split at J
 .rename_i M;have:=A2 M;omega
 .omega
def agj{a b:Int}(H:bz a)(I:b≠0):bz (a.tmod b):=by
 have J:=abo a b;unfold bz at*;have AI:a.natAbs%b.natAbs<=a.natAbs:=Nat.mod_le _ _;have AJ:a.natAbs%b.natAbs<b.natAbs:=Nat.mod_lt _ (by omega);generalize a.natAbs%b.natAbs=q at*;split at J<;>omega
def ZX{p:Int×Int}(h:bz p.1):bz (oO p).1:=by
 unfold oO;split
 .exact kh
 .split
  .exact h
  .exact kh
def al1{a b:Int}(H:bz a):bz (AX a b).1:=by
 unfold AX;split
 .exact kh
 .rename_i I;split
  .exact kh
  .rename_i h;exact agi H I h
def al2{a b:Int}(H:bz a):bz (CX a b).1:=by
 unfold CX;split
 .exact kh
 .rename_i I;exact agj H I
def aeh(op a:Int)(t:Bool):bz (jl op a t).1:=by
 unfold jl hU;repeat' split
 all_goals first|exact kh|exact wL _|exact Ke (Kd _)
def apd(op a b:Int):bz (wX op a b).1:=by
 unfold wX hU;repeat' split
 all_goals first|exact kh|exact wL _
def ape(op a b:Int)(H:bz a):bz (xo op a b).1:=by
 have A5:=Ke (Kd (a+b));have A6:=Ke (Kd (a-b));have A7:=Ke (Kd (a*b));have A8:=ZX (al1 (b:=b) H);have A9:=ZX (al2 (b:=b) H);unfold xo hU;by_cases V:op=8
 .rw[ac1 V];exact A5
 rw[aaf V];by_cases Y:op=9
 .rw[ac1 Y];exact A6
 rw[aaf Y];by_cases Z:op=10
 .rw[ac1 Z];exact A7
 rw[aaf Z];by_cases y:op=11
 .rw[ac1 y];exact A8
 rw[aaf y];by_cases A':op=12
 .rw[ac1 A'];exact A9
 rw[aaf A'];repeat' split
 all_goals first|exact kh|exact wL _
def NV(op a b:Int)(t:Bool)(H:bz a):bz (gR op a b t).1:=by
 unfold gR;split
 .split
  .exact kh
  .exact apd ..
 .exact ape _ _ _ H
def NW{e b:Int}(he:bz e)(I:bz b):bz (DK e b):=by unfold DK bz at*;split<;>omega
def T7(k:Int)(c:List Int)(h:∀n∈c,bz n):∀n∈ie k c,bz n:=by
 unfold ie;split
 .rename_i a b q;have H:=h a (by simp);have I:=h b (by simp);have J:=h q (by simp);unfold xP;repeat' split
  all_goals (simp only[List.forall_mem_cons];simp[H,I,J,wL])
 .rename_i a b q e;have H:=h a (by simp);have I:=h b (by simp);have J:=h q (by simp);have he:=h e (by simp);have hu:=NW he I;unfold xO;repeat' split
  all_goals (simp only[List.forall_mem_cons];simp[H,I,J,he,hu,wL,kh,NU])
 .rename_i a b q e p r;have H:=h a (by simp);have I:=h b (by simp);have J:=h q (by simp);have he:=h e (by simp);have O:=h p (by simp);have A0:=h r (by simp);have hu:=NW he I;have AK:=NW kh I;have AA:p<9223372036854775807->bz (p+1):=λ_=>by unfold bz at*;omega
  have AB: -9223372036854775808<p->bz (p-1):=λ_=>by unfold bz at*;omega
  have AC:bz (if b≠0 then 0 else if a≠0/\r=0/\p<9223372036854775807 then p+1 else p):=by
   split
   .exact kh
   .split
    .rename_i h;exact AA h.2.2
    .exact O
  have AD:bz (if b≠0 then q else if a≠0/\r=0/\ -9223372036854775808<p then p-1 else p):=by
   split
   .exact J
   .split
    .rename_i h;exact AB h.2.2
    .exact O
  have AE:bz (if a≠0/\p=0/\r=0 then 1 else r):=by split;exact NU;exact A0
  have A1:bz (if a≠0/\p=0/\r=0 then 0 else e):=by split;exact kh;exact he
  unfold sf tpS cuS cdS;dsimp only
  generalize (if b≠0 then 0 else if a≠0/\r=0/\p<9223372036854775807 then p+1 else p)=v1 at*;generalize (if b≠0 then q else if a≠0/\r=0/\ -9223372036854775808<p then p-1 else p)=v2 at*;generalize (if a≠0/\p=0/\r=0 then (1:Int)else r)=v3 at*;generalize (if a≠0/\p=0/\r=0 then (0:Int)else e)=v4 at*;have AF:=NW A1 I;repeat' split
  all_goals (simp only[List.forall_mem_cons];simp[H,I,J,he,O,A0,hu,AF,AC,AD,AE,A1,wL,kh,NU])
 .exact h
def apf{C:List Int}(h:∀n∈C,bz n)(k:Int):bz (fo C k):=by
 unfold fo;cases T:C[k.toNat]? with
 |none=>exact kh
 |some v=>exact h v (ac6 T)
def ZY{C:List Int}(h:∀n∈C,bz n)(k:Int){v:Int}(U:bz v):∀n∈oP C k v,bz n:=by
 intro n D;unfold oP at D;rcases List.mem_or_eq_of_mem_set D with D|rfl
 .exact h n D
 .exact U
def Ww{S:List Int}(h:∀n∈S,bz n):bz (S.getLast?.getD 0):=by
 cases T:S.getLast? with
 |none=>exact kh
 |some v=>exact h v (List.mem_of_getLast? T)
def mE{S:List Int}(h:∀n∈S,bz n):∀n∈S.dropLast,bz n:=λn D=>h n (by rw[List.dropLast_eq_take]at D;exact adw D)
def tX{S:List Int}(h:∀n∈S,bz n){v:Int}(U:bz v):∀n∈S++[v],bz n:=by
 intro n D;rcases ada.1 D with D|D
 .exact h n D
 .simp at D;subst D;exact U
def acy{C:List Int}(h:∀n∈C,bz n)(x:ar):∀n∈pb x C,bz n:=by
 intro n D;unfold pb at D;rcases ada.1 D with D|D
 .rcases ada.1 D with D|D
  .exact h n (adw D)
  .exact T7 _ _ (λm hm=>h m (adx (adw hm))) n D
 .exact h n (adx D)
def Wx{C:List Int}{x:ar}(h:x.a.toNat+jT x.b<=C.length):(pb x C).length=C.length:=by
 unfold pb;simp only[acY,ag6,agU,wo];omega
def mnV(p:Pg)(C:List Int)(f:Nat)(q:Vl):bS:=
 match q with
 | .v n t=>some (.ret (.bq [.d (.int .i64 n),.d (.bool t)]),uz p C f 0)
 | .f e=>some (.panic 101 (oz e),uz p C f 0)
def mnW(p:Pg)(C:List Int)(f:Nat)(q:Vl):bS:=
 match q with
 | .v n _=>some (.ret (.d (.int .i64 n)),uz p C f 0)
 | .f e=>some (.panic 101 (oz e),uz p C f 0)
@[simp] def av6(p:Pg)(C:List Int)(f:Nat)(n:Int)(t:Bool):mnV p C f (.v n t)=some (.ret (.bq [.d (.int .i64 n),.d (.bool t)]),uz p C f 0):=rfl
@[simp] def av7(p:Pg)(C:List Int)(f:Nat)(e:Int):mnV p C f (.f e)=some (.panic 101 (oz e),uz p C f 0):=rfl
@[simp] def av8(p:Pg)(C:List Int)(f:Nat)(n:Int)(t:Bool):mnW p C f (.v n t)=some (.ret (.d (.int .i64 n)),uz p C f 0):=rfl
@[simp] def av9(p:Pg)(C:List Int)(f:Nat)(e:Int):mnW p C f (.f e)=some (.panic 101 (oz e),uz p C f 0):=rfl
structure gY(p:Pg)(C:List Int):Prop where
 len:(C.length:Int)=bW p.vars
 le:C.length<=1024
 num:∀c∈C,bz c
def KV(p:Pg)(x:Ex):Prop:=∀(C:List Int)(f:Nat),gY p C->aj ctx 242 [.ptr 0 0 0,.d (.agg [.int .i64 (bQ x),.int .i64 (iS x),.str (eh x),.str (ic x),.list ((di x).map cm),.int .i64 (lQ x)])] (my p C f)=mnV p C f (bN p.vars C x)
def RI(p:Pg)(x:Ex):Prop:=∀(C:List Int) n t,gY p C->bN p.vars C x=.v n t->bz n
def yj{C:List Int}(h:∀c∈C,bz c)(k:Int):bz (jB C k):=by
 unfold jB;cases T:C[k.toNat]? with
 |none=>simp;exact kh
 |some c=>simp;exact h c (ac6 T)
def Wy{C:List Int}(h:∀c∈C,bz c)(k t:Int):bz (zh C k t):=by
 unfold zh;split
 .exact wL _
 .exact yj h k
def Wz{op:Int}{l:List Int}{t:Bool}(h:∀c∈l,bz c){n:Int}{b:Bool}(I:ou op l t=.v n b):bz n:=by
 unfold ou at I;split at I
 .injection I with H _
  rw[<-H];unfold BY;split
  .exact aeh _ _ _
  .exact NV _ _ _ _ (h _ (by simp))
  .exact kh
 .cases I
section
variable {p:Pg} (V:p.vars.length<=1000) (M:∀w∈p.vars,dr w=true)
include V M
omit V in
theorem apg{x:Ex}(A9:XC p.vars x)(AA:dt x=true)(ih:∀y∈di x,RI p y):RI p x:=by
 intro C n t D h;cases A9 with
 |num H=>
  rw[Gc]at h;cases h;simp only[dt,Ds,ac2]at AA;unfold bz;omega
 |qX H=>rw[Gd]at h;cases h;unfold bz;omega
 |var I U O=>rw[Ge]at h;cases h;exact Wy D.num _ _
 |@idx name line v y I U O A6 A7 ty=>
  rw[Gf]at h;cases J:bN p.vars C y with
  |f e=>rw[J]at h;cases h
  |v k b=>
   rw[J]at h;simp only[vV,A4]at h;split at h
   .cases h
   .cases h;exact Wy D.num _ _
 |GY I O A0 A1=>rw[Gg]at h;cases h;exact Wy D.num _ _
 |@one op line y AB A6 A7 ty=>
  rw[Gi _ _ _ _ (by omega)]at h;cases J:bN p.vars C y with
  |f e=>rw[J]at h;cases h
  |v a b=>
   rw[J]at h;exact Wz (by intro c A';simp at A';rw[A'];exact ih y (by simp) C a b D J) h
 |@two op line y z AB A6 A7 AE AF ty AG=>
  rw[Gj _ _ _ _ _ (by omega)]at h;cases J:bN p.vars C y with
  |f e=>rw[J]at h;cases h
  |v a b=>
   rw[J]at h;simp only at h;cases A2:bN p.vars C z with
   |f e=>rw[A2]at h;cases h
   |v a2 AC=>
    rw[A2]at h;refine Wz ?_ h;intro c A';simp at A';rcases A' with rfl|rfl
    .exact ih y (by simp) C _ b D J
    .exact ih z (by simp) C _ AC D A2
theorem Re{name:Tx}{w:Vr}(hw:bj p.vars name=some w)(U:w.arr=false)(O:w.ty<=2){C:List Int}(D:gY p C):0<=(bu p.vars name).1/\(bu p.vars name).1.toNat<C.length:=by
 have:=C6 (v:=C.length) M D.len (u4 (cells:=C.length) M (by have:=D.len;omega) hw (by simp[U]) O);omega
theorem Kf{name:Tx}{w:Vr}(hw:bj p.vars name=some w){C:List Int}(D:gY p C):0<=(bu p.vars name).1/\(bu p.vars name).1<=1024:=by
 have A8:∀v∈p.vars,0<=cB v:=λv I=>qq (M v I);have H:=wu A8 hw;have Y:=A8 w (qk hw).1;have:=D.len;have:=D.le;omega
theorem aei{name:Tx}{w:Vr}(hw:bj p.vars name=some w)(U:w.arr=true):0<=w.lo/\w.hi<=255:=by
 have A1:=M _ (qk hw).1;simp only[dr,Ds]at A1;have A3:=A1.2.2.1;rw[ac1 U]at A3;have:=adI A3;omega
theorem al5{n line:Int}:KV p (.mk 1 n [] [] [] line):=by
 intro C f D;rw[Gc,zn (by simp)];simp[f242]
theorem al6{n line:Int}:KV p (.mk 2 n [] [] [] line):=by
 intro C f D;rw[Gd,zn (by simp)];simp[f242]
theorem al7{name:Tx}{line:Int}{w:Vr}(hw:bj p.vars name=some w)(U:w.arr=false)(O:w.ty<=2):KV p (.mk 3 0 name [] [] line):=by
 intro C f D;have H:=yh V hw C f;have Y:=Le (p:=p) C f (t:=w.ty) (Re V M hw U O D);rw[Ge,eI hw,zn (by simp)];simp[bF,dK]at H Y;simp[f242,H,Y,ak]
theorem al8{name field:Tx}{line:Int}{w:Vr}{q:Pn}(hw:bj p.vars name=some w)(O:2<w.ty)(A0:mn w.ty field=some q):KV p (.mk 5 0 name field [] line):=by
 intro C f D;obtain⟨q1,q2,j,q3,AH⟩:=qM hw O A0;have A3:=nh (cells:=C.length) M (by have:=D.len;omega) hw O;have hle:=Kf V M hw D;have H:=ZU V hw O A0 ⟨hle.1,by omega⟩ C f;have Y:=Le (p:=p) C f (t:=q.ty) (a:=(eH p.vars name field).1) (by rw[q3];omega);rw[Gg,q1,zn (by simp)];simp[gz]at H Y;simp[f242,H,Y,ak]
theorem al9{name:Tx}{line:Int}{w:Vr}{y:Ex}(hw:bj p.vars name=some w)(U:w.arr=true)(O:w.ty<=2)(J:KV p y):KV p (.mk 4 0 name [] [y] line):=by
 intro C f D;have H:=yh V hw C f;have hle:=Kf V M hw D;have AD:=aei V M hw U;have T:=J C f D;have Z:=λn=>M0 (a:=(bu p.vars name).1) (n:=n) (w:=w) ⟨hle.1,by omega⟩ AD;rw[Gf,eI hw,zn (by simp)];cases I:bN p.vars C y with
 |f e=>
  rw[I]at T;simp[bF,dK]at H T;simp[f242,H,T,az,vV,ak]
 |v k b=>
  rw[I]at T;have Z:=Z k;simp only[vV,A4];by_cases A5:k<w.lo\/w.hi<k
  .rw[ac1 A5]at Z⊢;simp[bF,dK]at H T Z;simp[f242,H,T,Z,az,ak]
  .rw[aaf A5]at Z⊢;have Y:=Le (p:=p) C f (t:=w.ty) (a:=(bu p.vars name).1+(k-w.lo)) (by
    have:=Fh (v:=C.length) M D.len hw U A5;omega)
   simp[bF,dK]at H T Z Y;simp[f242,H,T,Z,Y,az,ak]
end
end Go.Am
end

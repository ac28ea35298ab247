/-
  Texts of one proof, one behind the other.
-/
import Derived.Test.YtdjlcobfpppbbaaGreatDoorT4
import Derived.ProofKit
import Derived.ChangeArms
import Derived.ChangeCalls
set_option linter.all false
section
namespace Go.Am
open Go Go.Proofs Go.Proofs.Tryz
variable [Inhabited b9]
set_option maxRecDepth 20000
abbrev Rw:=Int×Tx×Tx×List Tx
def G5:List Rw:=[
 (10,[84,79,78],[105,73,111,79],[[73,78],[80,84],[81],[69,84]]),
 (11,[84,79,70],[105,73,111,79],[[73,78],[80,84],[81],[69,84]]),
 (12,[84,80],[105,73,111,79,46,46],[[73,78],[80,84],[81],[69,84]]),
 (13,[67,84,85],[105,105,73,111,79,46],[[67,85],[82],[80,86],[81],[67,86]]),
 (14,[67,84,68],[105,105,73,111,79,46],[[67,68],[76,68],[80,86],[81],[67,86]]),
 (15,[82,95,84,82,73,71],[105,111,46],[[67,76,75],[81]]),
 (16,[70,95,84,82,73,71],[105,111,46],[[67,76,75],[81]]),
 (17,[83,82],[105,105,111],[[83,49],[82],[81,49]]),
 (18,[82,83],[105,105,111],[[83],[82,49],[81,49]]),
 (20,[77,67,95,80,111,119,101,114],[73,105,111,111],[[65,120,105,115],[69,110,97,98,108,101],[83,116,97,116,117,115],[69,114,114,111,114]]),
 (21,[77,67,95,72,111,109,101],[73,105,111,111,111,111,111,46,46],[[65,120,105,115],[69,120,101,99,117,116,101],[68,111,110,101],[66,117,115,121],[65,99,116,105,118,101],[67,111,109,109,97,110,100,65,98,111,114,116,101,100],[69,114,114,111,114]]),
 (22,[77,67,95,83,116,111,112],[73,105,111,111,111,111,111,46,46],[[65,120,105,115],[69,120,101,99,117,116,101],[68,111,110,101],[66,117,115,121],[65,99,116,105,118,101],[67,111,109,109,97,110,100,65,98,111,114,116,101,100],[69,114,114,111,114]]),
 (23,[77,67,95,72,97,108,116],[73,105,111,111,111,111,111,46,46],[[65,120,105,115],[69,120,101,99,117,116,101],[68,111,110,101],[66,117,115,121],[65,99,116,105,118,101],[67,111,109,109,97,110,100,65,98,111,114,116,101,100],[69,114,114,111,114]]),
 (24,[77,67,95,77,111,118,101,65,98,115,111,108,117,116,101],[73,105,73,73,73,111,111,111,111,111,46,46],[[65,120,105,115],[69,120,101,99,117,116,101],[80,111,115,105,116,105,111,110],[86,101,108,111,99,105,116,121],[66,117,102,102,101,114,77,111,100,101],[68,111,110,101],[66,117,115,121],[65,99,116,105,118,101],[67,111,109,109,97,110,100,65,98,111,114,116,101,100],[69,114,114,111,114]]),
 (25,[77,67,95,77,111,118,101,82,101,108,97,116,105,118,101],[73,105,73,73,73,111,111,111,111,111,46,46],[[65,120,105,115],[69,120,101,99,117,116,101],[68,105,115,116,97,110,99,101],[86,101,108,111,99,105,116,121],[66,117,102,102,101,114,77,111,100,101],[68,111,110,101],[66,117,115,121],[65,99,116,105,118,101],[67,111,109,109,97,110,100,65,98,111,114,116,101,100],[69,114,114,111,114]]),
 (26,[77,67,95,77,111,118,101,65,100,100,105,116,105,118,101],[73,105,73,73,73,111,111,111,111,111,46,46],[[65,120,105,115],[69,120,101,99,117,116,101],[68,105,115,116,97,110,99,101],[86,101,108,111,99,105,116,121],[66,117,102,102,101,114,77,111,100,101],[68,111,110,101],[66,117,115,121],[65,99,116,105,118,101],[67,111,109,109,97,110,100,65,98,111,114,116,101,100],[69,114,114,111,114]]),
 (27,[77,67,95,77,111,118,101,86,101,108,111,99,105,116,121],[73,105,73,111,111,111,111,111,46,46],[[65,120,105,115],[69,120,101,99,117,116,101],[86,101,108,111,99,105,116,121],[73,110,86,101,108,111,99,105,116,121],[66,117,115,121],[65,99,116,105,118,101],[67,111,109,109,97,110,100,65,98,111,114,116,101,100],[69,114,114,111,114]]),
 (28,[77,67,95,71,101,97,114,73,110],[73,105,73,73,73,111,111,111,111,111,46,46],[[65,120,105,115],[69,120,101,99,117,116,101],[77,97,115,116,101,114],[78,117,109,101,114,97,116,111,114],[68,101,110,111,109,105,110,97,116,111,114],[73,110,71,101,97,114],[66,117,115,121],[65,99,116,105,118,101],[67,111,109,109,97,110,100,65,98,111,114,116,101,100],[69,114,114,111,114]]),
 (29,[77,67,95,82,101,115,101,116],[73,105,111,111,46],[[65,120,105,115],[69,120,101,99,117,116,101],[68,111,110,101],[69,114,114,111,114]]),
 (30,[77,67,95,83,101,116,80,111,115,105,116,105,111,110],[73,105,73,111,111,46],[[65,120,105,115],[69,120,101,99,117,116,101],[80,111,115,105,116,105,111,110],[68,111,110,101],[69,114,114,111,114]]),
 (31,[77,67,95,83,101,116,79,118,101,114,114,105,100,101],[73,105,73,111],[[65,120,105,115],[69,110,97,98,108,101],[80,101,114,99,101,110,116],[69,110,97,98,108,101,100]])]
def rwD(r:Rw):D:=.agg [.int .i64 r.1,.str r.2.1,.str r.2.2.1,.list (r.2.2.2.map .str)]
theorem ajc:ai ctx 85 [] []=some (.ret (.d (.list (G5.map rwD))),[]):=bH 120 (by kernel_rfl)
def yx(k:Int):List Rw->Tx
 |[]=>[]
 |r::l=>if r.1=k then r.2.1 else yx k l
theorem QX(q:Int)(l:List Rw)(T:l.length<1000)(k:Kt)(RF:Tx->b7)
 (H:∀t,k .ret ⟨24,aD,[(2,true,.d (.str t))],[]⟩=RF t)
 (I:∀Y:Env,k (.exit 0) ⟨24,aD,Y,[]⟩=RF []):∀(rest pre:List Rw),l=pre++rest->
 aO ctx 45 (.loop (Code.at (bg f45) [1,1,0,1,0,0])) ⟨24,aD,[(0,true,.d (.int .i64 q)),(3,true,.d (.list (l.map rwD))),(4,true,.d (.int .i64 pre.length))],[]⟩ k=RF (yx q rest)
 |[],pre,E=>by
  have U:pre.length=l.length:=by rw[E];simp
  rw[U,ag];simp[f45,I,yx]
 |x::rest,pre,E=>by
  have J:pre.length<l.length:=by rw[E];simp
  have M:l[pre.length]=x:=by simp[E]
  have ih:=QX q l T k RF H I rest (pre++[x]) (by simp[E]);have V:IntKind.i64.wrap ((pre.length:Int)+1)=(pre.length:Int)+1:=aA (by unfold aY;omega);rw[ag];by_cases O:x.1=q
  ·simp[f45];simp[J,M,rwD,O,H,yx]
  ·simp[f45]at ih⊢;simp[J,M,rwD,O,V,ih,yx]
theorem auE(q:Int):ai ctx 45 [.d (.int .i64 q)] []=some (.ret (.d (.str (yx q G5))),[]):=by
 have h:=λk RF H I=>QX q G5 (by decide) k RF H I G5 [] rfl;have Z:=ajc;rw[anC (by simp)];generalize G5=l at*;simp[f45]at h⊢;simp[Z];rw[h _ (λt=>some (.ret (.d (.str t)),[])) (by simp) (by simp)]
theorem aeM(q:Int):(yx q G5=[])↔rC q=false:=by
 by_cases h:10<=q/\q<=31
 ·have:q=10\/q=11\/q=12\/q=13\/q=14\/q=15\/q=16\/q=17\/q=18\/q=19\/q=20\/q=21\/q=22\/q=23\/q=24\/q=25\/q=26\/q=27\/q=28\/q=29\/q=30\/q=31:=by omega
  rcases this with h|h|h|h|h|h|h|h|h|h|h|h|h|h|h|h|h|h|h|h|h|h<;>subst h<;>decide
 ·have e:∀n:Int,10<=n->n<=31->¬n=q:=λn a b c=>h (by omega);have y:bI q=[]:=by
   unfold bI MD;simp only[u9];rw[ach (e _ (by decide) (by decide)),ach (e _ (by decide) (by decide)),ach (e _ (by decide) (by decide)),ach (e _ (by decide) (by decide)),ach (e _ (by decide) (by decide)),ach (e _ (by decide) (by decide)),ach (e _ (by decide) (by decide)),ach (e _ (by decide) (by decide)),ach (e _ (by decide) (by decide)),ach (e _ (by decide) (by decide)),ach (e _ (by decide) (by decide)),ach (e _ (by decide) (by decide)),ach (e _ (by decide) (by decide)),ach (e _ (by decide) (by decide)),ach (e _ (by decide) (by decide)),ach (e _ (by decide) (by decide)),ach (e _ (by decide) (by decide)),ach (e _ (by decide) (by decide)),ach (e _ (by decide) (by decide)),ach (e _ (by decide) (by decide)),ach (e _ (by decide) (by decide))]
  have A':yx q G5=[]:=by
   unfold G5;simp only[yx];rw[ach (e _ (by decide) (by decide)),ach (e _ (by decide) (by decide)),ach (e _ (by decide) (by decide)),ach (e _ (by decide) (by decide)),ach (e _ (by decide) (by decide)),ach (e _ (by decide) (by decide)),ach (e _ (by decide) (by decide)),ach (e _ (by decide) (by decide)),ach (e _ (by decide) (by decide)),ach (e _ (by decide) (by decide)),ach (e _ (by decide) (by decide)),ach (e _ (by decide) (by decide)),ach (e _ (by decide) (by decide)),ach (e _ (by decide) (by decide)),ach (e _ (by decide) (by decide)),ach (e _ (by decide) (by decide)),ach (e _ (by decide) (by decide)),ach (e _ (by decide) (by decide)),ach (e _ (by decide) (by decide)),ach (e _ (by decide) (by decide)),ach (e _ (by decide) (by decide))]
  rw[A'];unfold rC;rw[y];simp
end Go.Am
end
section
namespace Go.Am
open Go Go.Proofs
variable [Inhabited b9]
set_option maxRecDepth 20000
section
variable {vs:List Vr} {n:Int} (D:vs.length<1000000) (E:∀v∈vs,dQ v=true)
def XS(vs:List Vr)(x:Sm):EL:=match bq vs (jt x)with
 |none=>(9,mJ x)
 |some v=>if v.ty<=2 then (10,mJ x)else jZ vs v.ty (mJ x) (eS x) (cV x) []
def coE(vs:List Vr)(x:Sm):EL:=match bq vs (jt x)with
 |none=>(9,mJ x)
 |some v=>if v.sec=1 then (1,mJ x)else if v.arr=true\/v.ty≠1 then (10,mJ x)else gj (mK vs 1 (cV x)) (xC vs (bG x))
include D E
end
theorem vd(vs:List Vr)(lp:Bool)(x:Sm):kZ vs lp x=
 if bJ x=1 then GW vs (fG x) (eJ x) (mJ x)
 else if bJ x=2 then fW vs lp (cV x) (bG x)
 else if bJ x=3 then gj (dZ vs (eJ x) 1) (fW vs lp [] (bG x))
 else if bJ x=4 then coE vs x
 else if bJ x=5 then gj (dZ vs (eJ x) 2) (xC vs (bG x))
 else if bJ x=6 then gj (xC vs (bG x)) (dZ vs (eJ x) 2)
 else if bJ x=7 then (if lp=true then (0,0)else (14,mJ x))
 else if bJ x=9 then XS vs x
 else (0,0):=by
 obtain⟨op,name,to,val,conds,D,fields,blocks,line⟩:=x;unfold kZ coE XS;rfl
mutual
def QY:Sm->Nat
 | .mk _ _ _ _ conds D fields blocks _=>1+conds.length+D.length+fields.length+yy blocks
def uA:List Sm->Nat
 |[]=>0
 |x::r=>QY x+uA r
def yy:List (List Sm)->Nat
 |[]=>0
 |b::r=>uA b+1+yy r
end
theorem E9:∀l:List Sm,l.length<=uA l
 |[]=>by simp[uA]
 | .mk _ _ _ _ c E f H _::r=>by have:=E9 r;simp only[uA,QY,acq];omega
theorem MO:∀l:List (List Sm),l.length<=yy l
 |[]=>by simp[yy]
 |b::r=>by have:=MO r;simp only[yy,acq];omega
section
variable {vs:List Vr} {n:Int} (I:vs.length<1000000) (J:∀v∈vs,dQ v=true)
end
section
variable {vs:List Vr} {n:Int} (D:vs.length<1000000) (E:∀v∈vs,dQ v=true)
theorem ni{a b:EL}(h:a.1=0):gj a b=b:=by unfold gj;rw[ach (by simp[h])]
theorem rH{a b:EL}(h:¬a.1=0):gj a b=a:=by unfold gj;rw[acs h]
include D E
end
def eA(e:EL):EL:=if e.1=0 then (0,0)else e
end Go.Am
end
section
namespace Go.Am
open Go Go.Proofs Go.Proofs.Tryz
variable [Inhabited b9]
set_option maxRecDepth 20000
@[reducible] noncomputable def gR(p:List Nat):Code:=Code.at (bg f18) p
def XT(w:Vr):Bool:=dK w.name&&decide (0<=w.sec/\w.sec<=2)
def XU(w:Vr):Bool:=decide (w.ty=1\/w.ty=2)||rC w.ty
def XV(w:Vr):Bool:=if w.arr=true then decide (w.ty<=2/\0<=w.lo/\w.lo<=w.hi/\w.hi<=255)else decide (w.lo=0/\w.hi=0)
def fiE(w:Vr):Bool:=!decide (((w.arr=true\/2<w.ty)/\w.init≠0)\/(w.ty=2/\(w.init<0\/1<w.init))\/w.init= -9223372036854775808)
theorem aje(w:Vr):dQ w=(XT w&&(XU w&&(XV w&&fiE w))):=by
 unfold dQ XT XU XV fiE;simp only[Bool.and_assoc]
section
variable {w:Vr} {v:Nat} {k:Kt} {R1:b7} {a b:AV} {B:aJ} (D:k .ret ⟨129,aD,[(2,true,.d (.bool false))],[⟨150,1,B⟩,⟨300,v,jH w⟩]⟩=R1)
include D
theorem aod:aO ctx 18 (gR [1,1,0,1,0,0,1,0,0,1,0]) ⟨129,aD,[(1,true,a),(3,true,b),(4,true,.ptr 300 v 0)],[⟨150,1,B⟩,⟨300,v,jH w⟩]⟩ k=
 if XT w=true then k .normal ⟨129,aD,[(1,true,a),(3,true,b),(4,true,.ptr 300 v 0),(40,true,.d (.bool false))],[⟨150,1,B⟩,⟨300,v,jH w⟩]⟩else R1:=by
 have U:=fM w.name;unfold XT;simp only[jH]at D;generalize dK w.name=N at*;cases N with
 |false=>(simp[gR,f18];simp[U,D])
 |true=>
  by_cases E:w.sec<0
  ·have H:¬0<=w.sec:=by omega
   (simp[gR,f18];simp[U,E,H,D])
  ·have H:0<=w.sec:=by omega
   by_cases I:2<w.sec
   ·have M:¬w.sec<=2:=by omega
    (simp[gR,f18];simp[U,E,H,I,M,D])
   ·have M:w.sec<=2:=by omega
    (simp[gR,f18];simp[U,E,H,I,M,D])
theorem aoe{d:AV}:aO ctx 18 (gR [1,1,0,1,0,0,1,0,0,1,1,0]) ⟨129,aD,[(1,true,a),(3,true,b),(4,true,.ptr 300 v 0),(40,true,d)],[⟨150,1,B⟩,⟨300,v,jH w⟩]⟩ k=
 if XU w=true then k .normal ⟨129,aD,[(1,true,a),(3,true,b),(4,true,.ptr 300 v 0),(54,true,.d (.bool false))],[⟨150,1,B⟩,⟨300,v,jH w⟩]⟩else R1:=by
 have U:=auE w.ty;have A0:=aeM w.ty;unfold XU;simp only[jH]at D;generalize yx w.ty G5=T at*;generalize rC w.ty=Q at*;by_cases E:w.ty=1
 ·(simp only[E]at D⊢;simp[gR,f18];simp[E])
 ·by_cases H:w.ty=2
  ·(simp only[H]at D⊢;simp[gR,f18];simp[H])
  ·by_cases Y:T=[]
   ·have y:=A0.1 Y
    (simp[gR,f18];simp[U,E,H,Y,y,D])
   ·have y:Q=true:=by cases Q with|true=>rfl|false=>exact absurd (A0.2 rfl) Y
    (simp[gR,f18];simp[U,E,H,Y,y,D])
theorem aof{d:AV}:aO ctx 18 (gR [1,1,0,1,0,0,1,0,0,1,1,1,0]) ⟨129,aD,[(1,true,a),(3,true,b),(4,true,.ptr 300 v 0),(54,true,d)],[⟨150,1,B⟩,⟨300,v,jH w⟩]⟩ k=
 if XV w=true then k .normal ⟨129,aD,[(1,true,a),(3,true,b),(4,true,.ptr 300 v 0),(93,true,.d (.bool false))],[⟨150,1,B⟩,⟨300,v,jH w⟩]⟩else R1:=by
 unfold XV;simp only[jH]at D;obtain⟨name,ty,sec,arr,lo,hi,init,line⟩:=w;simp only at D⊢;cases arr with
 |false=>
  by_cases E:lo=0
  ·by_cases H:hi=0
   ·(simp[gR,f18];simp[E,H,D])
   ·(simp only[E]at D;simp[gR,f18];simp[E,H,D])
  ·(simp[gR,f18];simp[E,D])
 |true=>
  by_cases E:2<ty
  ·have J:¬ty<=2:=by omega
   (simp[gR,f18];simp[E,J,D])
  ·have J:ty<=2:=by omega
   by_cases H:lo<0
   ·have V:¬0<=lo:=by omega
    (simp[gR,f18];simp[E,J,H,V,D])
   ·have V:0<=lo:=by omega
    by_cases I:hi<lo
    ·have Z:¬lo<=hi:=by omega
     (simp[gR,f18];simp[E,J,H,V,I,Z,D])
    ·have Z:lo<=hi:=by omega
     by_cases M:255<hi
     ·have O:¬hi<=255:=by omega
      (simp[gR,f18];simp[E,J,H,V,I,Z,M,O,D])
     ·have O:hi<=255:=by omega
      (simp[gR,f18];simp[E,J,H,V,I,Z,M,O,D])
theorem aog{d:AV}:aO ctx 18 (gR [1,1,0,1,0,0,1,0,0,1,1,1,1]) ⟨129,aD,[(1,true,a),(3,true,b),(4,true,.ptr 300 v 0),(93,true,d)],[⟨150,1,B⟩,⟨300,v,jH w⟩]⟩ k=
 if fiE w=true then k .normal ⟨129,aD,[(1,true,a),(3,true,b),(125,true,.d (.bool false))],[⟨150,1,B⟩,⟨300,v,jH w⟩]⟩else R1:=by
 unfold fiE;simp only[jH]at D;obtain⟨name,ty,sec,arr,lo,hi,init,line⟩:=w;simp only at D⊢;cases arr with
 |true=>
  by_cases H:init=0
  ·subst H;by_cases I:ty=2
   ·subst I;(simp[gR,f18];all_goals simp[D])
   ·(simp[gR,f18];all_goals simp[I,D])
  ·(simp[gR,f18];all_goals simp[H,D])
 |false=>
  by_cases E:2<ty
  ·have I:¬ty=2:=by omega
   have J:¬ty<=2:=by omega
   by_cases H:init=0
   ·subst H;(simp[gR,f18];all_goals simp[E,J,I,D])
   ·(simp[gR,f18];all_goals simp[E,J,H,I,D])
  ·have J:ty<=2:=by omega
   by_cases I:ty=2
   ·subst I;by_cases M:init<0
    ·have O:¬0<=init:=by omega
     (simp[gR,f18];all_goals simp[M,O,D])
    ·have O:0<=init:=by omega
     by_cases A1:1<init
     ·have A':¬init<=1:=by omega
      (simp[gR,f18];all_goals simp[M,O,A1,A',D])
     ·have c:¬init= -9223372036854775808:=by omega
      have A':init<=1:=by omega
      (simp[gR,f18];all_goals simp[M,O,A1,A',c,D])
   ·by_cases c:init= -9223372036854775808
    ·subst c;(simp[gR,f18];all_goals simp[E,J,I,D])
    ·(simp[gR,f18];all_goals simp[E,J,I,c,D])
end
section
variable {w:Vr} {v:Nat} {k:Kt} {R1:b7} {a b:AV} {B:aJ}
theorem ajg(Z:k .ret ⟨129,aD,[(2,true,.d (.bool false))],[⟨150,1,B⟩,⟨300,v,jH w⟩]⟩=R1):
 aO ctx 18 (gR [1,1,0,1,0,0,1,0,0,1]) ⟨129,aD,[(1,true,a),(3,true,b),(4,true,.ptr 300 v 0)],[⟨150,1,B⟩,⟨300,v,jH w⟩]⟩ k=
 if dQ w=true then k .normal ⟨129,aD,[(1,true,a),(3,true,b),(125,true,.d (.bool false))],[⟨150,1,B⟩,⟨300,v,jH w⟩]⟩else R1:=by
 have A1:gR [1,1,0,1,0,0,1,0,0,1]=Code.seq (gR [1,1,0,1,0,0,1,0,0,1,0]) (gR [1,1,0,1,0,0,1,0,0,1,1]):=rfl;have A2:gR [1,1,0,1,0,0,1,0,0,1,1]=Code.seq (gR [1,1,0,1,0,0,1,0,0,1,1,0]) (gR [1,1,0,1,0,0,1,0,0,1,1,1]):=rfl;have A3:gR [1,1,0,1,0,0,1,0,0,1,1,1]=Code.seq (gR [1,1,0,1,0,0,1,0,0,1,1,1,0]) (gR [1,1,0,1,0,0,1,0,0,1,1,1,1]):=rfl;have U:∀c,Cm ctx 18 c k .ret ⟨129,aD,[(2,true,.d (.bool false))],[⟨150,1,B⟩,⟨300,v,jH w⟩]⟩=R1:=λ_=>Z;rw[aje,A1,ik,aod (U _)];cases XT w
 ·rw[ajo,ach aeb,ach aeb]
 rw[acs rfl,ahl,kN,A2,ik,aoe (U _)];cases XU w
 ·rw[ajo,ach aeb,ach aeb]
 rw[acs rfl,ahl,kN,A3,ik,aof (U _)];cases XV w
 ·rw[ajo,ach aeb,ach aeb]
 rw[acs rfl,ahl,kN,aog Z]
end
theorem QZ(l:List Vr)(A4:l.length<=64)(D E:AV)(k:Kt)(R1 R2:b7)
 (I:∀v X,k .ret ⟨129,aD,[(2,true,.d (.bool false))],[⟨150,1,.box [D,.d (.list (l.map b8)),E]⟩,⟨300,v,X⟩]⟩=R1)
 (J:∀(b c:AV) v X,k (.exit 0) ⟨129,aD,[(1,true,.ptr 150 1 0),(3,true,b),(19,true,c)],[⟨150,1,.box [D,.d (.list (l.map b8)),E]⟩,⟨300,v,X⟩]⟩=R2):∀(rest pre:List Vr)(v:Nat)(X:aJ),l=pre++rest->
 aO ctx 18 (.loop (gR [1,1,0,1,0,0])) ⟨129,aD,[(1,true,.ptr 150 1 0),(3,true,.d (.int .i64 pre.length))],[⟨150,1,.box [D,.d (.list (l.map b8)),E]⟩,⟨300,v,X⟩]⟩ k=if rest.all dQ=true then R2 else R1
 |[],pre,v,X,H=>by
  have A5:pre.length=l.length:=by rw[H];simp
  rw[A5,ag];simp[gR,f18,J]
 |x::rest,pre,v,X,H=>by
  have A6:pre.length<l.length:=by rw[H];simp
  have A7:l[pre.length]=x:=by simp[H]
  have O:=λ(v:Nat) (a b:AV) (k:Kt)=>ajg (w:=x) (v:=v) (a:=a) (b:=b) (k:=k) (B:=.box [D,.d (.list (l.map b8)),E]) rfl;have ih:∀v X,aO ctx 18 (.loop (gR [1,1,0,1,0,0])) ⟨129,aD,[(1,true,.ptr 150 1 0),(3,true,.d (.int .i64 (pre.length+1)))],[⟨150,1,.box [D,.d (.list (l.map b8)),E]⟩,⟨300,v,X⟩]⟩ k=if rest.all dQ=true then R2 else R1:=λv X=>by
   have:=QZ l A4 D E k R1 R2 I J rest (pre++[x]) v X (by simp[H]);simpa using this
  have A8:IntKind.i64.wrap ((pre.length:Int)+1)=(pre.length:Int)+1:=aA (by unfold aY;omega);rw[agZ];generalize dQ x=N at*;generalize rest.all dQ=M at*;rw[ag];simp[gR,f18]at O ih⊢;simp[A6,A7,b8,fB];simp[O];cases N<;>simp[I,A8,ih]
theorem ajh{p:Pg}(O:p.body.length<100000000)(A9:nP p.body):ai ctx 18 [.d (.agg [.str p.name,.list (p.vars.map b8),.list (p.body.map dc)])] []=some (.ret (.d (.bool (nN p))),[]):=by
 have V:=fM p.name;have y:=aa8 O A9;unfold KS at y;rw[anr (by simp)];unfold nN;generalize dK p.name=N at*;generalize eP p.body=M at*;cases N with
 |false=>simp[f18,V]
 |true=>
  by_cases A':64<p.vars.length
  ·have Y:(64:Int)<p.vars.length:=by omega
   have T:¬p.vars.length<=64:=by omega
   simp[f18,V,A',Y,T]
  ·have Y:¬(64:Int)<p.vars.length:=by omega
   have T:p.vars.length<=64:=by omega
   have A0:=λD E k R1 R2 I J v X=>QZ p.vars T D E k R1 R2 I J p.vars [] v X rfl;generalize p.vars.all dQ=Q at*;simp[gR,f18]at A0;simp[f18,V,A',Y,T];rw[A0 _ _ _ (some (.ret (.d (.bool false)),[])) (some (.ret (.d (.bool M)),[]))]
   ·cases Q<;>simp
   ·intro v X;simp
   ·intro b c v X;simp[y]
def SE(l:List Ex):Prop:=∀most:Int,∃n d:Int,ai ctx 129 [.d (.list (l.map cj)),.d (.int .i64 most)] []=some (.ret (.bh [.d (.int .i64 n),.d (.int .i64 d)]),[])
theorem Q0(l:List Ex)(E:l.length<100000000)(J:∀x∈l,SE (dq x))(most:Int)(k:Kt)(Q:b7->Prop)
 (H:∀(n d:Int)(b c:AV),Q (k (.exit 0) ⟨44,aD,[(0,true,.d (.list (l.map cj))),(1,true,.d (.int .i64 most)),(6,true,.d (.int .i64 n)),(7,true,.d (.int .i64 d)),(8,true,b),(19,true,c)],[]⟩)):∀(rest pre:List Ex)(n d:Int),l=pre++rest->
 Q (aO ctx 129 (.loop (Code.at (bg f129) [1,1,0,1,0,0])) ⟨44,aD,[(0,true,.d (.list (l.map cj))),(1,true,.d (.int .i64 most)),(6,true,.d (.int .i64 n)),(7,true,.d (.int .i64 d)),(8,true,.d (.int .i64 pre.length))],[]⟩ k)
 |[],pre,n,d,D=>by
  have T:pre.length=l.length:=by rw[D];simp
  rw[T,ag];simp[f129,H]
 |x::rest,pre,n,d,D=>by
  have M:pre.length<l.length:=by rw[D];simp
  have U:l[pre.length]=x:=by simp[D]
  obtain⟨m,Y,hm⟩:=J x (by rw[D];simp) (IntKind.i64.wrap (most-n));have ih:∀n d,Q (aO ctx 129 (.loop (Code.at (bg f129) [1,1,0,1,0,0])) ⟨44,aD,[(0,true,.d (.list (l.map cj))),(1,true,.d (.int .i64 most)),(6,true,.d (.int .i64 n)),(7,true,.d (.int .i64 d)),(8,true,.d (.int .i64 (pre.length+1)))],[]⟩ k):=λn d=>by
   have:=Q0 l E J most k Q H rest (pre++[x]) n d (by simp[D]);simpa using this
  have V:IntKind.i64.wrap ((pre.length:Int)+1)=(pre.length:Int)+1:=aA (by unfold aY;omega);rw[ag];by_cases O:n<=most
  ·simp[f129]at ih⊢;simp[M,U,O,aI,hm,V,ih]
  ·simp[f129];simp[M,O,H]
theorem ajj{l:List Ex}(E:l.length<100000000)(J:∀x∈l,SE (dq x)):SE l:=by
 intro most;have h:=λk Q H=>Q0 l E J most k Q H l [] 0 0 rfl;rw[ah8 (by simp)];simp[f129]at h⊢;apply h _ (λA=>∃n d:Int,A=some (.ret (.bh [.d (.int .i64 n),.d (.int .i64 d)]),[]));intro n d b c;simp
mutual
theorem auF:∀x:Ex,zb x->SE (dq x)
 | .mk op nn name field sub line,h=>by
  simp only[zb]at h;exact ajj h.1.2.2 (Uw sub h.2)
theorem Uw:∀l:List Ex,rG l->∀x∈l,SE (dq x)
 |[],_,x,I=>by simp at I
 |y::r,h,x,I=>by
  simp only[rG]at h;rcases aco.1 I with e|I
  ·rw[e];exact auF y h.1
  ·exact Uw r h.2 x I
end
theorem XW{l:List Ex}(E:l.length<100000000)(h:rG l):SE l:=ajj E (Uw l h)
@[reducible] noncomputable def mV(p:List Nat):Code:=Code.at (bg f83) p
def SS(l:List Sm):Prop:=∀most:Int,∃n d:Int,ai ctx 83 [.d (.list (l.map dc)),.d (.int .i64 most)] []=some (.ret (.bh [.d (.int .i64 n),.d (.int .i64 d)]),[])
section
variable {x:Sm} {v:Nat} {k:Kt} {Q:b7->Prop} {a b:AV} {most:Int}
theorem ssA(D:SE [fG x,eJ x])(E:SE (cV x))(n d:Int)
 (H:∀(n d:Int)(J M O T:AV),Q (k .normal ⟨136,aD,[(0,true,a),(1,true,.d (.int .i64 most)),(6,true,.d (.int .i64 n)),(7,true,.d (.int .i64 d)),(8,true,b),(9,true,.ptr 550 v 0),(42,true,J),(43,true,M),(44,true,O),(45,true,T)],[⟨550,v,bx x⟩]⟩)):
 Q (aO ctx 83 (mV [1,1,0,1,0,0,1,0,0,1,1,0]) ⟨136,aD,[(0,true,a),(1,true,.d (.int .i64 most)),(6,true,.d (.int .i64 n)),(7,true,.d (.int .i64 d)),(8,true,b),(9,true,.ptr 550 v 0)],[⟨550,v,bx x⟩]⟩ k):=by
 unfold SE at D E;simp[aI]at D;have I:IntKind.i64.wrap 1=1:=by decide
 have U:IntKind.i64.wrap 2=2:=by decide
 have V:List.range' 0 2=[0,1]:=rfl;simp only[bx]at H;obtain⟨m,c,hm⟩:=D (IntKind.i64.wrap (most-n));simp[mV,f83,V];rw[ag];simp[hm,I];generalize IntKind.i64.wrap (n+m)=Y;obtain⟨y,d2,Z⟩:=E (IntKind.i64.wrap (most-Y));rw[ag];simp[Z,I,U];rw[ag];simp[H]
end
section
variable {x:Sm} {v:Nat} {k:Kt} {Q:b7->Prop} {a b:AV} {most:Int}
theorem ssB(n d:Int)(I J A5 A6:AV)
 (D:∀(n:Int),Q (k .normal ⟨136,aD,[(0,true,a),(1,true,.d (.int .i64 most)),(6,true,.d (.int .i64 n)),(7,true,.d (.int .i64 d)),(8,true,b),(9,true,.ptr 550 v 0)],[⟨550,v,bx x⟩]⟩)):
 Q (aO ctx 83 (mV [1,1,0,1,0,0,1,0,0,1,1,1,0]) ⟨136,aD,[(0,true,a),(1,true,.d (.int .i64 most)),(6,true,.d (.int .i64 n)),(7,true,.d (.int .i64 d)),(8,true,b),(9,true,.ptr 550 v 0),(42,true,I),(43,true,J),(44,true,A5),(45,true,A6)],[⟨550,v,bx x⟩]⟩ k):=by
 simp only[bx]at D;simp[mV,f83];apply D
theorem MP(V:(ff x).length<100000000)(d:Int)
 (D:∀(n:Int)(I J:AV),Q (k (.exit 4) ⟨136,aD,[(0,true,a),(1,true,.d (.int .i64 most)),(6,true,.d (.int .i64 n)),(7,true,.d (.int .i64 d)),(8,true,b),(9,true,.ptr 550 v 0),(14,true,I),(88,true,J)],[⟨550,v,bx x⟩]⟩)):∀(rest pre:List (List Int))(n:Int),ff x=pre++rest->
 Q (aO ctx 83 (.loop (mV [1,1,0,1,0,0,1,0,0,1,1,1,1,0,1,0,0])) ⟨136,aD,[(0,true,a),(1,true,.d (.int .i64 most)),(6,true,.d (.int .i64 n)),(7,true,.d (.int .i64 d)),(8,true,b),(9,true,.ptr 550 v 0),(14,true,.d (.int .i64 pre.length))],[⟨550,v,bx x⟩]⟩ k)
 |[],pre,n,E=>by
  have A':pre.length=(ff x).length:=by rw[E];simp
  simp only[bx]at D;rw[A',ag];simp[mV,f83,D]
 |c::rest,pre,n,E=>by
  have T:pre.length<(ff x).length:=by rw[E];simp
  have A0:(ff x)[pre.length]=c:=by simp[E]
  have ih:=λn=>MP V d D rest (pre++[c]) n (by simp[E]);have A1:IntKind.i64.wrap ((pre.length:Int)+1)=(pre.length:Int)+1:=aA (by unfold aY;omega);simp only[bx]at D;rw[ag];by_cases U:n<=most
  ·simp[mV,f83]at ih⊢;simp[T,A0,U,pt,A1];apply ih
  ·simp[mV,f83];simp[T,U,D]
theorem MQ(V:(bG x).length<100000000)(M:∀c∈bG x,SS c)
 (D:∀(n d:Int)(I J:AV),Q (k (.exit 6) ⟨136,aD,[(0,true,a),(1,true,.d (.int .i64 most)),(6,true,.d (.int .i64 n)),(7,true,.d (.int .i64 d)),(8,true,b),(9,true,.ptr 550 v 0),(15,true,I),(111,true,J)],[⟨550,v,bx x⟩]⟩)):∀(rest pre:List (List Sm))(n d:Int),bG x=pre++rest->
 Q (aO ctx 83 (.loop (mV [1,1,0,1,0,0,1,0,0,1,1,1,1,1,1,0,0])) ⟨136,aD,[(0,true,a),(1,true,.d (.int .i64 most)),(6,true,.d (.int .i64 n)),(7,true,.d (.int .i64 d)),(8,true,b),(9,true,.ptr 550 v 0),(15,true,.d (.int .i64 pre.length))],[⟨550,v,bx x⟩]⟩ k)
 |[],pre,n,d,E=>by
  have A':pre.length=(bG x).length:=by rw[E];simp
  simp only[bx]at D;rw[A',ag];simp[mV,f83,D]
 |c::rest,pre,n,d,E=>by
  have T:pre.length<(bG x).length:=by rw[E];simp
  have A0:(bG x)[pre.length]=c:=by simp[E]
  have ih:=λn d=>MQ V M D rest (pre++[c]) n d (by simp[E]);obtain⟨m,AG,hm⟩:=M c (by rw[E];simp) (IntKind.i64.wrap (most-n));have A1:IntKind.i64.wrap ((pre.length:Int)+1)=(pre.length:Int)+1:=aA (by unfold aY;omega);simp only[bx]at D;rw[ag];by_cases U:n<=most
  ·simp[mV,f83]at ih⊢;simp[T,A0,U,dR,hm,A1];apply ih
  ·simp[mV,f83];simp[T,U,D]
theorem ajk(H:zc x)(M:∀c∈bG x,SS c)(n d:Int)
 (D:∀(n d:Int)(I J:AV),Q (k .normal ⟨136,aD,[(0,true,a),(1,true,.d (.int .i64 most)),(6,true,.d (.int .i64 n)),(7,true,.d (.int .i64 d)),(8,true,b),(9,true,.ptr 550 v 0),(15,true,I),(111,true,J)],[⟨550,v,bx x⟩]⟩)):
 Q (aO ctx 83 (mV [1,1,0,1,0,0,1,0,0,1,1]) ⟨136,aD,[(0,true,a),(1,true,.d (.int .i64 most)),(6,true,.d (.int .i64 n)),(7,true,.d (.int .i64 d)),(8,true,b),(9,true,.ptr 550 v 0)],[⟨550,v,bx x⟩]⟩ k):=by
 obtain⟨A9,AA,⟨Y,AB⟩,⟨AC,AH⟩,AI,AD⟩:=H;have AE:mV [1,1,0,1,0,0,1,0,0,1,1]=Code.seq (mV [1,1,0,1,0,0,1,0,0,1,1,0]) (mV [1,1,0,1,0,0,1,0,0,1,1,1]):=rfl;have AF:mV [1,1,0,1,0,0,1,0,0,1,1,1]=Code.seq (mV [1,1,0,1,0,0,1,0,0,1,1,1,0]) (mV [1,1,0,1,0,0,1,0,0,1,1,1,1]):=rfl;rw[AE,ik];apply ssA (XW (l:=[fG x,eJ x]) (by simp) ⟨A9,AA,trivial⟩) (XW Y AB);intro n d I J A5 A6;rw[kN,AF,ik];apply ssB;intro n;rw[kN];have A7:=λk Q D=>MP (a:=a) (b:=b) (v:=v) (most:=most) (k:=k) (Q:=Q) AC d D (ff x) [] n rfl;simp[mV,f83]at A7⊢;apply A7;intro n I J;have A8:=λk Q D=>MQ (a:=a) (b:=b) (v:=v) (most:=most) (k:=k) (Q:=Q) AD M D (bG x) [] n d rfl;simp[mV,f83]at A8⊢;apply A8;intro n d I J;simp only[bx]at D;simp[D]
end
theorem Q1(l:List Sm)(A2:l.length<100000000)(A3:∀x∈l,zc x)(M:∀x∈l,∀c∈bG x,SS c)(most:Int)(k:Kt)(Q:b7->Prop)
 (O:∀(n d:Int)(b c:AV) v X,Q (k (.exit 0) ⟨136,aD,[(0,true,.d (.list (l.map dc))),(1,true,.d (.int .i64 most)),(6,true,.d (.int .i64 n)),(7,true,.d (.int .i64 d)),(8,true,b),(26,true,c)],[⟨550,v,X⟩]⟩)):∀(rest pre:List Sm)(n d:Int)(v:Nat)(X:aJ),l=pre++rest->
 Q (aO ctx 83 (.loop (mV [1,1,0,1,0,0])) ⟨136,aD,[(0,true,.d (.list (l.map dc))),(1,true,.d (.int .i64 most)),(6,true,.d (.int .i64 n)),(7,true,.d (.int .i64 d)),(8,true,.d (.int .i64 pre.length))],[⟨550,v,X⟩]⟩ k)
 |[],pre,n,d,v,X,E=>by
  have A':pre.length=l.length:=by rw[E];simp
  rw[A',ag];simp[mV,f83,O]
 |x::rest,pre,n,d,v,X,E=>by
  have T:pre.length<l.length:=by rw[E];simp
  have A0:l[pre.length]=x:=by simp[E]
  have hm:x∈l:=by rw[E];simp
  have Z:=λ(v:Nat) (a b:AV) (k:Kt) (Q:b7->Prop) (n d:Int)=>ajk (v:=v) (a:=a) (b:=b) (most:=most) (k:=k) (Q:=Q) (A3 x hm) (M x hm) n d;have ih:=λn d v X=>Q1 l A2 A3 M most k Q O rest (pre++[x]) n d v X (by simp[E]);have A1:IntKind.i64.wrap ((pre.length:Int)+1)=(pre.length:Int)+1:=aA (by unfold aY;omega);rw[ag];by_cases U:n<=most
  ·simp[mV,f83]at Z ih⊢;simp[T,A0,U,fR];apply Z;intro n d I J;simp[A1,ih]
  ·simp[mV,f83];simp[T,U,O]
theorem ajl{l:List Sm}(A2:l.length<100000000)(A3:∀x∈l,zc x)(M:∀x∈l,∀c∈bG x,SS c):SS l:=by
 intro most;have h:=λk Q O v X=>Q1 l A2 A3 M most k Q O l [] 0 0 v X rfl;rw[anW (by simp)];simp[mV,f83]at h⊢;apply h _ (λA=>∃n d:Int,A=some (.ret (.bh [.d (.int .i64 n),.d (.int .i64 d)]),[]));intro n d b c v X;simp
mutual
theorem auG:∀x:Sm,Cz x->zc x/\∀c∈bG x,SS c
 | .mk op name to val conds AJ fields blocks line,h=>by
  have h:=(adz _).1 h;exact⟨h.1,adC blocks h.2⟩
theorem KC:∀l:List Sm,nP l->∀x∈l,zc x/\∀c∈bG x,SS c
 |[],_,x,H=>by simp at H
 |y::r,h,x,H=>by
  simp only[nP]at h;have A4:=auG y h.1;have O:=KC r h.2;rcases aco.1 H with e|H
  ·rw[e];exact A4
  ·exact O x H
theorem adC:∀l:List (List Sm),p9 l->∀c∈l,SS c
 |[],_,c,Y=>by simp at Y
 |b::r,h,c,Y=>by
  simp only[p9]at h;have A4:=KC b h.1.2;have O:=adC r h.2;rcases aco.1 Y with e|Y
  ·rw[e];exact ajl h.1.1 (λx H=>(A4 x H).1) (λx H=>(A4 x H).2)
  ·exact O c Y
end
theorem ajm{l:List Sm}(A2:l.length<100000000)(h:nP l):SS l:=
 ajl A2 (λx H=>(KC l h x H).1) (λx H=>(KC l h x H).2)
theorem ajn{p:Pg}(Z:p.body.length<100000000)(V:nP p.body)(most:Int):∃n d:Int,ai ctx 43 [.d (.agg [.str p.name,.list (p.vars.map b8),.list (p.body.map dc)]),.d (.int .i64 most)] []=some (.ret (.bh [.d (.int .i64 n),.d (.int .i64 d)]),[]):=by
 obtain⟨n,d,h⟩:=ajm Z V most;rw[anA (by simp)];simp[f43,h]
theorem aeN{p:Pg}(Z:p.body.length<100000000)(V:nP p.body):∃B:Bool,ai ctx 17 [.d (.agg [.str p.name,.list (p.vars.map b8),.list (p.body.map dc)])] []=some (.ret (.d (.bool B)),[]):=by
 obtain⟨n,d,h⟩:=ajn Z V 2000;rw[anq (by simp)];simp[f17,h]
end Go.Am
end
section
namespace Go.Am
open Go Go.ChangeShapes Go.WideShapes Go.RowKit
def Dy(P:Program)(ok:TypeId->Bool):List Field->Nat->Nat->Bool
 |[],o,O=>o == O
 |f::r,o,O=>f.offset == o&&ok f.type&&Dy P ok r (o+P.cellsOf f.type) O
def typed(P:Program):Nat->TypeId->D->Prop
 |0,_,_=>False
 |n+1,t,d=>match P.underlying t with
  |some .bool=>∃b,d=.bool b
  |some (.int k)=>∃z,d=.int k z/\(Lit.int k z).wf=true
  |some .string=>∃s,d=.str s/\s.length<=maxLen
  |some (.slice e)=>∃xs,d=.list xs/\xs.length<=maxLen/\∀x∈xs,typed P n e x
  |some (.struct V)=>∃T:List D,d=.agg (T.flatMap D.cells)/\T.length=V.size/\∀(i:Nat)(f:Field)(y:D),V[i]?=some f->T[i]?=some y->typed P n f.type y
  |_=>False
def Reads(w:World)(F:Nat->Prop)(d:D)(cs:List Value):Prop:=
 d.cells.length=cs.length/\(∀u∈cs,cS u=true)/\∀(i:Nat) c u,d.cells[i]?=some c->cs[i]?=some u->aQ w F c u/\c.flat=true
theorem Reads.one{w F d v}(h:aQ w F d v)(U:d.flat=true)(I:d.cells=[d]):Reads w F d [v]:=by
 refine⟨by rw[I];rfl,λu hu=>?_,λi c u E J=>?_⟩
 ·simp at hu;subst hu;exact h.one U
 ·rw[I]at E;cases i with
  |zero=>simp at E J;subst E;subst J;exact⟨h,U⟩
  |succ i=>simp at E
def shaped(d:D)(cs:List Value):Value:=
 match d with
 | .agg _=>.agg cs.toArray
 |_=>cs.headD undef
theorem Reads.rel{w F d cs}(h:Reads w F d cs):aQ w F d (shaped d cs):=by
 obtain⟨E,J,M⟩:=h;have key:d.flat=true->d.cells=[d]->aQ w F d (cs.headD undef):=by
  intro U I;rw[I]at E M;match cs,E with
  |[u],_=>exact (M 0 d u rfl rfl).1
 cases d with
 |agg Y=>exact aQ.qi E J (λi c v I Z=>(M i c v I Z).1)
 |_=>exact key rfl rfl
theorem Reads.MR{w F d cs}(h:Reads w F d cs):(shaped d cs).cells.toList=cs:=by
 obtain⟨E,J,M⟩:=h;have key:d.cells=[d]->(cs.headD undef).cells.toList=cs:=by
  intro I;rw[I]at E;match cs,E,J with
  |[u],_,J=>simp only[List.headD];rw[eU (J u (by simp))]
 cases d with
 |agg Y=>simp[shaped,Value.cells]
 |_=>exact key rfl
theorem G6{w:World}{base:Nat}{a:Addr}{n:Nat}{cs:List Value}(h:w.cells? base a n=some cs):cs.length=n/\∀j,j<n->w.cell? (a.add j)=cs[j]?:=by
 unfold World.cells? at h;split at h
 ·exact⟨by simpa using mapM_some_length h,λj A'=>mapM_some_get h j j (by simp[A'])⟩
 ·cases h
theorem add_add{b off n j:Nat}:(Addr.add (Addr.add ⟨b,off,none⟩ n) j)=⟨b,off+n+j,none⟩:=by
 unfold Addr.add;split<;>split<;>simp_all
theorem Fa{w:World}{a:Addr}{c:Value}(h:w.cell? a=some c):a.block<w.heap.size/\a.spot=none:=by
 unfold World.cell? at h;split at h
 ·rename_i hh;refine⟨(ad5.1 hh).1,?_⟩;split at h
  ·cases h
  ·rename_i A0;simpa using A0
 ·cases h
section
variable {H:Type} {enc:TypeId×Value->H} {P:Program} {w:World} {base:Nat} {sp:Nat->Bool} {held:Bool}
end
section
variable {H:Type} {enc:TypeId×Value->H} {P:Program} {w:World} {base:Nat} {sp:Nat->Bool} {held:Bool}
theorem A7(V:laidOutB P=true){W Z:World}(E:Below W.heap.size W Z):∀{ts:List TypeId}{vs:List Value}{I:List (DataW H)}{ps:List MemPlace},DataW.TrodAll enc P W 0 (λ_=>true) true ts vs I ps->
 (∀t∈ts,P.readableRec t=true/\t<P.types.size)->(∀x∈ps,x.block<W.heap.size)->DataW.TrodAll enc P Z 0 (λb=>decide (b<W.heap.size)) true ts vs I ps
 |[],[],[],_,h,_,_=>h
 |t::ts,v::vs,d::I,ps,h,A5,AA=>by
  obtain⟨p,q,M,A',rfl⟩:=h;exact⟨p,q,Below.trod V (A5 t (by simp)).1 (A5 t (by simp)).2 M E (λx O=>AA x (by simp[O])),A7 V E A' (λt J=>A5 t (by simp[J])) (λx O=>AA x (by simp[O])),rfl⟩
 |[],_::_,_,_,h,_,_=>by cases h
 |[],[],_::_,_,h,_,_=>by cases h
 |_::_,[],_,_,h,_,_=>by cases h
 |_::_,_::_,[],_,h,_,_=>by cases h
end
section
variable {P:Program} {n:Nat} {t:TypeId} {d:D}
def Dz(P:Program)(n:Nat):List Field->List D->Prop
 |[],I=>I=[]
 |f::r,I=>∃y AB,typed P n f.type y/\Dz P n r AB/\I=y.cells++AB
theorem G7:∀{U:List Field}{Y:List D},Y.length=U.length->(∀(i:Nat)(f:Field)(y:D),U[i]?=some f->Y[i]?=some y->typed P n f.type y)->Dz P n U (Y.flatMap D.cells)
 |[],[],_,_=>rfl
 |f::U,y::Y,h,AC=>⟨y,Y.flatMap D.cells,AC 0 f y rfl rfl,G7 (by simpa using h) (λi f y M A'=>AC (i+1) f y (by simpa using M) (by simpa using A')),by simp⟩
theorem JA{k:IntKind}(J:P.underlying t=some (.int k))(h:typed P (n+1) t d):∃z,d=.int k z/\(Lit.int k z).wf=true:=by simpa only[typed,J]using h
theorem Ux(J:P.underlying t=some .bool)(h:typed P (n+1) t d):∃b,d=.bool b:=by simpa only[typed,J]using h
theorem MS(J:P.underlying t=some .string)(h:typed P (n+1) t d):∃s,d=.str s/\s.length<=maxLen:=by simpa only[typed,J]using h
theorem O4{e:TypeId}(J:P.underlying t=some (.slice e))(h:typed P (n+1) t d):∃xs,d=.list xs/\xs.length<=maxLen/\∀x∈xs,typed P n e x:=by simpa only[typed,J]using h
theorem MT{U:Array Field}(J:P.underlying t=some (.struct U))(h:typed P (n+1) t d):∃I,d=.agg I/\Dz P n U.toList I:=by
 simp only[typed,J]at h;obtain⟨Y,rfl,M,A'⟩:=h;exact⟨_,rfl,G7 (by simpa using M) (λi f y AE AF=>A' i f y (by simpa using AE) AF)⟩
end
def ajp(X:Ctx):Bool:=
 (List.range X.P.funcs.size).all (λg=>match X.P.funcs[g]? with|some fn=>fn.name != "runtime.NumGoroutine" &&(match fn.body with|some c=>fA X g fn.ntmps c|none=>true)|none=>true)&&X.P.follows .mixedOrders&&X.ov.isNone
def te(X:Ctx)(g:FuncId)(h:List AV->Option AV):Prop:=iP X.P g=true/\∀(A0:List AV)(a:AV),h A0=some a->∀(φ:cd)(F:Nat->Prop)(w:World)(vs:Array Value),fL w F X.gl->(∀b,F b->b<w.heap.size)->A0.length=vs.size->
 (∀(i:Nat) x v,A0[i]?=some x->vs[i]?=some v->aG φ w F x v)->Calls X.P g vs w λe w'=>∃v,e=.returned v/\Below w.heap.size w w'/\aG φ w' F a v
theorem te.lift{X:Ctx}{g:FuncId}{h:List D->Option D}(hh:iP X.P g=true/\∀(I:List D) (d:D),h I=some d->∀(F:Nat->Prop) (w:World) (vs:Array Value),fL w F X.gl->(∀b,F b->b<w.heap.size)->I.length=vs.size->
 (∀(i:Nat) x v,I[i]?=some x->vs[i]?=some v->aQ w F x v)->Calls X.P g vs w λe w'=>∃v,e=.returned v/\Below w.heap.size w w'/\aQ w' F d v):te X g (Df h):=by
 refine⟨hh.1,λA0 a A1 φ F w vs AG AH V A6=>?_⟩;unfold Df at A1;cases A8:toDs A0 with
 |none=>rw[A8]at A1;cases A1
 |some I=>
  rw[A8]at A1;obtain⟨d,A9,rfl⟩:=acp.1 A1;have he:=toDs_eq A8;subst he;refine (hh.2 I d A9 F w vs AG AH (by simpa using V) (λi x v O A2=>?_)).mono ?_
  ·have:=A6 i (.d x) v (by simp[O]) A2;cases this with|d _ _ h=>exact h
  ·rintro e w' ⟨v,rfl,E,A2⟩;exact⟨v,rfl,E,.d _ _ A2⟩
theorem lH.of{X:Ctx}(h:ajp X=true)(A3:∀g h,X.Ea g=some h->te X g h):lH X:=by
 simp only[ajp,Ds,acI,adP]at h;have key:∀(g:FuncId)(fn:Func),X.P.funcs[g]?=some fn->fn.name≠ "runtime.NumGoroutine" /\(match fn.body with|some c=>fA X g fn.ntmps c|none=>true)=true:=by
  intro g fn T;have M:=h.1.1 g (ad5.1 T).1;rw[T]at M;simpa using M
 refine⟨by simpa using h.2,λg fn T=>(key g fn T).1,λg fn c T E=>?_,h.1.2,A3⟩;have:=(key g fn T).2;rw[E]at this;exact this
theorem tf{α:Type}{f:α->D}:∀{xs:List D},(∀x∈xs,∃r,x=f r)->∃rs:List α,xs=rs.map f
 |[],_=>⟨[],rfl⟩
 |x::xs,h=>by
  obtain⟨r,rfl⟩:=h x (by simp);obtain⟨rs,rfl⟩:=tf (xs:=xs) (λy AI=>h y (by simp[AI]));exact⟨r::rs,rfl⟩
def fr0:Fr:=⟨λ_=>False,[]⟩
theorem XX{X:Ctx}(AJ:lH X){f:FuncId}{b:Bool}{xs:List D}(AK:ai X f (xs.map .d) []=some (.ret (.d (.bool b)),[])){W:World}{args:Array Value}(V:xs.length=args.size)
 (A6:∀(i:Nat) x v,xs[i]?=some x->args[i]?=some v->aQ W (λ_=>False) x v) (T:fL W (λ_=>False) X.gl):
 Calls X.P f args W λe Z=>e=.returned (.bool b)/\Below W.heap.size W Z:=by
 have h:=(ZW AJ f _ _ _ _ AK).2;have AD:∀b,Fo fr0 (λ_=>none) (eI 0 []) b->False:=by
  intro b E;rcases E with E|⟨e,he,_⟩
  ·exact E
  ·simp[eI]at he
 refine (h (λ_=>none) fr0 W args ⟨by simp[eI],λk L AL=>by simp at AL,λe he=>by simp[eI]at he,λe he=>by simp[eI]at he,λb ⟨e,he,_⟩=>by simp[eI]at he,λb E=>E.elim⟩
  (T.mono (λ_ _ _=>rfl) (ack _) (λb _ E=>AD b E)) (by simpa using V) (λi x v O A2=>?_)).mono ?_
 ·simp only[adD,acp]at O;obtain⟨d,A9,rfl⟩:=O;exact .d d v ((A6 i d v A9 A2).mono (λ_ _ _=>rfl) (ack _) (λb _ E=>AD b E))
 ·rintro e Z ⟨φ',m',out,⟨rfl,rfl⟩,hm,A4,A3⟩;refine⟨?_,A4.os,A4.tape,A4.output,A4.size,λk AM=>A4.Bi k AM (λ⟨e,he,_⟩=>by simp[eI]at he)⟩;cases e with
  |returned v=>
   simp only[pI]at A3;cases A3 with
   |d x v h=>cases h;rfl
  |_=>exact A3.elim
section
variable {H:Type} {enc:TypeId×Value->H}
end
def CA(P:Program)(L:List TypeId):Bool:=L.all λt=>match P.underlying t with
 |some .bool|some (.int _)|some .string=>P.cellsOf t == 1
 |some (.slice e)=>P.cellsOf t == 1&&L.contains e&&decide (1<=P.cellsOf e)
 |some (.struct D)=>Dy P (λt=>L.contains t) D.toList 0 (P.cellsOf t)
 |_=>false
theorem JB{P:Program}{L:List TypeId}{t:TypeId}(h:CA P L=true)(E:L.contains t=true):(match P.underlying t with
 |some .bool|some (.int _)|some .string=>P.cellsOf t == 1
 |some (.slice e)=>P.cellsOf t == 1&&L.contains e&&decide (1<=P.cellsOf e)
 |some (.struct D)=>Dy P (λt=>L.contains t) D.toList 0 (P.cellsOf t)
 |_=>false)=true:=acI.1 h t (by simpa using E)
section
variable {H:Type} {enc:TypeId×Value->H} {P:Program} {w:World} {base:Nat} {sp:Nat->Bool} {held:Bool}
end
section
variable {H:Type} {enc:TypeId×Value->H}
end
mutual
def eT:D->Nat
 | .str s=>s.length+1
 | .list xs=>bW xs+1
 | .agg cs=>bW cs+1
 |_=>1
def bW:List D->Nat
 |[]=>0
 |x::r=>eT x+bW r
end
mutual
def jJ{H:Type}:DataW H->Nat
 | .lit (.string bytes)=>bytes.length+1
 | .slice elems _=>ix elems+1
 | .agg parts=>ix parts+1
 |_=>1
def ix{H:Type}:List (DataW H)->Nat
 |[]=>0
 |d::r=>jJ d+ix r
end
theorem sF:∀l r:List D,bW (l++r)=bW l+bW r
 |[],r=>by simp[bW]
 |x::l,r=>by simp[bW,sF l r,adO]
theorem Uy(x:D):bW x.cells<=eT x:=by
 cases x<;>simp[D.cells,bW,eT]
theorem ajq(x:D):1<=eT x:=by cases x<;>simp[eT]
theorem oI:∀l:List D,l.length<=bW l
 |[]=>by simp
 |x::r=>by have:=oI r;have:=ajq x;simp only[bW,acq];omega
theorem MU:∀{l:List D}{x:D},x∈l->eT x<=bW l
 |y::r,x,h=>by
  rcases aco.1 h with rfl|h
  ·simp only[bW];omega
  ·have:=MU h;simp only[bW];omega
theorem Q2{H:Type}:∀(l:List D)(O:List (DataW H)),l.length=O.length->(∀(i:Nat) x d,l[i]?=some x->O[i]?=some d->eT x<=jJ d)->bW l<=ix O
 |[],[],_,_=>ack _
 |x::l,d::O,h,hi=>by
  have T:=hi 0 x d rfl rfl;have A2:=Q2 l O (by simpa using h) (λi y e V he=>hi (i+1) y e (by simpa using V) (by simpa using he));simp only[bW,ix];omega
 |[],_::_,h,_=>by simp at h
 |_::_,[],h,_=>by simp at h
theorem Ba{H:Type}{P:Program}{w:World}{F:Nat->Prop}{n:Nat}{cs:List Value}{ok:TypeId->Bool}:∀(A3:List Field)(ws:List (DataW H))(o:Nat),Dy P ok A3 o cs.length=true->ws.length=A3.length->
 (∀(i:Nat) f e,A3[i]?=some f->ws[i]?=some e->ok f.type=true->∃d,typed P n f.type d/\Reads w F d ((cs.drop f.offset).take (P.cellsOf f.type))/\d.cells.length=P.cellsOf f.type/\eT d<=jJ e)->
 ∃Z:List D,Z.length=A3.length/\(∀(i:Nat)(f:Field)(y:D),A3[i]?=some f->Z[i]?=some y->typed P n f.type y)/\o<=cs.length/\Reads w F (.agg (Z.flatMap D.cells)) (cs.drop o)/\bW (Z.flatMap D.cells)<=ix ws
 |[],[],o,E,_,_=>by
  simp only[Dy,beq_iff_eq]at E;subst E;exact⟨[],rfl,λi f y A0=>by simp at A0,ack _,⟨by simp[D.cells],by simp,λi c u T=>by simp[D.cells]at T⟩,by simp[bW,ix]⟩
 |f::r,e::ws,o,E,hw,A0=>by
  simp only[Dy,Ds,beq_iff_eq]at E;obtain⟨⟨rfl,AH⟩,AI⟩:=E;obtain⟨Z,T,A2,U,M,A4⟩:=Ba r ws _ AI (by simpa using hw) (λi AJ e' hi he=>A0 (i+1) AJ e' (by simpa using hi) (by simpa using he));obtain⟨d,A',A8,A5,AA⟩:=A0 0 f e rfl rfl AH;refine⟨d::Z,by simp[T],λi AJ y hi V=>?_,by omega,?_,?_⟩
  ·cases i with
   |zero=>simp at hi V;subst hi;subst V;exact A'
   |succ i=>simp at hi V;exact A2 i AJ y hi V
  ·have Ae:cs.drop f.offset=(cs.drop f.offset).take (P.cellsOf f.type)++cs.drop (f.offset+P.cellsOf f.type):=by
    rw[<-List.drop_drop,agA]
   obtain⟨AV,a2,a3⟩:=A8;obtain⟨Af,Ag,Ah⟩:=M;have Ai:(D.agg ((d::Z).flatMap D.cells)).cells=d.cells++(D.agg (Z.flatMap D.cells)).cells:=by simp[D.cells]
   rw[Ae];unfold Reads;rw[Ai];refine⟨by simp only[acm,AV,Af],λu hu=>?_,λi c u A6 hu=>?_⟩
   ·rcases acC.1 hu with hu|hu
    ·exact a2 u hu
    ·exact Ag u hu
   ·by_cases hi:i<d.cells.length
    ·rw[acB hi]at A6;rw[acB (by omega)]at hu;exact a3 i c u A6 hu
    ·rw[acG (by omega)]at A6;rw[acG (by omega)]at hu;rw[<-AV]at hu;exact Ah _ c u A6 hu
  ·have A6:=Uy d;simp only[List.flatMap_cons,sF,ix];omega
 |[],_::_,_,_,h,_=>by simp at h
 |_::_,[],_,_,h,_=>by simp at h
section
variable {H:Type} {enc:TypeId×Value->H} {P:Program} {w:World} {base:Nat} {sp:Nat->Bool} {held:Bool}
theorem Ay{L:List TypeId}(A1:CA P L=true):∀(m:Nat)(t:TypeId)(cs:List Value)(x:DataW H×List MemPlace),L.contains t=true->DataW.trod enc P w base sp held m t cs=some x->
 ∃d,typed P (m+1) t d/\Reads w (λ_=>False) d cs/\d.cells.length=P.cellsOf t/\eT d<=jJ x.1
 |m,t,cs,x,I,J=>by
  have I:=JB A1 I;simp only[typed];cases E:P.underlying t with
  |none=>rw[E]at I;cases I
  |some u=>
   rw[E]at I;cases u with
   |bool=>
    obtain⟨b,rfl,rfl⟩:=DataW.trod_bool E J;exact⟨.bool b,⟨b,rfl⟩,Reads.one (.bool b) rfl rfl,by simp at I;simp[D.cells,I],by simp[eT,jJ]⟩
   |int k=>
    obtain⟨z,rfl,rfl,hw⟩:=DataW.trod_int E J;exact⟨.int k z,⟨z,rfl,hw⟩,Reads.one (.int k z) rfl rfl,by simp at I;simp[D.cells,I],by simp[eT,jJ]⟩
   |string=>
    obtain⟨s,rfl,rfl,hw⟩:=DataW.trod_string E J;exact⟨.str s.data.toList,⟨_,rfl,by simpa using hw⟩,Reads.one (.str s _ rfl) rfl rfl,by simp at I;simp[D.cells,I],by simp[eT,jJ]⟩
   |slice e=>
    simp only[Ds,beq_iff_eq,acn]at I;obtain⟨⟨T,A2⟩,U⟩:=I;rcases DataW.trod_slice E J with ⟨rfl,rfl⟩|⟨a,len,cap,elems,rest,m',rfl,rfl,rfl,AK,Aj,B5,B6,AD,_⟩
    ·exact⟨.list [],⟨[],rfl,by simp,by simp⟩,Reads.one (.nil none 0 (λ_=>rfl)) rfl rfl,by simp[D.cells,T],by simp[eT,bW,jJ]⟩
    ·have A9:∀i,∃p:D×Value,i<len->typed P (m'+1) e p.1/\aQ w (λ_=>False) p.1 p.2/\p.1.size=P.cellsOf e/\a.block<w.heap.size/\a.spot=none/\
      (∀j c,p.2.cells[j]?=some c->w.cell? ⟨a.block,a.off+i*P.cellsOf e+j,none⟩=some c)/\∀q,elems[i]?=some q->eT p.1<=jJ q.1:=by
      intro i;by_cases hi:i<len
      ·have M:=AD i hi;have A4:∃y,elems[i]?=some y:=⟨elems[i]'(by omega),by simp[show i<elems.length by omega]⟩
       obtain⟨y,V⟩:=A4;rw[V]at M;simp only[agU]at M;obtain⟨AL,Ak,Al⟩:=M;obtain⟨d,A',A8,A5,AA⟩:=Ay A1 m' e AL y A2 Al;obtain⟨g1,g2⟩:=G6 Ak;have g3:a.block<w.heap.size/\a.spot=none:=by
        have AM:∃i0,i0<len/\i0=0:=⟨0,by omega,rfl⟩;have AN:=AD 0 (by omega);have An:∃y,elems[0]?=some y:=⟨elems[0]'(by omega),by simp[show 0<elems.length by omega]⟩
        obtain⟨B7,Ao⟩:=An;rw[Ao]at AN;simp only[agU]at AN;obtain⟨AO,Ap,_⟩:=AN;obtain⟨B8,Aq⟩:=G6 Ap;have AE:=Aq 0 (by omega);have AF:∃c,AO[0]?=some c:=⟨AO[0]'(by omega),by simp[show 0<AO.length by omega]⟩
        obtain⟨c,A6⟩:=AF;rw[A6]at AE;have AG:=Fa AE;simpa [Addr.add]using AG
       refine⟨⟨d,shaped d AL⟩,λ_=>⟨A',A8.rel,by rw[<-D.hU];exact A5,g3.1,g3.2,λj c AB=>?_,λq A9=>by rw[V]at A9;cases A9;exact AA⟩⟩;have AE:=A8.MR;have AF:AL[j]?=some c:=by rw[<-AE];simpa using AB
       have Ar:j<P.cellsOf e:=by
        have:=(ace.1 AF).1;omega
       have AG:=g2 j Ar;obtain⟨AW,ao,AP⟩:=a;obtain rfl:AP=none:=g3.2;rw[add_add]at AG;rw[AG];exact AF
      ·exact⟨⟨.bool false,undef⟩,λh=>absurd h hi⟩
     obtain⟨f,A0⟩:=agd A9;refine⟨.list ((List.range len).map λi=>(f i).1),⟨_,rfl,by simp;omega,λx J=>?_⟩,Reads.one ?_ rfl rfl,by simp[D.cells,T],?_⟩
     ·simp only[acF,adP]at J;obtain⟨i,hi,rfl⟩:=J;exact (A0 i hi).1
     ·by_cases A5:len=0
      ·subst A5;exact .nil (some a) cap (λh=>by cases h)
      ·have AM:=A0 0 (by omega);obtain⟨AW,ao,AP⟩:=a;obtain rfl:AP=none:=AM.2.2.2.2.1;have AC:((List.range len).map λi=>(f i).1).length=len:=by simp
       have:=aQ.list (w:=w) (F:=λ_=>False) ((List.range len).map λi=>(f i).1) AW ao cap (P.cellsOf e) (λi=>(f i).2) (by rw[AC];exact Aj) AM.2.2.2.1 (λh=>h)
        (λd A'=>by
         simp only[acF,adP]at A';obtain⟨i,hi,rfl⟩:=A';exact (A0 i hi).2.2.1)
        (λi d A'=>by
         simp only[adD,acp]at A';obtain⟨B9,As,rfl⟩:=A';have:=ace.1 As;obtain⟨AX,AY⟩:=this;simp at AX AY;subst AY;exact (A0 _ AX).2.1)
        (λi j c hi AB=>by
         rw[AC]at hi;exact (A0 i hi).2.2.2.2.2.1 j c AB)
       rw[AC]at this;exact this
     ·simp only[eT,jJ];refine Nat.succ_le_succ (Q2 _ _ (by simp;omega) λi x d J A'=>?_);simp only[adD,acp]at J A';obtain⟨j,AB,rfl⟩:=J;obtain⟨q,A9,rfl⟩:=A';obtain⟨AZ,A_⟩:=ace.1 AB;simp at AZ A_;subst A_;exact (A0 i AZ).2.2.2.2.2.2 q A9
   |struct A3=>
    obtain⟨xs,m',rfl,rfl,A5,At,AD⟩:=DataW.trod_struct E J;simp only at I;rw[<-A5]at I;obtain⟨Z,T,A2,_,M,A4⟩:=Ba (n:=m'+1) (w:=w) (F:=λ_=>False) A3.toList (xs.map (·.1)) 0 I (by simpa using At) (λi f e hi he AH=>by
     simp only[adD,acp]at he;obtain⟨y,V,rfl⟩:=he;have A4:=AD i f (by simpa using hi);rw[V]at A4;exact Ay A1 m' f.type _ y AH A4)
    refine⟨.agg (Z.flatMap D.cells),⟨Z,rfl,by simpa using T,λi f y hi V=>A2 i f y (by simpa using hi) V⟩,by simpa using M,?_,?_⟩
    ·have:=M.1;rw[this];simpa using A5
    ·simp only[eT,jJ];omega
   |_=>cases I
theorem aa9{L:List TypeId}(A1:CA P L=true){t:TypeId}{v:Value}{d:DataW H}{ps:List MemPlace}{b0:Nat}(I:L.contains t=true)(Y:Value.okWide P w .any b0 t v)(h:DataW.Trod enc P w base sp held t v d ps):
 ∃n x,typed P n t x/\aQ w (λ_=>False) x v/\eT x<=jJ d:=by
 obtain⟨m,hm⟩:=h;obtain⟨x,J,A8,_,AA⟩:=Ay A1 m t _ _ I hm;refine⟨m+1,x,J,?_,AA⟩;have T:=A8.rel
 ·have I:=JB A1 I;simp only[typed]at J;cases E:P.underlying t with
  |none=>rw[E]at I;cases I
  |some u=>
   rw[E]at I J;cases u with
   |bool=>obtain⟨b,rfl⟩:=okWide_bool E Y;obtain⟨y,rfl⟩:=J;exact T
   |int k=>obtain⟨b,rfl⟩:=okWide_int E Y;obtain⟨y,rfl,_⟩:=J;exact T
   |string=>obtain⟨b,rfl⟩:=okWide_string E Y;obtain⟨y,rfl,_⟩:=J;exact T
   |slice e=>obtain⟨a,len,cap,rfl⟩:=okWide_slice E Y;obtain⟨y,rfl,_⟩:=J;exact T
   |struct A3=>
    simp only[Value.okWide,E]at Y;obtain⟨cs,rfl,_⟩:=Y;obtain⟨Z,rfl,_⟩:=J;simpa [shaped,Value.cells]using T
   |_=>cases I
theorem JC{L:List TypeId}(A1:CA P L=true){b0:Nat}:∀{ts:List TypeId}{vs:List Value}{O:List (DataW H)}{ps:List MemPlace},DataW.TrodAll enc P w base sp held ts vs O ps->(∀t∈ts,L.contains t=true)->
 (∀(j:Nat) t v,ts[j]?=some t->vs[j]?=some v->Value.okWide P w .any b0 t v)->
 ∃xs:List D,xs.length=vs.length/\xs.length=ts.length/\(∀(i:Nat) t x,ts[i]?=some t->xs[i]?=some x->∃n,typed P n t x)/\(∀(i:Nat) x v,xs[i]?=some x->vs[i]?=some v->aQ w (λ_=>False) x v)/\bW xs<=ix O
 |[],[],[],_,_,_,_=>⟨[],rfl,rfl,λi t x h=>by simp at h,λi x v h=>by simp at h,by simp[bW,ix]⟩
 |t::ts,v::vs,d::O,ps,h,I,Y=>by
  obtain⟨p,q,T,A2,_⟩:=h;obtain⟨n,x,J,AI,AA⟩:=aa9 A1 (I t (by simp)) (Y 0 t v rfl rfl) T;obtain⟨xs,g1,g2,g3,g4,g5⟩:=JC A1 A2 (λt E=>I t (by simp[E])) (λj t v U M=>Y (j+1) t v (by simpa using U) (by simpa using M));refine⟨x::xs,by simp[g1],by simp[g2],λi Au AQ U M=>?_,λi AQ Av U M=>?_,by simp only[bW,ix];omega⟩
  ·cases i with
   |zero=>simp at U M;subst U;subst M;exact⟨n,J⟩
   |succ i=>simp at U M;exact g3 i Au AQ U M
  ·cases i with
   |zero=>simp at U M;subst U;subst M;exact AI
   |succ i=>simp at U M;exact g4 i AQ Av U M
 |[],_::_,_,_,h,_,_=>by cases h
 |[],[],_::_,_,h,_,_=>by cases h
 |_::_,[],_,_,h,_,_=>by cases h
 |_::_,_::_,[],_,h,_,_=>by cases h
end
section
variable {H:Type} {enc:TypeId×Value->H}
theorem Kk{X:Ctx}(Aw:lH X){f:FuncId}{fn:Func}{s:ChangeSpec}{apart fresh handsOn:Bool}{L:List TypeId}{tb:TypeId}(A1:CA X.P L=true)
 (Ax:laidOutB X.P=true) (AR:(fn.params.toList.all λt=>X.P.readableRec t&&decide (t<X.P.types.size)&&L.contains t)=true)
 (Az:fn.resultTypes=#[tb]) (B':X.P.underlying tb=some .bool) (Aa:s.vars=[])
 (B0:∀O:List (DataW H),O.length=fn.params.size->s.fn H O={results:=[.lit (.bool true)],args:=O})
 {W:World} {base:Nat} {args:Array Value} {O gs:List (DataW H)} {before:List MemPlace}
 (B1:∀(j:Nat) t v,fn.params[j]?=some t->args[j]?=some v->Value.okWide X.P W .any base t v)
 (Ab:DataW.Whole enc X.P fn.params.toList s.vars apart W args.toList O gs before) (B2:fL W (λ_=>False) X.gl)
 (B3:∀xs:List D,xs.length=fn.params.size->(∀(i:Nat) t x,fn.params[i]?=some t->xs[i]?=some x->∃n,typed X.P n t x)->bW xs<=ix O->ai X f (xs.map .d) []=some (.ret (.d (.bool true)),[])):
 Calls X.P f args W λe Ac=>∃v,e=.returned v/\s.post enc X.P fn apart fresh handsOn false W args v Ac:=by
 have Ad:=Ab;obtain⟨p,q,AS,AT,rfl,BA,BB⟩:=Ab;rw[Aa]at AT;obtain⟨rfl,rfl⟩:gs=[]/\q=[]:=by
  cases gs with
  |nil=>exact⟨rfl,AT⟩
  |cons g r=>exact absurd AT (by intro h;cases h)
 simp only[acI,Ds,acn]at AR;obtain⟨xs,T,A2,U,M,A4⟩:=JC A1 (b0:=base) AS (λt E=>(AR t E).2) (λj t v E Y=>B1 j t v (by simpa using E) (by simpa using Y));have AC:=trodAll_length AS;refine (XX Aw (B3 xs (by simpa using A2) (λi t x E J=>U i t x (by simpa using E) J) A4) (by simpa using T) (λi x v J Y=>M i x v J (by simpa using Y)) B2).mono ?_;rintro e Ac ⟨rfl,AK⟩;have B4:∀x∈p,x.block<W.heap.size:=λx J=>by simpa using Ad.lt x (by simpa using J)
 have AU:s.fn H (O++[])={results:=[.lit (.bool true)],args:=O}:=by
  rw[ad9];exact B0 O (by simpa using AC.2)
 refine⟨_,rfl,O,[],p++[],[],p,[],Ad,?_,?_,?_,AK.frame _,λh=>by cases h⟩
 ·rw[AU,Az];exact trodAll_mk1 (shut_bool B' true)
 ·rw[AU];exact A7 Ax AK AS (λt E=>(AR t E).1) B4
 ·rw[AU,Aa];rfl
end
end Go.Am
end
section
namespace Go.Am
open Go
theorem MW(l:List Ex):(il l).length=l.length:=by rw[vq];simp
theorem ze(x:Ex):eT (cj x)=bW (yY x)+1:=by rw[KA];rfl
mutual
theorem MX:∀x:Ex,eT (cj x)<100000000->zb x
 | .mk op n name field sub line,h=>by
  simp only[cj,eT,bW]at h;have E:=oI (il sub);rw[MW]at E;simp only[zb];exact⟨⟨by omega,by omega,by omega⟩,Im sub (by omega)⟩
theorem Im:∀l:List Ex,bW (il l)<100000000->rG l
 |[],_=>by simp only[rG]
 |x::r,h=>by
  simp only[il,bW]at h;simp only[rG];exact⟨MX x (by omega),Im r (by omega)⟩
end
theorem Az{α:Type}(f:α->D)(l:List α):l.length<=bW (l.map f):=by
 have:=oI (l.map f);simpa using this
theorem adF(l:List Int):l.length<=eT (pt l):=by
 have:=Az (λn=>D.int .i64 n) l;simp only[pt,eT];omega
theorem aba(l:List (List Sm)):(nL l).length=l.length:=by rw[Du];simp
theorem Fb(l:List Sm):(nM l).length=l.length:=by rw[yZ];simp
mutual
theorem ajt:∀x:Sm,eT (dc x)<100000000->Cz x/\QY x<=eT (dc x)
 | .mk op name to val conds J fields blocks line,h=>by
  simp only[dc,eT,bW,sF]at h⊢;have U:=ze to;have V:=ze val;have E:=oI (il conds);rw[MW]at E;have Y:=Az pt J;have Z:=Az D.str fields;have M:=oI (nL blocks);rw[aba]at M;have O:=Q3 blocks (by omega);simp only[Cz,QY];refine⟨⟨⟨MX to (by omega),MX val (by omega),⟨by omega,Im conds (by omega)⟩,⟨by omega,λl T=>?_⟩,by omega,by omega⟩,O.1⟩,by omega⟩;have c:=MU (adL (f:=pt) T);have y:=adF l;omega
theorem Io:∀l:List Sm,bW (nM l)<100000000->nP l/\uA l<=bW (nM l)
 |[],_=>by simp only[nP,uA];exact⟨trivial,apk _⟩
 |x::r,h=>by
  simp only[nM,bW]at h⊢;have H:=ajt x (by omega);have E:=Io r (by omega);simp only[nP,uA];exact⟨⟨H.1,E.1⟩,by omega⟩
theorem Q3:∀l:List (List Sm),bW (nL l)<100000000->p9 l/\yy l<=bW (nL l)
 |[],_=>by simp only[p9,yy];exact⟨trivial,apk _⟩
 |b::r,h=>by
  simp only[nL,bW,eT]at h⊢;have I:=oI (nM b);rw[Fb]at I;have H:=Io b (by omega);have E:=Q3 r (by omega);simp only[p9,yy];exact⟨⟨⟨by omega,H.1⟩,E.1⟩,by omega⟩
end
theorem MY{p:Pg}(h:eT (.agg [.str p.name,.list (p.vars.map b8),.list (p.body.map dc)])<50000000):p.body.length<100000000/\nP p.body/\uA p.body<50000000:=by
 simp only[eT,bW]at h;rw[<-yZ]at h;have I:=oI (nM p.body);rw[Fb]at I;have H:=Io p.body (by omega);exact⟨by omega,H.1,by omega⟩
mutual
def eQ:Ex->Bool
 | .mk _ n _ _ sub _=>decide (-9223372036854775808<=n/\n<=9223372036854775807)&&dD sub
def dD:List Ex->Bool
 |[]=>true
 |x::r=>eQ x&&dD r
end
def wA(n:Int):Bool:=decide (-9223372036854775808<=n/\n<=9223372036854775807)
mutual
def pA:Sm->Bool
 | .mk _ _ to val conds D _ blocks _=>eQ to&&(eQ val&&(dD conds&&(D.all (λl=>l.all wA)&&ic blocks)))
def iT:List Sm->Bool
 |[]=>true
 |x::r=>pA x&&iT r
def ic:List (List Sm)->Bool
 |[]=>true
 |b::r=>iT b&&ic r
end
end Go.Am
end
section
namespace Go.Am
open Go Go.Proofs
variable [Inhabited b9]
set_option maxRecDepth 20000
theorem qD{P:Program}{n:Nat}{t:TypeId}{d:D}(h:typed P n t d):∃m,n=m+1:=by
 cases n with
 |zero=>exact h.elim
 |succ m=>exact⟨m,rfl⟩
theorem nx{P:Program}{n:Nat}{t:TypeId}{d:D}(J:P.underlying t=some (.int .i64))(h:typed P n t d):∃z,d=.int .i64 z/\wA z=true:=by
 obtain⟨m,rfl⟩:=qD h;obtain⟨z,rfl,hw⟩:=JA J h;refine⟨z,rfl,?_⟩;have I:aY z:=by
  simp[Lit.wf]at hw;unfold aY;have A9:IntKind.i64.min= -9223372036854775808:=by decide
  have AA:IntKind.i64.max=9223372036854775807:=by decide
  simp only[A9,AA]at hw;omega
 unfold aY at I;unfold wA;simp only[acn];exact I
theorem aeO{P:Program}{n:Nat}{t:TypeId}{d:D}(J:P.underlying t=some .bool)(h:typed P n t d):∃b,d=.bool b:=by
 obtain⟨m,rfl⟩:=qD h;exact Ux J h
theorem qE{P:Program}{n:Nat}{t:TypeId}{d:D}(J:P.underlying t=some .string)(h:typed P n t d):∃s,d=.str s:=by
 obtain⟨m,rfl⟩:=qD h;obtain⟨s,rfl,_⟩:=MS J h;exact⟨s,rfl⟩
theorem lY{P:Program}{n:Nat}{t e:TypeId}{d:D}(J:P.underlying t=some (.slice e))(h:typed P n t d):∃xs m,m<n/\d=.list xs/\∀x∈xs,typed P m e x:=by
 obtain⟨m,rfl⟩:=qD h;obtain⟨xs,rfl,_,E⟩:=O4 J h;exact⟨xs,m,by omega,rfl,E⟩
theorem xG{P:Program}{n:Nat}{t:TypeId}{d:D}{A4:Array Field}(J:P.underlying t=some (.struct A4))(h:typed P n t d):∃M m,m<n/\d=.agg M/\Dz P m A4.toList M:=by
 obtain⟨m,rfl⟩:=qD h;obtain⟨M,rfl,AB⟩:=MT J h;exact⟨M,m,by omega,rfl,AB⟩
theorem jO{α:Type}{f:α->D}{Q:α->Prop}:∀{xs:List D},(∀x∈xs,∃r,x=f r/\Q r)->∃rs:List α,xs=rs.map f/\∀r∈rs,Q r
 |[],_=>⟨[],rfl,λr h=>by cases h⟩
 |x::xs,h=>by
  obtain⟨r,rfl,AC⟩:=h x (by simp);obtain⟨rs,rfl,AD⟩:=jO (xs:=xs) (λy H=>h y (by simp[H]));exact⟨r::rs,rfl,λy H=>by
   rcases aco.1 H with rfl|H
   ·exact AC
   ·exact AD y H⟩
theorem Fc:∀{l:List Ex},(∀x∈l,eQ x=true)->dD l=true
 |[],_=>by simp[dD]
 |x::r,h=>by simp only[dD,Ds];exact⟨h x (by simp),Fc λy H=>h y (by simp[H])⟩
theorem Fe:∀{l:List Sm},(∀x∈l,pA x=true)->iT l=true
 |[],_=>by simp[iT]
 |x::r,h=>by simp only[iT,Ds];exact⟨h x (by simp),Fe λy H=>h y (by simp[H])⟩
theorem MZ:∀{l:List (List Sm)},(∀x∈l,iT x=true)->ic l=true
 |[],_=>by simp[ic]
 |x::r,h=>by simp only[ic,Ds];exact⟨h x (by simp),MZ λy H=>h y (by simp[H])⟩
theorem Ff:∀(n:Nat)(x:D),typed Tryz.prog n 136 x->∃e:Ex,x=cj e/\eQ e=true:=by
 intro n;induction n using Nat.strongRecOn with
 |ind n ih=>
 intro x h;obtain⟨M,m,hm,rfl,A',d0,O,⟨A0,d1,T,⟨A1,d2,I,⟨A5,d3,U,⟨A6,d4,V,⟨A7,d5,Y,rfl,rfl⟩,rfl⟩,rfl⟩,rfl⟩,rfl⟩,rfl⟩:=xG Tryz.underlying136 h;obtain⟨op,rfl,_⟩:=nx Tryz.underlying3 O;obtain⟨k,rfl,AE⟩:=nx Tryz.underlying2 T;obtain⟨name,rfl⟩:=qE Tryz.underlying9 I;obtain⟨field,rfl⟩:=qE Tryz.underlying9 U;obtain⟨xs,q,A8,rfl,Z⟩:=lY Tryz.underlying134 V;obtain⟨line,rfl,_⟩:=nx Tryz.underlying3 Y;obtain⟨l,rfl,c⟩:=jO (f:=cj) (Q:=λe=>eQ e=true) (λx E=>ih q (by omega) x (Z x E));exact⟨.mk op k name field l line,by rw[KA];simp[yY,vq,D.cells],by
  simp only[eQ,Ds];exact⟨AE,Fc c⟩⟩
theorem Uz{n:Nat}{x:D}(h:typed Tryz.prog n 45 x):∃l:List Int,x=pt l/\l.all wA=true:=by
 obtain⟨xs,q,A8,rfl,Z⟩:=lY Tryz.underlying45 h;obtain⟨l,rfl,c⟩:=jO (f:=λn=>D.int .i64 n) (Q:=λe=>wA e=true) (λx E=>nx Tryz.underlying2 (Z x E));exact⟨l,rfl,acI.2 c⟩
theorem abb:∀(n:Nat)(x:D),typed Tryz.prog n 141 x->∃e:Sm,x=dc e/\pA e=true:=by
 intro n;induction n using Nat.strongRecOn with
 |ind n ih=>
 intro x h;obtain⟨M,m,hm,rfl,A',d0,O,⟨A0,d1,T,⟨A1,d2,I,⟨A5,d3,U,⟨A6,d4,V,⟨A7,d5,Y,⟨AF,d6,A2,⟨AG,d7,A3,⟨AV,d8,AH,rfl,rfl⟩,rfl⟩,rfl⟩,rfl⟩,rfl⟩,rfl⟩,rfl⟩,rfl⟩,rfl⟩:=xG Tryz.underlying141 h;obtain⟨op,rfl,_⟩:=nx Tryz.underlying3 O;obtain⟨name,rfl⟩:=qE Tryz.underlying9 T;obtain⟨to,rfl,AI⟩:=Ff _ _ I;obtain⟨val,rfl,AJ⟩:=Ff _ _ U;obtain⟨AW,AX,AY,rfl,AK⟩:=lY Tryz.underlying134 V;obtain⟨AZ,A_,Aa,rfl,AL⟩:=lY Tryz.underlying137 Y;obtain⟨Ab,Ac,Ad,rfl,AM⟩:=lY Tryz.underlying138 A2;obtain⟨Ae,Af,Ag,rfl,AN⟩:=lY Tryz.underlying139 A3;obtain⟨line,rfl,_⟩:=nx Tryz.underlying3 AH;obtain⟨conds,rfl,AO⟩:=jO (f:=cj) (Q:=λe=>eQ e=true) (λx E=>Ff _ _ (AK x E));obtain⟨AP,rfl,AQ⟩:=jO (f:=pt) (Q:=λl=>l.all wA=true) (λx E=>Uz (AL x E));obtain⟨fields,rfl⟩:=tf (f:=D.str) (λx E=>qE Tryz.underlying9 (AM x E));obtain⟨blocks,rfl,AR⟩:=jO (f:=λb:List Sm=>D.list (b.map dc)) (Q:=λb=>iT b=true) (λx E=>by
  obtain⟨xs,q,A8,rfl,Z⟩:=lY Tryz.underlying23 (AN x E);obtain⟨l,rfl,c⟩:=jO (f:=dc) (Q:=λe=>pA e=true) (λx E=>ih q (by omega) x (Z x E));exact⟨l,rfl,Fe c⟩)
 refine⟨.mk op name to val conds AP fields blocks line,?_,?_⟩
 ·simp[dc,vq,Du,D.cells,KA]
 ·simp only[pA,Ds];exact⟨AI,AJ,Fc AO,acI.2 AQ,MZ AR⟩
theorem abc{n:Nat}{x:D}(h:typed Tryz.prog n 71 x):∃v:Vr,x=b8 v:=by
 obtain⟨M,m,hm,rfl,A',d0,O,⟨A0,d1,T,⟨A1,d2,I,⟨A5,d3,U,⟨A6,d4,V,⟨A7,d5,Y,⟨AF,d6,A2,⟨AG,d7,A3,rfl,rfl⟩,rfl⟩,rfl⟩,rfl⟩,rfl⟩,rfl⟩,rfl⟩,rfl⟩:=xG Tryz.underlying71 h;obtain⟨name,rfl⟩:=qE Tryz.underlying9 O;obtain⟨ty,rfl,_⟩:=nx Tryz.underlying3 T;obtain⟨sec,rfl,_⟩:=nx Tryz.underlying3 I;obtain⟨arr,rfl⟩:=aeO Tryz.underlying4 U;obtain⟨lo,rfl,_⟩:=nx Tryz.underlying2 V;obtain⟨hi,rfl,_⟩:=nx Tryz.underlying2 Y;obtain⟨init,rfl,_⟩:=nx Tryz.underlying2 A2;obtain⟨line,rfl,_⟩:=nx Tryz.underlying3 A3;exact⟨⟨name,ty,sec,arr,lo,hi,init,line⟩,rfl⟩
theorem abd{n:Nat}{x:D}(h:typed Tryz.prog n 25 x):∃p:Pg,x=.agg [.str p.name,.list (p.vars.map b8),.list (p.body.map dc)]/\iT p.body=true:=by
 obtain⟨M,m,hm,rfl,A',d0,O,⟨A0,d1,T,⟨A1,d2,I,rfl,rfl⟩,rfl⟩,rfl⟩:=xG Tryz.underlying25 h;obtain⟨name,rfl⟩:=qE Tryz.underlying9 O;obtain⟨Ah,q1,Ai,rfl,AS⟩:=lY Tryz.underlying22 T;obtain⟨Aj,q2,Ak,rfl,AT⟩:=lY Tryz.underlying23 I;obtain⟨vars,rfl⟩:=tf (f:=b8) (λx E=>abc (AS x E));obtain⟨body,rfl,AU⟩:=jO (f:=dc) (Q:=λe=>pA e=true) (λx E=>abb _ _ (AT x E));exact⟨⟨name,vars,body⟩,rfl,Fe AU⟩
end Go.Am
end
section
namespace Go.Am
abbrev uc:=BitVec 16
def adG(b:Bool):uc:=if b then 4129#16 else 0#16
def UA(s:uc):uc:=(s <<< 1) ^^^ adG (s.getLsbD 15)
def CC:Nat->uc->uc
 |0,s=>s
 |n+1,s=>CC n (UA s)
def M0(x:UInt8):uc:=BitVec.ofNat 16 (x.toNat*256)
def abe(s:uc)(x:UInt8):uc:=CC 8 (s ^^^ M0 x)
def oJ(s:uc)(l:List UInt8):uc:=l.foldl abe s
end Go.Am
end
section
namespace Go.Am
open Go Go.Proofs Go.Proofs.Tryz
variable [Inhabited b9]
set_option maxRecDepth 20000
@[simp] def eh(c:UInt8):D:=.int .u8 c.toNat
theorem XY(s:uc):IntKind.u16.wrap (s.toNat:Int)=s.toNat:=by
 have:=s.isLt;simp[IntKind.wrap,IntKind.bits,IntKind.signed];omega
theorem JD(n:Nat):IntKind.u16.wrap (n:Int)=((BitVec.ofNat 16 n).toNat:Int):=by
 simp[IntKind.wrap,IntKind.bits,IntKind.signed]
theorem aok(s:uc):((s.toNat:Int).fdiv 32768)=((s.getLsbD 15).toNat:Int):=by
 have AA:=s.isLt;have e:s.getLsbD 15=decide (32768<=s.toNat):=by
  rw[BitVec.getLsbD,Nat.testBit_eq_decide_div_mod_eq];by_cases h:32768<=s.toNat
  ·simp[h];omega
  ·simp[h];omega
 rw[e,Int.fdiv_eq_ediv_of_nonneg _ (by omega)];by_cases h:32768<=s.toNat
 ·simp[h];omega
 ·simp[h];omega
theorem G8(H J M:AV)(k:Kt)(R:b7):∀(d i:Nat)(s:uc)(X:Env),i+d=8->
 (k (.exit 2) ⟨31,aD,[(0,true,.d (.int .u16 (CC d s).toNat)),(8,true,H),(9,true,J),(10,true,M),(19,true,.d (.int .i64 8)),(20,true,.d (.bool false))],[]⟩=R)->
 aO ctx 99 (.loop (Code.at (bg f99) [1,0,1,0,0,1,1,0,0,1,1,1,0,0]))
  ⟨31,aD,[(0,true,.d (.int .u16 s.toNat)),(8,true,H),(9,true,J),(10,true,M),(19,true,.d (.int .i64 i))],[]⟩ k=R
 |0,i,s,X,hi,E=>by
  have hi:i=8:=by omega
  subst hi;simp only[CC]at E;rw[ag];simp[f99,E]
 |d+1,i,s,X,hi,E=>by
  have ih:=G8 H J M k R d (i+1) (UA s) [] (by omega) E;have T:(i:Int)<8:=by omega
  have A2:i<8:=by omega
  have A3:IntKind.i64.wrap ((i:Int)+1)=(i:Int)+1:=aA (by unfold aY;omega);have A4:=aok s;have V:IntKind.u16.wrap ((s.toNat:Int)*2)=((s <<< 1).toNat:Int):=by
   have:=JD (s.toNat*2);simp only[Int.natCast_mul]at this;rw[show ((2:Nat):Int)=2 from rfl]at this;rw[this,BitVec.toNat_shiftLeft,Nat.shiftLeft_eq];simp
  have Y:IntKind.u16.wrap (((s.getLsbD 15).toNat:Int)*4129)=((adG (s.getLsbD 15)).toNat:Int):=by cases s.getLsbD 15<;>rfl
  have U:∀t:uc,((t.toNat:Int)%65536).toNat=t.toNat:=λt=>by have:=t.isLt;omega
  have Z:IntKind.u16.wrap (((IntKind.u16.wrap ((s.toNat:Int)*2)%65536).toNat ^^^ (IntKind.u16.wrap (((s.toNat:Int).fdiv 32768)*4129)%65536).toNat:Nat):Int)=((UA s).toNat:Int):=by
   rw[A4,V,Y,U,U,<-BitVec.toNat_xor];exact XY _
  have y:IntKind.bits .u16=16:=rfl;simp[f99]at ih;rw[ag];simp[f99];simp[T,A2,A3,y,Z,ih]
theorem Na(l:List UInt8)(O:l.length<=1000000)(H:AV)(A':H=.d (.list (l.map eh)))(k:Kt)(R:b7):∀(rest:List UInt8)(j:Nat)(s:uc),l.drop j=rest->j+rest.length=l.length->
 (k (.exit 0) ⟨31,aD,[(0,true,.d (.int .u16 (oJ s rest).toNat)),(8,true,H),(9,true,.d (.int .i64 l.length)),(10,true,.d (.int .i64 l.length)),(11,true,.d (.bool false))],[]⟩=R)->
 aO ctx 99 (.loop (Code.at (bg f99) [1,0,1,0,0]))
  ⟨31,aD,[(0,true,.d (.int .u16 s.toNat)),(8,true,H),(9,true,.d (.int .i64 l.length)),(10,true,.d (.int .i64 j))],[]⟩ k=R
 |[],j,s,A0,I,E=>by
  have I:j=l.length:=by simpa using I
  subst I;subst A';simp[oJ]at E;rw[ag];simp[f99,E]
 |x::rest,j,s,A0,I,E=>by
  have T:j<l.length:=by simp at I;omega
  have A5:(j:Int)<l.length:=by omega
  have A6:l[j]=x:=by
   have:=aga (·[0]?) A0;simp at this;simpa [T]using this
  have ih:=Na l O H A' k R rest (j+1) (abe s x) (by rw[<-akq,A0];rfl) (by simp at I;omega) E;have A7:IntKind.i64.wrap ((j:Int)+1)=(j:Int)+1:=aA (by unfold aY;omega);have A1:=λH J M k R E=>G8 H J M k R 8 0 (s ^^^ M0 x) [] rfl E;have AB:=x.toNat_lt;have U:∀t:uc,((t.toNat:Int)%65536).toNat=t.toNat:=λt=>by have:=t.isLt;omega
  have V:IntKind.u16.wrap ((x.toNat:Int))=(x.toNat:Int):=by simp[IntKind.wrap,IntKind.bits,IntKind.signed];omega
  have Y:IntKind.u16.wrap ((x.toNat:Int)*256)=((M0 x).toNat:Int):=by
   have:=JD (x.toNat*256);simp only[Int.natCast_mul]at this;exact this
  have A8:s.toNat%65536=s.toNat:=Nat.mod_eq_of_lt s.isLt;have Z:IntKind.u16.wrap ((s.toNat ^^^ (IntKind.u16.wrap (((x.toNat:Int))*256)%65536).toNat:Nat):Int)=((s ^^^ M0 x).toNat:Int):=by
   rw[Y,U,<-BitVec.toNat_xor];exact XY _
  have y:IntKind.bits .u16=16:=rfl;subst A';simp[f99]at ih A1;rw[ag];simp[f99];have A9:CC 8 (s ^^^ M0 x)=abe s x:=rfl;simp[T,A5,A6,A7,y,V,A8,Z,A1,A9,ih]
theorem X0(l:List UInt8)(O:l.length<=1000000)(s:uc):ai ctx 99 [.d (.int .u16 s.toNat),.d (.list (l.map eh))] []=some (.ret (.d (.int .u16 (oJ s l).toNat)),[]):=by
 have h:=λk R E=>Na l O _ rfl k R l 0 s rfl (by simp) E;rw[an9 (by simp)];simp[f99]at h⊢;rw[h];simp
theorem JE(l:List UInt8)(O:l.length<=1000000):ai ctx 65 [.d (.list (l.map eh))] []=some (.ret (.d (.int .u16 (oJ 65535#16 l).toNat)),[]):=by
 have h:=X0 l O 65535#16;rw[anT (by simp)];simp at h;simp[f65,h]
@[simp] def cA(x:ak):D:=.agg [.int .i64 x.op,.int .i64 x.a,.int .i64 x.b,.int .i64 x.n,.int .i64 x.m]
@[simp] def fJ(ins:List ak)(vars cells:Int)(x y:AV):aJ:=.box [.d (.list (ins.map cA)),.d (.int .i64 vars),.d (.int .i64 cells),x,y]
@[simp] def bD(l:List Bool):List D:=l.map .bool
section
variable (ins:List ak) (vars cells:Int) (s1 A' J s2 A0 M:Nat) (S T:List D)
theorem AA(at_ n:Int)(U:0<=cells/\cells<=8192)(A1:aY n):
 ai ctx 144 [.ptr 0 0 0,.d (.int .i64 at_),.d (.int .i64 n)] [fJ ins vars cells (.vec 1 0 0 J) (.vec 2 0 0 M),.vec 1 S,.vec 1 T]=
  some (.ret (.d (.bool (fQ cells at_ n))),[(0,fJ ins vars cells (.vec 1 0 0 J) (.vec 2 0 0 M)),(0,.vec 1 S),(0,.vec 1 T)]):=by
 rw[aii (by simp)];unfold fQ;by_cases E:0<=at_<;>by_cases H:0<=n<;>by_cases I:n<=cells<;>simp[f144,E,H,I];rw[aA (by unfold aY;omega)]
theorem X1(x:ak)(U:0<=cells/\cells<=8192):
 ai ctx 145 [.ptr 0 0 0,.d (cA x)] [fJ ins vars cells (.vec 1 0 0 J) (.vec 2 0 0 M),.vec 1 S,.vec 1 T]=
  some (.ret (.d (.bool (Ct cells x))),[(0,fJ ins vars cells (.vec 1 0 0 J) (.vec 2 0 0 M)),(0,.vec 1 S),(0,.vec 1 T)]):=by
 rw[aij (by simp)];unfold Ct;by_cases E:0<=x.n
 ·by_cases H:x.n<=x.m
  ·by_cases I:x.m<=255
   ·have h:=AA ins vars cells J M S T x.a (x.m-x.n+1) U (by unfold aY;omega);have Y:IntKind.i64.wrap (x.m-x.n)=x.m-x.n:=aA (by unfold aY;omega);have Z:IntKind.i64.wrap (x.m-x.n+1)=x.m-x.n+1:=aA (by unfold aY;omega);simp at h;simp[f145,E,H,I,Y,Z,h]
   ·simp[f145,E,H,I]
  ·simp[f145,E,H]
 ·simp[f145,E]
theorem abf(x:ak):ai ctx 146 [.d (cA x)] []=some (.ret (.d (.bool (s9 x))),[]):=by
 rw[aik (by simp)];unfold s9;by_cases O:x.a=0
 ·by_cases E:x.b=6
  ·simp[f146,O,E]
  ·by_cases H:8<=x.b<;>simp[f146,O,E,H]
 ·by_cases E:x.a=1
  ·by_cases H:x.b=7
   ·simp[f146,E,H]
   ·by_cases I:x.b=13
    ·simp[f146,E,I]
    ·by_cases V:x.b=14
     ·simp[f146,E,V]
     ·by_cases c:19<=x.b<;>simp[f146,E,H,I,V,c]
  ·simp[f146,O,E]
end
def CD(f:Nat)(H:Int->Nat):Prop:=∀b:Int,∃l:List D,ai ctx f [.d (.int .i64 b)] []=some (.ret (.d (.list l)),[])/\l.length=H b/\H b<=100
set_option maxHeartbeats 2000000 in
theorem abg(H:Int->Nat)(AG:CD 75 H)(ins:List ak)(vars cells:Int)(J M:Nat)(S T:List D)(at_:Int)(x:ak)(V:0<=cells/\cells<=8192)(AI:ins.length<=5000):
 ai ctx 93 [.ptr 0 0 0,.d (.int .i64 at_),.d (cA x)] [fJ ins vars cells (.vec 1 0 0 J) (.vec 2 0 0 M),.vec 1 S,.vec 1 T]=
  some (.ret (.d (.bool (du H cells ((ins.length:Int)-1) at_ x))),[(0,fJ ins vars cells (.vec 1 0 0 J) (.vec 2 0 0 M)),(0,.vec 1 S),(0,.vec 1 T)]):=by
 have O:=AA ins vars cells J M S T x.a 1 V (by unfold aY;omega);have E:IntKind.i64.wrap ((ins.length:Int)-1)=(ins.length:Int)-1:=aA (by unfold aY;omega);rw[an3 (by simp)];unfold du;simp at O;by_cases A1:x.op=1
 ·simp[f93,E,A1]
 by_cases A2:x.op=11
 ·simp[f93,E,A2]
 by_cases A3:x.op=2
 ·simp[f93,E,A3,O]
 by_cases A4:x.op=3
 ·simp[f93,E,A4,O]
 by_cases A5:x.op=6
 ·simp[f93,E,A5,O]
 by_cases A6:x.op=14
 ·simp[f93,E,A6,O]
 by_cases A7:x.op=13
 ·have A8:=AA ins vars cells J M S T x.b 2 V (by unfold aY;omega);simp at A8;cases AH:fQ cells x.a 1<;>simp[f93,E,A7,O,A8,AH]
 have I:=X1 ins vars cells J M S T x V;simp at I;by_cases Y:x.op=4
 ·simp[Y]at I;simp[f93,E,Y,I]
 by_cases Z:x.op=5
 ·simp[Z]at I;simp[f93,E,Z,I]
 by_cases c:x.op=7
 ·simp[c]at I;simp[f93,E,c,I]
 by_cases y:x.op=8
 ·have A9:=abf x;simp[y]at A9;simp[f93,E,y,A9]
 by_cases AB:x.op=9
 ·by_cases U:0<=x.a<;>simp[f93,E,AB,U]
 by_cases AC:x.op=10
 ·by_cases U:0<=x.a<;>simp[f93,E,AC,U]
 by_cases A':x.op=12
 ·obtain⟨l,AD,AE,AJ⟩:=AG x.b;have A0:=AA ins vars cells J M S T x.a (H x.b) V (by unfold aY;omega);simp at A0;by_cases U:0<H x.b
  ·simp[f93,E,A',U,AD,AE,A0]
  ·simp[f93,E,A',U,AD,AE,A0]
 by_cases AF:x.op=15
 ·simp[f93,E,AF]
 ·simp[f93,E,A1,A3,A4,Y,Z,A5,c,y,AB,AC,A2,A',A7,A6,AF]
theorem Ha(H:Int->Nat)(A1:CD 75 H)(vars cells:Int)(I J:Nat)(S T:List D)(B:aJ)(A7:0<=cells/\cells<=8192)(L:Int):∀(rest pre:List ak)(v:Nat)(A2:aJ),((pre++rest).length:Int)-1=L->(pre++rest).length<=5000->∀k:Kt,
 ∃c y,aO ctx 54 (.loop (Code.at (bg f54) [1,1,1,1,0,1,0,0])) ⟨66,aD,[(0,true,.ptr 0 0 0),(53,true,.d (.list ((pre++rest).map cA))),(54,true,.d (.int .i64 (pre++rest).length)),(55,true,.d (.int .i64 pre.length))],
  [⟨0,0,fJ (pre++rest) vars cells (.vec 1 0 0 I) (.vec 2 0 0 J)⟩,⟨1,0,.vec 1 S⟩,⟨2,0,.vec 1 T⟩,⟨250,1,B⟩,⟨400,v,A2⟩]⟩ k=
  if oD H cells L pre.length rest=true then
   k (.exit 0) ⟨66,aD,[(0,true,.ptr 0 0 0),(53,true,.d (.list ((pre++rest).map cA))),(54,true,.d (.int .i64 (pre++rest).length)),(55,true,.d (.int .i64 (pre++rest).length)),(56,true,.d (.bool false))],
   [⟨0,0,fJ (pre++rest) vars cells (.vec 1 0 0 I) (.vec 2 0 0 J)⟩,⟨1,0,.vec 1 S⟩,⟨2,0,.vec 1 T⟩,⟨250,1,B⟩,⟨400,c,y⟩]⟩
  else k .ret ⟨66,aD,[(2,true,.d (.bool false))],[⟨0,0,fJ (pre++rest) vars cells (.vec 1 0 0 I) (.vec 2 0 0 J)⟩,⟨1,0,.vec 1 S⟩,⟨2,0,.vec 1 T⟩,⟨250,1,B⟩,⟨400,c,y⟩]⟩
 |[],pre,v,A2,A5,V,k=>by
  refine⟨v,A2,?_⟩;rw[ag];simp[f54,oD]
 |x::rest,pre,v,A2,A5,V,k=>by
  have A':=abg H A1 (pre++x::rest) vars cells I J S T pre.length x A7 V;rw[A5]at A';have A0:(pre.length:Int)<pre.length+(rest.length+1):=by omega
  have M:IntKind.i64.wrap ((pre.length:Int)+1)=pre.length+1:=aA (by unfold aY;simp at V;omega);cases A3:du H cells L pre.length x
  ·refine⟨v+1,.box [.d (.int .i64 x.op),.d (.int .i64 x.a),.d (.int .i64 x.b),.d (.int .i64 x.n),.d (.int .i64 x.m)],?_⟩;rw[ag];simp[A3]at A';simp[f54,oD,A3];simp[A0,A']
  ·obtain⟨c,y,ih⟩:=Ha H A1 vars cells I J S T B A7 L rest (pre++[x]) (v+1) (.box [.d (.int .i64 x.op),.d (.int .i64 x.a),.d (.int .i64 x.b),.d (.int .i64 x.n),.d (.int .i64 x.m)]) (by simpa using A5) (by simpa using V) k;refine⟨c,y,?_⟩;rw[ag];simp[A3]at A';simp[f54,oD,A3]at ih⊢;simp[A0,M,A',ih]
theorem X7(H:Int->Nat)(A1:CD 75 H)(ins:List ak)(vars cells:Int)(I J:Nat)(S T:List D)(V:ins.length<=5000):
 ai ctx 54 [.ptr 0 0 0] [fJ ins vars cells (.vec 1 0 0 I) (.vec 2 0 0 J),.vec 1 S,.vec 1 T]=
  some (.ret (.d (.bool (lu H ins vars cells))),[(0,fJ ins vars cells (.vec 1 0 0 I) (.vec 2 0 0 J)),(0,.vec 1 S),(0,.vec 1 T)]):=by
 rw[anJ (by simp)];unfold lu Dt;by_cases A0:1<=(ins.length:Int)
 ·have A8:¬((ins.length:Int)<1):=by omega
  obtain⟨E,last,rfl⟩:∃E last,ins=E++[last]:=⟨ins.dropLast,ins.getLast (by intro h;simp[h]at A0),(List.dropLast_concat_getLast _).symm⟩;have AB:rz (E++[last])=last.op:=by simp[rz]
  rw[AB];have O:IntKind.i64.wrap ((E.length:Int)+1-1)=E.length:=by rw[aA (by unfold aY;simp at V;omega)];omega
  simp at O;simp only[acm,acq,acw]at V;by_cases M:(E.length:Int)+1<=4096;rotate_left
  ·have U:(4096:Int)<(E.length:Int)+1:=by omega
   simp[f54,M,U,O]
  have U:¬((4096:Int)<(E.length:Int)+1):=by omega
  by_cases Y:0<=cells;rotate_left
  ·simp[f54,M,U,Y,O]
  by_cases Z:cells<=8192;rotate_left
  ·simp[f54,M,U,Y,Z,O]
  by_cases A4:0<=vars;rotate_left
  ·simp[f54,M,U,Y,Z,A4,O]
  by_cases A6:vars<=cells;rotate_left
  ·simp[f54,M,U,Y,Z,A4,A6,O]
  by_cases A9:last.op=15;rotate_left
  ·simp[f54,M,U,Y,Z,A4,A6,A9,O]
  have AC:(1:Int)<=(E.length:Int)+1:=by omega
  have AA:=λB=>Ha H A1 vars cells I J S T B ⟨Y,Z⟩ E.length (E++[last]) [] 0 .dead (by simp) (by simp;omega);simp[f54,M,U,Y,Z,A4,A6,A9,AC,O]at AA⊢;obtain⟨c,y,AD⟩:=AA _ _;rw[AD];split
  ·rename_i q;simp[q]
  ·rename_i q;simp[q]
 ·have A8:(ins.length:Int)<1:=by omega
  simp[f54,A8,A0]
section
variable (ins:List ak) (vars cells:Int) (E:Nat) (T:List D)
theorem wB(t:Bool)(S:List Bool)(M:S.length<=5000):
 ai ctx 147 [.ptr 0 0 0,.d (.bool t)] [fJ ins vars cells (.vec 1 0 0 S.length) (.vec 2 0 0 E),.vec 1 (bD S),.vec 1 T]=
  some (.ret (.d (.bool (decide (S.length<64)))),[(0,fJ ins vars cells (.vec 1 1 0 (S.length+1)) (.vec 2 0 0 E)),(1,.vec 1 (bD (S++[t]))),(0,.vec 1 T)]):=by
 have g1:S.length+1<=140737488355328/\S.length<=4611686018427387903:=by omega
 have g2:((S.length:Int)+1<=64)=(S.length<64):=by simp;omega
 rw[ail (by simp)];simp[f147,g1,g2]
theorem CF(S:List D)(O:Nat):
 ai ctx 94 [.ptr 0 0 0] [fJ ins vars cells (.vec 1 0 0 O) (.vec 2 0 0 E),.vec 1 S,.vec 1 T]=
  some (.ret (.d (.bool (decide (O=0)))),[(0,fJ ins vars cells (.vec 1 0 0 O) (.vec 2 0 0 E)),(0,.vec 1 S),(0,.vec 1 T)]):=by
 rw[an4 (by simp)];by_cases q:O=0<;>simp[f94,q]
theorem JG(n:Nat)(t:Bool)(A:List Bool)(V:A.length<=5000):∀(rest pre:List Bool),(pre++rest).length=n->n<=5000->∀k:Kt,
 aO ctx 148 (.loop (Code.at (bg f148) [1,1,0,1,0,0])) ⟨54,aD,[(0,true,.ptr 0 0 0),(1,true,.d (.int .i64 n)),(2,true,.d (.bool t)),(27,true,.vec 1 0 A.length n),(28,true,.d (.int .i64 n)),(29,true,.d (.int .i64 pre.length))],
  [⟨0,0,fJ ins vars cells (.vec 1 0 0 (A++(pre++rest)).length) (.vec 2 0 0 E)⟩,⟨1,0,.vec 1 (bD (A++(pre++rest)))⟩,⟨2,0,.vec 1 T⟩]⟩ k=
  if (t&&rest.any (λb=>!b))=true then k .ret ⟨54,aD,[(6,true,.d (.bool false))],[⟨0,0,fJ ins vars cells (.vec 1 0 0 (A++(pre++rest)).length) (.vec 2 0 0 E)⟩,⟨1,0,.vec 1 (bD (A++(pre++rest)))⟩,⟨2,0,.vec 1 T⟩]⟩
  else k (.exit 0) ⟨54,aD,[(0,true,.ptr 0 0 0),(1,true,.d (.int .i64 n)),(2,true,.d (.bool t)),(27,true,.vec 1 0 A.length n),(28,true,.d (.int .i64 n)),(29,true,.d (.int .i64 n)),(30,true,.d (.bool false))],
  [⟨0,0,fJ ins vars cells (.vec 1 0 0 (A++(pre++rest)).length) (.vec 2 0 0 E)⟩,⟨1,0,.vec 1 (bD (A++(pre++rest)))⟩,⟨2,0,.vec 1 T⟩]⟩
 |[],pre,I,M,k=>by
  subst I;rw[ag];simp[f148]
 |x::rest,pre,I,M,k=>by
  have ih:=JG n t A V rest (pre++[x]) (by simpa using I) M k;have J:(pre.length:Int)<n:=by simp at I;omega
  have H:pre.length<n:=by omega
  have Y:IntKind.i64.wrap ((pre.length:Int)+1)=pre.length+1:=aA (by unfold aY;omega);rw[ag];simp[f148]at ih⊢;cases t
  ·simp[J,H,Y]at ih⊢;exact ih
  ·cases x
   ·simp[J,H,Y]
   ·simp[J,H,Y]at ih⊢;exact ih
theorem xH(n:Nat)(t:Bool)(S:List Bool)(M:S.length<=5000)(I:n<=5000):
 ai ctx 148 [.ptr 0 0 0,.d (.int .i64 n),.d (.bool t)] [fJ ins vars cells (.vec 1 0 0 S.length) (.vec 2 0 0 E),.vec 1 (bD S),.vec 1 T]=
  match jx n t S with
  |some A0=>some (.ret (.d (.bool true)),[(0,fJ ins vars cells (.vec 1 1 0 A0.length) (.vec 2 0 0 E)),(1,.vec 1 (bD A0)),(0,.vec 1 T)])
  |none=>some (.ret (.d (.bool false)),[(0,fJ ins vars cells (.vec 1 1 0 S.length) (.vec 2 0 0 E)),(1,.vec 1 (bD S)),(0,.vec 1 T)]):=by
 rw[aim (by simp)];unfold jx;by_cases J:S.length<n
 ·have H:(S.length:Int)<n:=by omega
  simp[f148,J,H]
 ·have H:¬((S.length:Int)<n):=by omega
  obtain⟨A,B,rfl,A1⟩:∃A B,S=A++B/\B.length=n:=⟨S.take (S.length-n),S.drop (S.length-n),(agA _ _).symm,by simp;omega⟩;have V:(A++B).length -n=A.length:=by simp;omega
  have U:IntKind.i64.wrap (((A++B).length:Int)-n)=A.length:=by rw[aA (by unfold aY;omega)];simp;omega
  have A2:=JG ins vars cells E T n t A (by simp at M;omega) B [] (by simpa using A1) I;have A3:A.length+B.length-A.length=n:=by omega
  have A4:A.length+n-A.length=n:=by omega
  subst A1;rw[V];have Z:¬((A.length:Int)+B.length<B.length):=by omega
  have c:(A.length:Int)<=(A.length:Int)+B.length:=by omega
  have y:((A.length:Int)+B.length).toNat -A.length=B.length:=by omega
  have A':¬(A.length+B.length<B.length):=by omega
  simp at J H U;simp[f148]at A2⊢;simp[U,Z,c,y,A'];rw[sC (by kernel_rfl)];simp[Z,c,y,A',A2];by_cases q:t=true/\false∈B
  ·simp[q]
  ·rw[ach q,ach q];simp[U,Z,c,y,A'];rw[sC (by kernel_rfl)];simp[U]
end
section
variable (ins:List ak) (vars cells:Int) (I:Nat) (T:List D)
def Q4(x:ak)(S:List Bool)(r:b7):Prop:=∃Y:List Bool,r=some (.ret (.d (.bool (cy x S).isSome)),[(0,fJ ins vars cells (.vec 1 1 0 Y.length) (.vec 2 0 0 I)),(1,.vec 1 (bD Y)),(0,.vec 1 T)])/\∀AA,cy x S=some AA->AA=Y
theorem xI{n:Nat}{t:Bool}{S Y:List Bool}(h:jx n t S=some Y):Y.length<=S.length:=by
 unfold jx at h;split at h
 ·cases h
 ·split at h
  ·cases h
  ·cases h;simp
set_option maxHeartbeats 4000000 in
theorem X8(x:ak)(S:List Bool)(AH:S.length<=64):
 Q4 ins vars cells I T x S (ai ctx 95 [.ptr 0 0 0,.d (cA x)] [fJ ins vars cells (.vec 1 0 0 S.length) (.vec 2 0 0 I),.vec 1 (bD S),.vec 1 T]):=by
 rw[an5 (by simp)];unfold Q4 cy;have Z:=wB ins vars cells I T true S (by omega);have A8:=wB ins vars cells I T false S (by omega);have he:=CF ins vars cells I T (bD S) S.length;simp at Z A8 he;by_cases c:x.op=1
 ·refine⟨S++[decide (x.n=0)||decide (x.n=1)],?_,?_⟩
  ·by_cases q:x.n=0
   ·simp[f95,c,q,Z,fe];split<;>simp[*]
   ·by_cases q1:x.n=1
    ·simp[f95,c,q1,Z,fe];split<;>simp[*]
    ·simp[f95,c,q,q1,A8,fe];split<;>simp[*]
  ·simp[c,fe]
 by_cases A3:x.op=2
 ·refine⟨S++[false],?_,?_⟩
  ·simp[f95,A3,A8,fe];split<;>simp[*]
  ·simp[A3,fe]
 by_cases A4:x.op=3
 ·refine⟨S++[true],?_,?_⟩
  ·simp[f95,A4,Z,fe];split<;>simp[*]
  ·simp[A4,fe]
 by_cases A5:x.op=13
 ·refine⟨S++[true],?_,?_⟩
  ·simp[f95,A5,Z,fe];split<;>simp[*]
  ·simp[A5,fe]
 by_cases A6:x.op=14
 ·refine⟨S++[true],?_,?_⟩
  ·simp[f95,A6,Z,fe];split<;>simp[*]
  ·simp[A6,fe]
 have J:=xH ins vars cells I T 1 false S (by omega) (by omega);by_cases y:x.op=4
 ·cases q:jx 1 false S with
  |none=>
   simp[q]at J;refine⟨S,?_,?_⟩
   ·simp[f95,y,J,q]
   ·simp[y,q]
  |some S1=>
   have AB:=xI q;have O:=wB ins vars cells I T false S1 (by omega);simp[q]at J;simp at O;refine⟨S1++[false],?_,?_⟩
   ·simp[f95,y,J,O,q,fe];split<;>simp[*]
   ·simp[y,q,fe]
 by_cases A':x.op=5
 ·cases q:jx 1 false S with
  |none=>
   simp[q]at J;refine⟨S,?_,?_⟩
   ·simp[f95,A',J,q]
   ·simp[A',q]
  |some S1=>
   have AB:=xI q;have O:=wB ins vars cells I T true S1 (by omega);simp[q]at J;simp at O;refine⟨S1++[true],?_,?_⟩
   ·simp[f95,A',J,O,q,fe];split<;>simp[*]
   ·simp[A',q,fe]
 by_cases A0:x.op=6
 ·cases q:jx 1 false S with
  |none=>
   simp[q]at J;refine⟨S,?_,?_⟩
   ·simp[f95,A0,J,q]
   ·simp[A0,q]
  |some S1=>
   simp[q]at J;refine⟨S1,?_,?_⟩
   ·simp[f95,A0,J,q]
   ·simp[A0,q]
 by_cases A1:x.op=7
 ·have E:=xH ins vars cells I T 2 false S (by omega) (by omega);cases q:jx 2 false S with
  |none=>
   simp[q]at E;refine⟨S,?_,?_⟩
   ·simp[f95,A1,E,q]
   ·simp[A1,q]
  |some S1=>
   simp[q]at E;refine⟨S1,?_,?_⟩
   ·simp[f95,A1,E,q]
   ·simp[A1,q]
 by_cases A2:x.op=10
 ·have E:=xH ins vars cells I T 1 true S (by omega) (by omega);cases q:jx 1 true S with
  |none=>
   simp[q]at E;refine⟨S,?_,?_⟩
   ·simp[f95,A2,E,q]
   ·simp[A2,q]
  |some S1=>
   have AC:=CF ins vars cells I T (bD S1) S1.length;simp at AC;simp[q]at E;refine⟨S1,?_,?_⟩
   ·simp[f95,A2,E,q,iw,AC];split<;>simp[*]
   ·simp[A2,q,iw]
 by_cases M:x.op=8
 ·obtain⟨n,A7⟩:∃n:Nat,n=(if x.b=6\/x.b=7 then 1 else 2):=⟨_,rfl⟩;obtain⟨g,A9⟩:∃g,g=(decide (x.b=7)||decide (13<=x.b)):=⟨_,rfl⟩;have AI:n<=2:=by rw[A7];split<;>omega
  have E:=xH ins vars cells I T n (decide (x.a=1)) S (by omega) (by omega);rw[<-A7,<-A9];have AD:(x.b=6/\n=1/\g=false)\/(x.b=7/\n=1/\g=true)\/(x.b≠6/\x.b≠7/\¬13<=x.b/\n=2/\g=false)\/(x.b≠6/\x.b≠7/\13<=x.b/\n=2/\g=true):=by
   rw[A7,A9];by_cases AE:x.b=6
   ·simp[AE]
   ·by_cases AF:x.b=7
    ·simp[AF]
    ·by_cases AG:13<=x.b<;>simp[AE,AF,AG]
  clear A7 A9;cases q:jx n (decide (x.a=1)) S with
  |none=>
   simp[q]at E;refine⟨S,?_,?_⟩
   ·rcases AD with ⟨H,rfl,rfl⟩|⟨H,rfl,rfl⟩|⟨H,U,V,rfl,rfl⟩|⟨H,U,V,rfl,rfl⟩
    ·simp at E;simp[f95,M,H,E,q]
    ·simp at E;simp[f95,M,H,E,q]
    ·simp at E;simp[f95,M,H,U,V,E,q]
    ·simp at E;simp[f95,M,H,U,V,E,q]
   ·simp[M,q]
  |some S1=>
   have AB:=xI q;have O:=wB ins vars cells I T g S1 (by omega);simp[q]at E;simp at O;refine⟨S1++[g],?_,?_⟩
   ·rcases AD with ⟨H,rfl,rfl⟩|⟨H,rfl,rfl⟩|⟨H,U,V,rfl,rfl⟩|⟨H,U,V,rfl,rfl⟩
    ·simp at E;simp[f95,M,H,E,O,q,fe];split<;>simp[*]
    ·simp at E;simp[f95,M,H,E,O,q,fe];split<;>simp[*]
    ·simp at E;simp[f95,M,H,U,V,E,O,q,fe];split<;>simp[*]
    ·simp at E;simp[f95,M,H,U,V,E,O,q,fe];split<;>simp[*]
   ·simp[M,q,fe]
 ·refine⟨S,?_,?_⟩
  ·simp[f95,c,A3,A4,y,A',A0,A1,M,A2,A5,A6,iw,he];split<;>simp[*]
  ·simp[c,A3,A4,y,A',A0,A1,M,A2,A5,A6,iw]
end
def kC(l:List Bool)(x:ak):List Bool:=if x.op=9\/x.op=10 then l.set x.a.toNat true else l
theorem yz(l:List Bool)(x:ak):(kC l x).length=l.length:=by unfold kC;split<;>simp
theorem X9(l:List Bool)(i:Nat)(b:Bool):(bD l).set i (.bool b)=bD (l.set i b):=by simp[bD,List.map_set]
theorem Hb{x:ak}{S E:List Bool}(J:S.length<=64)(h:cy x S=some E):E.length<=64:=by
 have g:∀{t S E},fe t S=some E->E.length<=64:=by
  intro t S E h;unfold fe at h;split at h
  ·cases h;simp;omega
  ·cases h
 have e:∀{S E},iw S=some E->E.length<=64:=by
  intro S E h;unfold iw at h;split at h
  ·cases h;simp
  ·cases h
 have tk:∀{n t E},jx n t S=some E->E.length<=64:=λh=>agQ (xI h) J;unfold cy at h;repeat' split at h
 all_goals first
  |exact g h
  |exact e h
  |exact tk h
  |(obtain⟨y,_,H⟩:=agU.1 h;exact g H)
  |(obtain⟨y,_,H⟩:=agU.1 h;exact e H)
section
variable (ins:List ak) (vars cells:Int)
theorem Nd(B:aJ):∀(rest pre:List ak)(T:List Bool)(v:Nat)(A4:aJ),(pre++rest).length<=5000->(∀x∈rest,x.op=9\/x.op=10->0<=x.a/\x.a<T.length)->∀k:Kt,
 ∃U V,aO ctx 55 (.loop (Code.at (bg f55) [1,0,1,0,0])) ⟨63,aD,[(0,true,.ptr 0 0 0),(11,true,.d (.list ((pre++rest).map cA))),(12,true,.d (.int .i64 (pre++rest).length)),(13,true,.d (.int .i64 pre.length))],
  [⟨0,0,fJ ins vars cells (.vec 1 0 0 0) (.vec 2 0 0 T.length)⟩,⟨1,0,.vec 1 []⟩,⟨2,0,.vec 1 (bD T)⟩,⟨300,v,A4⟩,⟨400,0,B⟩]⟩ k=
  k (.exit 0) ⟨63,aD,[(0,true,.ptr 0 0 0),(11,true,.d (.list ((pre++rest).map cA))),(12,true,.d (.int .i64 (pre++rest).length)),(13,true,.d (.int .i64 (pre++rest).length)),(14,true,.d (.bool false))],
   [⟨0,0,fJ ins vars cells (.vec 1 0 0 0) (.vec 2 0 0 T.length)⟩,⟨1,0,.vec 1 []⟩,⟨2,0,.vec 1 (bD (rest.foldl kC T))⟩,⟨300,U,V⟩,⟨400,0,B⟩]⟩
 |[],pre,T,v,A4,J,A5,k=>by
  refine⟨v,A4,?_⟩;rw[ag];simp[f55]
 |x::rest,pre,T,v,A4,J,A5,k=>by
  obtain⟨U,V,ih⟩:=Nd B rest (pre++[x]) (kC T x) (v+1) (.box [.d (.int .i64 x.op),.d (.int .i64 x.a),.d (.int .i64 x.b),.d (.int .i64 x.n),.d (.int .i64 x.m)]) (by simpa using J) (λy AG h=>by rw[yz];exact A5 y (by simp[AG]) h) k;refine⟨U,V,?_⟩;have I:(pre.length:Int)<pre.length+(rest.length+1):=by omega
  have H:IntKind.i64.wrap ((pre.length:Int)+1)=pre.length+1:=aA (by unfold aY;simp at J;omega);rw[yz]at ih;rw[ag];by_cases A2:x.op=9
  ·obtain⟨A6,a2⟩:=A5 x (by simp) (.inl A2);have a3:x.a.toNat<T.length:=by omega
   have e:kC T x=T.set x.a.toNat true:=by simp[kC,A2]
   rw[e,<-X9]at ih;simp[f55,A2]at ih⊢;simp[I,H,A6,a3];rw[sC (by kernel_rfl)];simp[H,e,ih]
  ·by_cases A3:x.op=10
   ·obtain⟨A6,a2⟩:=A5 x (by simp) (.inr A3);have a3:x.a.toNat<T.length:=by omega
    have e:kC T x=T.set x.a.toNat true:=by simp[kC,A3]
    rw[e,<-X9]at ih;simp[f55,A3]at ih⊢;simp[I,H,A6,a3];rw[sC (by kernel_rfl)];simp[H,e,ih]
   ·have e:kC T x=T:=by simp[kC,A2,A3]
    rw[e]at ih;simp[f55,A2,A3]at ih⊢;simp[I,H,e,ih]
theorem Fh(L:List Bool):∀(rest pre:List ak)(S:List Bool)(v v1:Nat)(B:aJ),(pre++rest).length=L.length->L.length<=5000->S.length<=64->∀(C:aJ)(Y:Nat)(k:Kt),
 ∃U c V E,aO ctx 55 (.loop (Code.at (bg f55) [1,1,0,1,0,0])) ⟨63,aD,[(0,true,.ptr 0 0 0),(37,true,.d (.list ((pre++rest).map cA))),(38,true,.d (.int .i64 (pre++rest).length)),(39,true,.d (.int .i64 pre.length))],
  [⟨0,0,fJ ins vars cells (.vec 1 v1 0 S.length) (.vec 2 0 0 L.length)⟩,⟨1,v1,.vec 1 (bD S)⟩,⟨2,0,.vec 1 (bD L)⟩,⟨300,Y,C⟩,⟨400,v,B⟩]⟩ k=
  if gq L pre.length rest S=true then
   k (.exit 2) ⟨63,aD,[(0,true,.ptr 0 0 0),(37,true,.d (.list ((pre++rest).map cA))),(38,true,.d (.int .i64 (pre++rest).length)),(39,true,.d (.int .i64 (pre++rest).length)),(40,true,.d (.bool false))],
    [⟨0,0,fJ ins vars cells (.vec 1 c 0 (E:List Bool).length) (.vec 2 0 0 L.length)⟩,⟨1,c,.vec 1 (bD E)⟩,⟨2,0,.vec 1 (bD L)⟩,⟨300,Y,C⟩,⟨400,U,V⟩]⟩
  else k .ret ⟨63,aD,[(2,true,.d (.bool false))],[⟨0,0,fJ ins vars cells (.vec 1 c 0 E.length) (.vec 2 0 0 L.length)⟩,⟨1,c,.vec 1 (bD E)⟩,⟨2,0,.vec 1 (bD L)⟩,⟨300,Y,C⟩,⟨400,U,V⟩]⟩
 |[],pre,S,v,v1,B,J,A9,A7,C,Y,k=>by
  refine⟨v,v1,B,S,?_⟩;rw[ag];simp[f55,gq]
 |x::rest,pre,S,v,v1,B,J,A9,A7,C,Y,k=>by
  have I:(pre.length:Int)<pre.length+(rest.length+1):=by omega
  have H:IntKind.i64.wrap ((pre.length:Int)+1)=pre.length+1:=aA (by unfold aY;simp at J;omega);have A1:pre.length<L.length:=by simp at J;omega
  obtain⟨AC,hm,AD⟩:=X8 ins vars cells L.length (bD L) x S A7;have he:=CF ins vars cells L.length (bD L) (bD S) S.length;have AA:(L.getD pre.length false)=L[pre.length]:=by simp[A1]
  cases A':L[pre.length]
  ·cases M:cy x S with
   |none=>
    refine⟨v+1,v1+1,.box [.d (.int .i64 x.op),.d (.int .i64 x.a),.d (.int .i64 x.b),.d (.int .i64 x.n),.d (.int .i64 x.m)],AC,?_⟩;rw[ag];have Z:gq L pre.length (x::rest) S=false:=by simp[gq,AA,A',M]
    rw[Z];simp[M]at hm;simp[f55,I,A1,A',hm]
   |some A0=>
    have AB:=Hb A7 M;obtain rfl:=AD A0 M;obtain⟨U,c,V,E,ih⟩:=Fh L rest (pre++[x]) A0 (v+1) (v1+1) (.box [.d (.int .i64 x.op),.d (.int .i64 x.a),.d (.int .i64 x.b),.d (.int .i64 x.n),.d (.int .i64 x.m)]) (by simpa using J) A9 AB C Y k;refine⟨U,c,V,E,?_⟩;have Z:gq L pre.length (x::rest) S=gq L (pre++[x]).length rest A0:=by rw[gq,AA,A'];simp[M]
    rw[Z,ag];simp[M]at hm;simp[f55]at ih⊢;simp[I,H,A1,A',hm,ih]
  ·cases S with
   |nil=>
    simp at he;cases M:cy x []with
    |none=>
     refine⟨v+1,v1+1,.box [.d (.int .i64 x.op),.d (.int .i64 x.a),.d (.int .i64 x.b),.d (.int .i64 x.n),.d (.int .i64 x.m)],AC,?_⟩;rw[ag];have Z:gq L pre.length (x::rest) []=false:=by simp[gq,M]
     rw[Z];simp[M]at hm;simp[f55,I,A1,A',hm,he]
    |some A0=>
     have AB:=Hb A7 M;obtain rfl:=AD A0 M;obtain⟨U,c,V,E,ih⟩:=Fh L rest (pre++[x]) A0 (v+1) (v1+1) (.box [.d (.int .i64 x.op),.d (.int .i64 x.a),.d (.int .i64 x.b),.d (.int .i64 x.n),.d (.int .i64 x.m)]) (by simpa using J) A9 AB C Y k;refine⟨U,c,V,E,?_⟩;have Z:gq L pre.length (x::rest) []=gq L (pre++[x]).length rest A0:=by simp[gq,M]
     rw[Z,ag];simp[M]at hm;simp[f55]at ih⊢;simp[I,H,A1,A',hm,he,ih]
   |cons y S=>
    refine⟨v+1,v1,.box [.d (.int .i64 x.op),.d (.int .i64 x.a),.d (.int .i64 x.b),.d (.int .i64 x.n),.d (.int .i64 x.m)],y::S,?_⟩;have Z:gq L pre.length (x::rest) (y::S)=false:=by rw[gq,AA,A'];simp
    rw[Z,ag];simp at he;simp[f55,I,A1,A',he]
theorem UB(J:ins.length<=5000)(AH:∀x∈ins,x.op=9\/x.op=10->0<=x.a/\x.a<ins.length):
 ∃E,ai ctx 55 [.ptr 0 0 0] [fJ ins vars cells (.vec 1 0 0 0) (.vec 2 0 0 ins.length),.vec 1 [],.vec 1 (bD (List.replicate ins.length false))]=
  some (.ret (.d (.bool (gq (nZ ins) 0 ins []))),[(0,fJ ins vars cells (.vec 1 1 0 (E:List Bool).length) (.vec 2 1 0 ins.length)),(1,.vec 1 (bD E)),(1,.vec 1 (bD (nZ ins)))]):=by
 have A8:(nZ ins).length=ins.length:=by
  have:∀(l:List ak)(T:List Bool),(l.foldl kC T).length=T.length:=by
   intro l;induction l with
   |nil=>intro T;rfl
   |cons x l ih=>intro T;simp only[af1];rw[ih,yz]
  rw[show nZ ins=ins.foldl kC (List.replicate ins.length false)from rfl,this];simp
 have I:=λB=>Nd ins vars cells B ins [] (List.replicate ins.length false) 0 .dead J (by simpa using AH);rw[show ins.foldl kC (List.replicate ins.length false)=nZ ins from rfl]at I;have H:=λC Y=>Fh ins vars cells (nZ ins) ins [] [] 0 0 .dead (by simp[A8]) (by omega) (by simp) C Y;generalize nZ ins=L at A8 I H;generalize O:ai ctx 55 _ _=r;rw[anK (by simp)]at O;simp[f55,A8]at I H O;obtain⟨f1,I⟩:=agd (I .dead);obtain⟨f2,I⟩:=agd I;rw[I]at O;clear I;generalize f1 _=a at O;generalize f2 _=b at O;simp at O;replace H:=H b a;obtain⟨g1,H⟩:=agd H;obtain⟨g2,H⟩:=agd H;obtain⟨g3,H⟩:=agd H;obtain⟨g4,H⟩:=agd H;rw[H]at O;clear H;generalize g1 _=A6 at O;generalize g2 _=a2 at O;generalize g3 _=a3 at O;generalize g4 _=E at O;refine⟨E,?_⟩;rw[<-O];have AE:ins.length<=L.length:=by omega
 have AF:List.take ins.length (List.map D.bool L)=List.map D.bool L:=by rw[<-A8];simp
 cases AI:gq L 0 ins []
 ·simp[AE,AF]
 ·simp[AE,AF]
end
theorem xJ(succ:Nat->List Nat):∀f:Nat,
 (∀at_ E,(ky succ f at_ E).2.length=E.length/\fresh (ky succ f at_ E).2<=fresh E)/\(∀l E,(j0 succ f l E).2.length=E.length/\fresh (j0 succ f l E).2<=fresh E)
 |0=>by
  have A9:∀at_ E,(ky succ 0 at_ E).2.length=E.length/\fresh (ky succ 0 at_ E).2<=fresh E:=λat_ E=>by unfold ky;exact⟨rfl,ack _⟩
  refine⟨A9,λl E=>?_⟩;cases l with
  |nil=>unfold j0;exact⟨rfl,ack _⟩
  |cons n r=>unfold j0 ky;exact⟨rfl,ack _⟩
 |f+1=>by
  have A3:∀at_ E,(ky succ (f+1) at_ E).2.length=E.length/\fresh (ky succ (f+1) at_ E).2<=fresh E:=by
   intro at_ E;unfold ky;split
   ·exact⟨rfl,ack _⟩
   ·have h:=(xJ succ f).2 (succ at_) (E.set at_ 1);have V:=wo (l:=E) (i:=at_) (v:=1) (by decide);obtain⟨s,b,he⟩:∃s b,j0 succ f (succ at_) (E.set at_ 1)=(b,s):=⟨_,_,rfl⟩;rw[he]at h⊢;simp only[List.length_set]at h;cases b with
    |true=>exact⟨h.1,by simp only;omega⟩
    |false=>
     have H:=wo (l:=s) (i:=at_) (v:=2) (by decide);exact⟨by simp only[List.length_set];exact h.1,by simp only;omega⟩
  refine⟨A3,λl=>?_⟩;induction l with
  |nil=>intro E;unfold j0;exact⟨rfl,ack _⟩
  |cons n r ih=>
   intro E;unfold j0;have h:=A3 n E;obtain⟨s,b,he⟩:∃s b,ky succ (f+1) n E=(b,s):=⟨_,_,rfl⟩;rw[he]at h⊢;cases b with
   |true=>exact h
   |false=>
    have H:=ih s;simp only at h;exact⟨by simp only;rw[H.1,h.1],by simp only;omega⟩
@[simp] def iD(l:List Nat):List D:=l.map λ(n:Nat)=>D.int .i64 (n:Int)
def rI(i:Nat)(x:ak):List Nat:=if x.op=9 then [x.a.toNat]else if x.op=10 then [i+1,x.a.toNat]else if x.op=15 then []else [i+1]
theorem Ya(i:Nat)(x:ak)(hi:i<5000)(A4:x.op=9\/x.op=10->0<=x.a):ai ctx 149 [.d (.int .i64 i),.d (cA x)] []=some (.ret (.d (.list (iD (rI i x)))),[]):=by
 have w:IntKind.i64.wrap ((i:Int)+1)=i+1:=aA (by unfold aY;omega);rw[ain (by simp)];unfold rI;by_cases c:x.op=9
 ·have h:=A4 (.inl c);have H:max x.a 0=x.a:=by omega
  simp[f149,c,H]
 by_cases y:x.op=10
 ·have h:=A4 (.inr y);have H:max x.a 0=x.a:=by omega
  simp[f149,y,w,H,List.range']
 by_cases A5:x.op=15
 ·simp[f149,A5]
 ·simp[f149,c,y,A5,w]
section
variable (ins:List ak) (vars cells:Int) (I J:Nat) (S T:List D)
def Q5(f:Nat):Prop:=∀(at_:Nat)(E:List Nat),fresh E<f->at_<ins.length->E.length=ins.length->
 ai ctx 96 [.ptr 0 0 0,.d (.int .i64 at_),.vec 1 0 0 ins.length] [fJ ins vars cells (.vec 2 0 0 I) (.vec 3 0 0 J),.vec 1 (iD E),.vec 1 S,.vec 1 T]=
  some (.ret (.d (.bool (ky (gC ins) f at_ E).1)),[(0,fJ ins vars cells (.vec 2 0 0 I) (.vec 3 0 0 J)),(0,.vec 1 (iD (ky (gC ins) f at_ E).2)),(0,.vec 1 S),(0,.vec 1 T)])
theorem AB(A6:ins.length<=5000)(f at_:Nat)(A':Q5 ins vars cells I J S T f):∀(rest pre:List Nat)(E:List Nat),fresh E<f->(pre++rest).length<5000->(∀n∈rest,n<ins.length)->E.length=ins.length->∀k:Kt,
 aO ctx 96 (.loop (Code.at (bg f96) [1,1,1,0,1,0,1,0,0])) ⟨67,aD,[(0,true,.ptr 0 0 0),(1,true,.d (.int .i64 at_)),(2,true,.vec 1 0 0 ins.length),(41,true,.d (.list (iD (pre++rest)))),(42,true,.d (.int .i64 (pre++rest).length)),(43,true,.d (.int .i64 pre.length))],
  [⟨0,0,fJ ins vars cells (.vec 2 0 0 I) (.vec 3 0 0 J)⟩,⟨1,0,.vec 1 (iD E)⟩,⟨2,0,.vec 1 S⟩,⟨3,0,.vec 1 T⟩]⟩ k=
  if (j0 (gC ins) f (rest.filter λj=>!iR ins j) E).1=true then
   k .ret ⟨67,aD,[(6,true,.d (.bool true))],[⟨0,0,fJ ins vars cells (.vec 2 0 0 I) (.vec 3 0 0 J)⟩,⟨1,0,.vec 1 (iD (j0 (gC ins) f (rest.filter λj=>!iR ins j) E).2)⟩,⟨2,0,.vec 1 S⟩,⟨3,0,.vec 1 T⟩]⟩
  else k (.exit 0) ⟨67,aD,[(0,true,.ptr 0 0 0),(1,true,.d (.int .i64 at_)),(2,true,.vec 1 0 0 ins.length),(41,true,.d (.list (iD (pre++rest)))),(42,true,.d (.int .i64 (pre++rest).length)),(43,true,.d (.int .i64 (pre++rest).length)),(44,true,.d (.bool false))],
   [⟨0,0,fJ ins vars cells (.vec 2 0 0 I) (.vec 3 0 0 J)⟩,⟨1,0,.vec 1 (iD (j0 (gC ins) f (rest.filter λj=>!iR ins j) E).2)⟩,⟨2,0,.vec 1 S⟩,⟨3,0,.vec 1 T⟩]⟩
 |[],pre,E,A0,Y,Z,A1,k=>by
  rw[ag];simp[f96,j0]
 |n::rest,pre,E,A0,Y,Z,A1,k=>by
  have M:=Z n (by simp);have A7:ins[n]?=some ins[n]:=by simp[M]
  have V:(pre.length:Int)<pre.length+(rest.length+1):=by omega
  have H:IntKind.i64.wrap ((pre.length:Int)+1)=pre.length+1:=aA (by unfold aY;simp at Y;omega);by_cases O:ins[n].op=11
  ·have A2:iR ins n=true:=by simp[iR,A7,O]
   have ih:=AB A6 f at_ A' rest (pre++[n]) E A0 (by simpa using Y) (λm hm=>Z m (by simp[hm])) A1 k;rw[ag];simp[f96,A2]at ih⊢;simp[V,H,M,O,ih]
  ·have A2:iR ins n=false:=by simp[iR,A7,O]
   have U:=A' n E A0 M A1;have A8:=(xJ (gC ins) f).1 n E;have e:j0 (gC ins) f ((n::rest).filter λj=>!iR ins j) E=if (ky (gC ins) f n E).1=true then (true,(ky (gC ins) f n E).2)else j0 (gC ins) f (rest.filter λj=>!iR ins j) (ky (gC ins) f n E).2:=by
    rw[List.filter_cons,A2];simp only[Bool.not_false,adZ];rw[j0];obtain⟨s,b,he⟩:∃s b,ky (gC ins) f n E=(b,s):=⟨_,_,rfl⟩;rw[he];cases b<;>rfl
   rw[e];obtain⟨s,b,he⟩:∃s b,ky (gC ins) f n E=(b,s):=⟨_,_,rfl⟩;rw[he]at U A8⊢;simp only at A8;rw[ag];cases b
   ·have ih:=AB A6 f at_ A' rest (pre++[n]) s (by omega) (by simpa using Y) (λm hm=>Z m (by simp[hm])) (by omega) k;simp[f96]at ih U⊢;simp[V,H,M,O,U,ih]
   ·simp at U;simp[f96];simp[V,H,M,O,U]
end
def CG(ins:List ak):Prop:=∀i x,ins[i]?=some x->(x.op=9\/x.op=10->0<=x.a/\x.a<(ins.length:Int))/\(x.op≠9->x.op≠15->i+1<ins.length)
theorem Yb{AH:Int->Nat}{ins:List ak}{vars cells:Int}(h:lu AH ins vars cells=true):CG ins:=by
 intro i x A';simp only[lu,Ds]at h;have A0:=qB h.2 i _ A';have hi:i<ins.length:=(ace.1 A').1;simp only[aeh]at A0;have AI:i+1=ins.length->x.op=15:=by
  intro I;have A1:=h.1;simp only[Dt,Ds,acn]at A1;have A9:=A1.2;unfold rz at A9;rw[ajv,show ins.length-1=i by omega,A']at A9;simpa using A9
 refine⟨λH=>?_,λA2 AA=>?_⟩
 ·unfold du at A0;rcases H with H|H<;>simp[H]at A0<;>omega
 ·have:i+1≠ins.length:=λh=>AA (AI h);omega
section
variable (ins:List ak) (vars cells:Int) (M O:Nat) (S T:List D)
theorem Yc(i:Nat)(x:ak):(rI i x).length<=2:=by
 unfold rI;repeat' split
 all_goals simp
theorem aeP(J:CG ins){i:Nat}(hi:i<ins.length):∀j∈rI i ins[i],j<ins.length:=by
 have h:=J i ins[i] (by simp[hi]);intro j H;unfold rI at H;split at H
 ·rename_i A2;have:=h.1 (.inl A2);simp at H;omega
 ·rename_i A2;split at H
  ·rename_i AJ;have:=h.1 (.inr AJ);have:=h.2 A2 (by omega);simp at H;omega
  ·split at H
   ·simp at H
   ·rename_i AA;have:=h.2 A2 AA;simp at H;omega
theorem abh{i:Nat}(hi:i<ins.length):gC ins i=if ins[i].op=11 then []else (rI i ins[i]).filter λj=>!iR ins j:=by
 have A':ins[i]?=some ins[i]:=by simp[hi]
 unfold gC ry iR Av rI;rw[A'];simp only[acn];split<;>rfl
theorem JI(U:ins.length<=5000)(J:CG ins):∀f,Q5 ins vars cells M O S T f
 |0=>λat_ E A0 _ _=>by omega
 |f+1=>by
  intro at_ E A0 V AC;have c:at_<E.length:=by omega
  have AD:E.getD at_ 0=E[at_]:=by simp[c]
  rw[an6 (by simp)];unfold ky;rw[AD];by_cases Y:E[at_]=0
  ·rw[ach (by simp[Y])];have AK:=Ju (l:=E) (i:=at_) (v:=1) (by rw[AD];exact Y) c (by decide);have AL:(iD E).set at_ (.int .i64 1)=iD (E.set at_ 1):=by simp[iD,List.map_set]
   rw[abh ins V];by_cases A3:ins[at_].op=11
   ·rw[acs A3];have AE:((iD E).set at_ (.int .i64 1)).set at_ (.int .i64 2)=iD ((E.set at_ 1).set at_ 2):=by simp[iD,List.map_set]
    simp at AE;simp[f96,c,V,Y,A3,j0,AE]
   ·rw[ach A3];have y:=Ya at_ ins[at_] (by omega) (λh=>((J at_ _ (by simp[V])).1 h).1);have Z:=AB ins vars cells M O S T U f at_ (JI U J f) (rI at_ ins[at_]) [] (E.set at_ 1) (by omega) (by have:=Yc at_ ins[at_];simp;omega) (aeP ins J V) (by simp;omega);simp only[ad8,acw]at Z;rw[<-AL]at Z;have A4:=(xJ (gC ins) f).2 ((rI at_ ins[at_]).filter λj=>!iR ins j) (E.set at_ 1);obtain⟨s,b,he⟩:∃s b,j0 (gC ins) f ((rI at_ ins[at_]).filter λj=>!iR ins j) (E.set at_ 1)=(b,s):=⟨_,_,rfl⟩;rw[he]at Z A4⊢;have AF:(iD s).set at_ (.int .i64 2)=iD (s.set at_ 2):=by simp[iD,List.map_set]
    simp only[List.length_set]at A4;have AM:at_<s.length:=by omega
    simp at AF;cases b
    ·simp[f96]at y Z⊢;simp[c,V,Y,A3,y,Z,AM,AF]
    ·simp[f96]at y Z⊢;simp[c,V,Y,A3,y,Z]
  ·rw[acs Y];simp[f96,c,V,Y];generalize E[at_]=z;by_cases q:z=1
   ·subst q;rfl
   ·have q2:¬((z:Int)=1):=by omega
    simp[q,q2]
theorem Ej(U:ins.length<=5000)(J:CG ins):∀(rest pre:List Nat)(E:List Nat),pre++rest=List.range ins.length->E.length=ins.length->∀(v:Nat)(k:Kt),
 ∃A5 A8,aO ctx 56 (.loop (Code.at (bg f56) [1,1,0,1,0,0])) ⟨26,aD,[(0,true,.ptr 0 0 0),(3,true,.vec 650 v 0 ins.length),(17,true,.d (.int .i64 ins.length)),(18,true,.d (.int .i64 pre.length))],
  [⟨0,0,fJ ins vars cells (.vec 1 0 0 M) (.vec 2 0 0 O)⟩,⟨1,0,.vec 1 S⟩,⟨2,0,.vec 1 T⟩,⟨650,v,.vec 1 (iD E)⟩]⟩ k=
  if rounds (gC ins) (ins.length+1) rest E=true then
   k .ret ⟨26,aD,[(2,true,.d (.bool true))],[⟨0,0,fJ ins vars cells (.vec 1 0 0 M) (.vec 2 0 0 O)⟩,⟨1,0,.vec 1 S⟩,⟨2,0,.vec 1 T⟩,⟨650,A5,.vec 1 (iD A8)⟩]⟩
  else k (.exit 0) ⟨26,aD,[(0,true,.ptr 0 0 0),(3,true,.vec 650 A5 0 ins.length),(17,true,.d (.int .i64 ins.length)),(18,true,.d (.int .i64 ins.length)),(19,true,.d (.bool false))],
   [⟨0,0,fJ ins vars cells (.vec 1 0 0 M) (.vec 2 0 0 O)⟩,⟨1,0,.vec 1 S⟩,⟨2,0,.vec 1 T⟩,⟨650,A5,.vec 1 (iD A8)⟩]⟩
 |[],pre,E,A6,AC,v,k=>by
  refine⟨v,E,?_⟩;have AG:pre.length=ins.length:=by simpa using aga List.length A6
  rw[ag];simp[f56,rounds,AG]
 |n::rest,pre,E,A6,AC,v,k=>by
  have AG:pre.length+(rest.length+1)=ins.length:=by simpa using aga List.length A6
  have y:n=pre.length:=by
   have:=aga (λl=>l[pre.length]?) A6;simp at this;rw[List.getElem?_range (by omega)]at this;simpa using this
  have I:pre.length<ins.length:=by omega
  have A1:IntKind.i64.wrap ((pre.length:Int)+1)=pre.length+1:=aA (by unfold aY;omega);have AK:fresh E<=E.length:=List.countP_le_length;have A7:=JI ins vars cells M O S T U J (ins.length+1) pre.length E (by omega) (by omega) AC;have A4:=((xJ (gC ins) (ins.length+1)).1 pre.length E).1;subst y;rw[rounds];obtain⟨s,b,he⟩:∃s b,ky (gC ins) (ins.length+1) pre.length E=(b,s):=⟨_,_,rfl⟩;rw[he]at A7 A4⊢;simp only at A4;cases b
  ·obtain⟨A5,A8,ih⟩:=Ej U J rest (pre++[pre.length]) s (by simpa using A6) (by omega) v k;refine⟨A5,A8,?_⟩;rw[ag];simp[f56]at ih A7⊢;simp[I,A1,A7,ih]
  ·refine⟨v,s,?_⟩;rw[ag];simp at A7;simp[f56];simp[I,A1,A7]
theorem UC(U:ins.length<=5000)(J:CG ins):
 ai ctx 56 [.ptr 0 0 0] [fJ ins vars cells (.vec 1 0 0 M) (.vec 2 0 0 O),.vec 1 S,.vec 1 T]=
  some (.ret (.d (.bool (rounds (gC ins) (ins.length+1) (List.range ins.length) (List.replicate ins.length 0)))),[(0,fJ ins vars cells (.vec 1 0 0 M) (.vec 2 0 0 O)),(0,.vec 1 S),(0,.vec 1 T)]):=by
 have I:=Ej ins vars cells M O S T U J (List.range ins.length) [] (List.replicate ins.length 0) rfl (by simp) 1;obtain⟨f1,I⟩:=agd I;obtain⟨f2,I⟩:=agd I;have g1:(ins.length:Int)*8<=140737488355328/\(ins.length:Int)<=4611686018427387904:=by omega
 rw[anL (by simp)];simp[f56]at I⊢;simp[g1,I];cases AN:rounds (gC ins) (ins.length+1) (List.range ins.length) (List.replicate ins.length 0)<;>simp;trace_state
end
@[simp] def vg(ins:List ak)(vars cells:Int):D:=.agg [.list (ins.map cA),.int .i64 vars,.int .i64 cells]
theorem Bc(E:Int->Nat)(V:CD 75 E)(ins:List ak)(vars cells:Int)(I:ins.length<=5000):
 ai ctx 21 [.d (vg ins vars cells)] []=some (.ret (.d (.bool (kO E ins vars cells))),[]):=by
 have H:=X7 E V ins vars cells 0 ins.length [] (bD (List.replicate ins.length false)) I;have g1:(ins.length:Int)<=140737488355328/\(ins.length:Int)<=4611686018427387904:=by omega
 rw[anu (by simp)];unfold kO;cases J:lu E ins vars cells
 ·simp[J]at H;simp[f21,g1];rw[sC (by kernel_rfl)];simp[H]
 ·have M:=Yb J;obtain⟨O,T⟩:=UB ins vars cells I (λx Y h=>by
   obtain⟨i,hi,rfl⟩:=List.getElem_of_mem Y;exact (M i _ (by simp[hi])).1 h)
  have U:=UC ins vars cells O.length ins.length (bD O) (bD (nZ ins)) I M;simp[J]at H T U;simp[f21,g1];rw[sC (by kernel_rfl)];simp[H,T];cases Z:gq (nZ ins) 0 ins []
  ·simp
  ·simp[U]
end Go.Am
end
section
namespace Go.Am
open Go
abbrev ajx:=Option (Out×List (Nat×aJ))
theorem ajy(c:Prop)[Decidable c](a b:Bool)(l:List (Nat×aJ)):(if c then (some (Out.ret (.d (.bool a)),l):ajx)else some (Out.ret (.d (.bool b)),l))=some (Out.ret (.d (.bool (if c then a else b))),l):=by split<;>rfl
theorem abi(a b:Bool)(l:List (Nat×aJ)):(some (Out.ret (.d (.bool a)),l):ajx)=some (Out.ret (.d (.bool b)),l)↔(a=true↔b=true):=by
 cases a<;>cases b<;>simp
end Go.Am
end
section
namespace Go.Am
open Go Go.Proofs Go.Proofs.Tryz
variable [Inhabited b9]
set_option maxRecDepth 20000
def jP(op:Int):Bool:=decide (op=2\/op=3\/op=6\/op=9\/op=10\/op=4\/op=5\/op=7\/op=14\/op=8\/op=12\/op=13)
def hasB(op:Int):Bool:=decide (op=8\/op=12\/op=13)
def kQ(op:Int):Bool:=decide (op=1\/op=4\/op=5\/op=7\/op=14)
def kR(op:Int):Bool:=decide (op=4\/op=5\/op=7\/op=14)
def lg(op:Int):Bool:=decide (1<=op/\op<=15)
theorem Iq(op:Int):ai ctx 97 [.d (.int .i64 op)] []=some (.ret (.bh [.d (.bool (jP op)),.d (.bool (hasB op)),.d (.bool (kQ op)),.d (.bool (kR op)),.d (.bool (lg op))]),[]):=by
 rw[an7 (by simp)];simp[f97,ay];by_cases J:1<=op/\op<=15
 ·have h:op=1\/op=2\/op=3\/op=4\/op=5\/op=6\/op=7\/op=8\/op=9\/op=10\/op=11\/op=12\/op=13\/op=14\/op=15:=by omega
  rcases h with rfl|rfl|rfl|rfl|rfl|rfl|rfl|rfl|rfl|rfl|rfl|rfl|rfl|rfl|rfl<;>simp[jP,hasB,kQ,kR,lg]
 ·have h:∀z:Int,1<=z->z<=15->¬op=z:=λz A9 AA AB=>J (by omega);simp[jP,hasB,kQ,kR,lg,J,h]
def dA(x:ak):Bool:=lg x.op&&(jP x.op||decide (x.a=0))&&(hasB x.op||decide (x.b=0))&&(kQ x.op||decide (x.n=0))&&(kR x.op||decide (x.m=0))
theorem abj(x:ak):ai ctx 62 [.d (cA x)] []=some (.ret (.d (.bool (dA x))),[]):=by
 have h:=Iq x.op;rw[anQ (by simp)];unfold dA;generalize lg x.op=O at*;generalize jP x.op=U at*;generalize hasB x.op=Y at*;generalize kQ x.op=Z at*;generalize kR x.op=c at*;simp[f62,ay,h];cases O<;>cases U<;>cases Y<;>cases Z<;>cases c<;>simp[ajy,abi,Bool.and_assoc]
def eD(n:Nat):Nat->List UInt8
 |0=>[]
 |s+1=>UInt8.ofNat (n/2^(8*s))::eD n s
theorem iq(n:Nat):∀s,(eD n s).length=s
 |0=>rfl
 |s+1=>by simp[eD,iq n s]
theorem Nf(n:Nat)(k:Kt)(R:b7)(T:List UInt8)(y:T.length<=1000000)(V:Nat)(E:k (.exit 0) ⟨24,aD,[(0,true,.vec 0 V 0 T.length),(1,true,.d (.int .u64 n)),(7,true,.d (.int .i64 (-1))),(11,true,.d (.bool false))],[⟨0,V,.vec 1 (T.map eh)⟩]⟩=R):∀(s v:Nat)(out:List UInt8),s<=8->v+s=V->out++eD n s=T->
 aO ctx 63 (.loop (Code.at (bg f63) [1,0,1,0,0])) ⟨24,aD,[(0,true,.vec 0 v 0 out.length),(1,true,.d (.int .u64 n)),(7,true,.d (.int .i64 ((s:Int)-1)))],[⟨0,v,.vec 1 (out.map eh)⟩]⟩ k=R
 |0,v,out,M,H,D=>by
  have D:out=T:=by simpa [eD]using D
  subst D;have H:v=V:=by omega
  subst H;rw[ag];simp[f63,E]
 |s+1,v,out,M,H,D=>by
  have ih:=Nf n k R T y V E s (v+1) (out++[UInt8.ofNat (n/2^(8*s))]) (by omega) (by omega) (by rw[<-D];simp[eD]);have A':out.length<=1000000:=by have:=aga List.length D;simp at this;omega
  have A0:((s+1:Nat):Int)-1=s:=by omega
  have I:IntKind.i64.wrap ((s:Int)-1)=(s:Int)-1:=aA (by unfold aY;omega);have A1:IntKind.i64.wrap (8*(s:Int))=8*(s:Int):=by rw[aA (by unfold aY;omega)]
  have A2:IntKind.u64.wrap (8*(s:Int))=8*(s:Int):=by simp[IntKind.wrap,IntKind.bits,IntKind.signed];omega
  have A3:(8*(s:Int)).toNat=8*s:=by omega
  have A4:(0:Int)<=8*(s:Int):=by omega
  have A5:min (8*s) 64=8*s:=by omega
  have A6:IntKind.bits .u64=64:=rfl;have g1:out.length<=140737488355327:=by omega
  have g2:out.length<=4611686018427387903:=by omega
  have A7:IntKind.u8.wrap ((n:Int).fdiv (2^(8*s)))=((n/2^(8*s):Nat):Int)%256:=by
   rw[Int.fdiv_eq_ediv_of_nonneg _ (Int.le_of_lt (Int.pow_pos (by omega)))];have e:((n:Int)/2^(8*s))=((n/2^(8*s):Nat):Int):=by simp
   rw[e];generalize n/2^(8*s)=z;simp[IntKind.wrap,IntKind.bits,IntKind.signed]
  rw[A0,ag];generalize n/2^(8*s)=z at*;simp[f63]at ih;simp[f63];simp[I,A1,A2,A3,A4,A5,A6,A7,g1,g2,ih]
theorem zi(out:List UInt8)(n s:Nat)(M:1<=s/\s<=8)(A':out.length<=900000):ai ctx 63 [.vec 0 0 0 out.length,.d (.int .u64 n),.d (.int .i64 s)] [.vec 1 (out.map eh)]=
 some (.ret (.vec 0 1 0 (out++eD n s).length),[(1,.vec 1 ((out++eD n s).map eh))]):=by
 have AC:=iq n s;have h:=λk R E=>Nf n k R (out++eD n s) (by simp;omega) s E s 0 out (by omega) (by omega) rfl;have I:IntKind.i64.wrap ((s:Int)-1)=(s:Int)-1:=aA (by unfold aY;omega);have A8:¬s=0:=by omega
 generalize out++eD n s=T at*;rw[anR (by simp)];simp[f63]at h;simp[f63,I];rw[h];simp[A8]
def gL(z:Int):Nat:=(z%18446744073709551616).toNat
theorem oL(z:Int):IntKind.u64.wrap z=(gL z:Int):=by
 unfold gL;have e:IntKind.u64.wrap z=z%18446744073709551616:=by simp[IntKind.wrap,IntKind.bits,IntKind.signed]
 rw[e,Int.toNat_of_nonneg (Int.emod_nonneg _ (by omega))]
def lL(z:Int):UInt8:=UInt8.ofNat (z%256).toNat
theorem O5(z:Int):IntKind.u8.wrap z=((lL z).toNat:Int):=by
 unfold lL;have e:IntKind.u8.wrap z=z%256:=by simp[IntKind.wrap,IntKind.bits,IntKind.signed]
 rw[e];have AD:0<=z%256:=Int.emod_nonneg _ (by omega);have U:z%256<256:=Int.emod_lt_of_pos _ (by omega);simp;omega
def fH(b:Bool)(z:Int)(s:Nat):List UInt8:=if b then eD (gL z) s else []
def qc(x:ak):List UInt8:=lL x.op::(fH (jP x.op) x.a 2++(fH (hasB x.op) x.b 2++(fH (kQ x.op) x.n 8++fH (kR x.op) x.m 8)))
theorem mW(b:Bool)(z:Int)(s:Nat):(fH b z s).length<=s:=by
 unfold fH;split<;>simp[iq]
theorem abk(x:ak):1<=(qc x).length/\(qc x).length<=21:=by
 have U:=mW (jP x.op) x.a 2;have Y:=mW (hasB x.op) x.b 2;have Z:=mW (kQ x.op) x.n 8;have AE:=mW (kR x.op) x.m 8;unfold qc;simp only[acq,acm];omega
theorem tg(b:Bool)(E:List UInt8)(z:Int)(s:Nat)(A2:1<=s/\s<=8)(V:E.length<=900000):∃H,H=E++fH b z s/\H.length<=E.length+8/\
 (b=true->ai ctx 63 [.vec 0 0 0 E.length,.d (.int .u64 (gL z)),.d (.int .i64 s)] [.vec 1 (E.map eh)]=some (.ret (.vec 0 1 0 H.length),[(1,.vec 1 (H.map eh))]))/\(b=false->H=E):=by
 refine⟨_,rfl,?_,λh=>?_,λh=>by simp[h,fH]⟩
 ·have:=mW b z s;simp;omega
 ·have:=zi E (gL z) s A2 V;simpa [h,fH]using this
set_option maxHeartbeats 2000000 in
theorem abl(out:List UInt8)(x:ak)(V:out.length<=800000):ai ctx 64 [.vec 0 0 0 out.length,.d (cA x)] [.vec 1 (out.map eh)]=
 some (.ret (.vec 0 1 0 (out++qc x).length),[(1,.vec 1 ((out++qc x).map eh))]):=by
 have hh:=Iq x.op;have AF:=O5 x.op;have AG:=oL x.a;have AH:=oL x.b;have AI:=oL x.n;have hm:=oL x.m;have g1:out.length<=140737488355327/\out.length<=4611686018427387903:=by omega
 have U:=mW (jP x.op) x.a 2;have Y:=mW (hasB x.op) x.b 2;have Z:=mW (kQ x.op) x.n 8;unfold qc;generalize jP x.op=I at*;generalize hasB x.op=J at*;generalize kQ x.op=M at*;generalize kR x.op=O at*;generalize lg x.op=AJ at*;have c:out++lL x.op::(fH I x.a 2++(fH J x.b 2++(fH M x.n 8++fH O x.m 8)))=(((out++[lL x.op])++fH I x.a 2)++fH J x.b 2)++fH M x.n 8++fH O x.m 8:=by simp
 rw[c];obtain⟨E,T⟩:∃E,E=out++[lL x.op]:=⟨_,rfl⟩;rw[<-T];have AK:out.map eh++[D.int .u8 (lL x.op).toNat]=E.map eh:=by rw[T];simp
 have AL:out.length+1=E.length:=by rw[T];simp
 obtain⟨H,y,A3,A4⟩:=tg I E x.a 2 (by omega) (by omega);obtain⟨A5,A',A6,A7⟩:=tg J H x.b 2 (by omega) (by omega);obtain⟨A8,A0,A9,AA⟩:=tg M A5 x.n 8 (by omega) (by omega);obtain⟨AM,A1,AB,AC⟩:=tg O A8 x.m 8 (by omega) (by omega);rw[<-y,<-A',<-A0,<-A1];have AN:E.length<=140737488355328/\E.length<=4611686018427387904:=by omega
 clear y A' A0 A1 U Y Z c A3 A6 A9 AB V T;rw[anS (by simp)];cases I<;>cases J<;>cases M<;>cases O;all_goals
  simp at A4 A7 AA AC;subst_vars
  simp[f64,ay, *]
def gr:Option (Out×List (Nat×aJ))->Option Nat
 |some (.ret (.d (.list l)),[])=>some l.length
 |_=>none
theorem O6{r:Option (Out×List (Nat×aJ))}{n:Nat}(h:gr r=some n):∃l,r=some (.ret (.d (.list l)),[])/\l.length=n:=by
 unfold gr at h;split at h
 ·rename_i l;exact⟨l,rfl,by simpa using h⟩
 ·cases h
theorem gg{f:FuncId}{b:Int}{n:Nat}(h:gr (aW ctx 120 f [.d (.int .i64 b)] [])=some n):∃l:List D,ai ctx f [.d (.int .i64 b)] []=some (.ret (.d (.list l)),[])/\l.length=n:=by
 obtain⟨l,E,H⟩:=O6 h;exact⟨l,bH 120 E,H⟩
theorem ajA:gr (aW ctx 120 75 [.d (.int .i64 10)] [])=some 4:=by kernel_rfl
theorem ajB:gr (aW ctx 120 75 [.d (.int .i64 11)] [])=some 4:=by kernel_rfl
theorem ajC:gr (aW ctx 120 75 [.d (.int .i64 12)] [])=some 6:=by kernel_rfl
theorem ajD:gr (aW ctx 120 75 [.d (.int .i64 13)] [])=some 6:=by kernel_rfl
theorem ajE:gr (aW ctx 120 75 [.d (.int .i64 14)] [])=some 6:=by kernel_rfl
theorem ajF:gr (aW ctx 120 75 [.d (.int .i64 15)] [])=some 3:=by kernel_rfl
theorem ajG:gr (aW ctx 120 75 [.d (.int .i64 16)] [])=some 3:=by kernel_rfl
theorem ajH:gr (aW ctx 120 75 [.d (.int .i64 17)] [])=some 3:=by kernel_rfl
theorem ajI:gr (aW ctx 120 75 [.d (.int .i64 18)] [])=some 3:=by kernel_rfl
theorem ajJ:gr (aW ctx 120 75 [.d (.int .i64 20)] [])=some 4:=by kernel_rfl
theorem ajK:gr (aW ctx 120 75 [.d (.int .i64 21)] [])=some 9:=by kernel_rfl
theorem ajL:gr (aW ctx 120 75 [.d (.int .i64 22)] [])=some 9:=by kernel_rfl
theorem ajM:gr (aW ctx 120 75 [.d (.int .i64 23)] [])=some 9:=by kernel_rfl
theorem ajN:gr (aW ctx 120 75 [.d (.int .i64 24)] [])=some 12:=by kernel_rfl
theorem ajO:gr (aW ctx 120 75 [.d (.int .i64 25)] [])=some 12:=by kernel_rfl
theorem ajP:gr (aW ctx 120 75 [.d (.int .i64 26)] [])=some 12:=by kernel_rfl
theorem ajQ:gr (aW ctx 120 75 [.d (.int .i64 27)] [])=some 10:=by kernel_rfl
theorem ajR:gr (aW ctx 120 75 [.d (.int .i64 28)] [])=some 12:=by kernel_rfl
theorem ajS:gr (aW ctx 120 75 [.d (.int .i64 29)] [])=some 5:=by kernel_rfl
theorem ajT:gr (aW ctx 120 75 [.d (.int .i64 30)] [])=some 6:=by kernel_rfl
theorem ajU:gr (aW ctx 120 75 [.d (.int .i64 31)] [])=some 4:=by kernel_rfl
def ud:List Int:=[10,11,12,13,14,15,16,17,18,20,21,22,23,24,25,26,27,28,29,30,31]
def pf:D->Option Int
 | .agg [.int .i64 k,.str _,.str _,.str _,.int .i64 _]=>some k
 |_=>none
theorem CH{d:D}{k:Int}(h:pf d=some k):∃a b c n,d=.agg [.int .i64 k,.str a,.str b,.str c,.int .i64 n]:=by
 unfold pf at h;split at h
 ·rename_i A2 a b c n;cases h;exact⟨a,b,c,n,rfl⟩
 ·cases h
def Ng:Option (Out×List (Nat×aJ))->Option (List (Option Int))
 |some (.ret (.d (.list l)),[])=>some (l.map pf)
 |_=>none
theorem abm:Ng (aW ctx 120 164 [] [])=some (ud.map some):=by kernel_rfl
theorem UD:∃l:List D,ai ctx 164 [] []=some (.ret (.d (.list l)),[])/\l.map pf=ud.map some:=by
 have h:=abm;generalize Y:aW ctx 120 164 [] []=r at h;unfold Ng at h;split at h
 ·rename_i l;exact⟨l,bH 120 Y,by simpa using h⟩
 ·cases h
theorem UE(d:D)(k b:Int)(J:pf d=some k):ai ctx 166 [.d d,.ptr 0 0 0] [.box [.d (.int .i64 b)]]=some (.ret (.d (.bool (decide (k=b)))),[(0,.box [.d (.int .i64 b)])]):=by
 obtain⟨a,e,c,n,rfl⟩:=CH J;rw[XM (by simp)];simp[f166]
theorem Be(b:Int):∀(rest pre:List D),(∀d∈rest,∃k,pf d=some k/\k≠b)->(pre++rest).length<1000->∀k:Kt,
 aO ctx 165 (.loop (Code.at (bg f165) [1,0,1,0,0])) ⟨19,aD,[(0,true,.d (.list (pre++rest))),(1,true,.fn 166 [.ptr 0 0 0]),(7,true,.d (.int .i64 (pre++rest).length)),(8,true,.d (.int .i64 pre.length))],[⟨0,0,.box [.d (.int .i64 b)]⟩]⟩ k=
  k (.exit 0) ⟨19,aD,[(0,true,.d (.list (pre++rest))),(1,true,.fn 166 [.ptr 0 0 0]),(7,true,.d (.int .i64 (pre++rest).length)),(8,true,.d (.int .i64 (pre++rest).length)),(9,true,.d (.bool false))],[⟨0,0,.box [.d (.int .i64 b)]⟩]⟩
 |[],pre,h,M,k=>by
  rw[ag];simp[f165]
 |d::rest,pre,h,M,k=>by
  obtain⟨T,O,Z⟩:=h d (by simp);have U:=UE d T b O;obtain⟨y,a2,a3,a4,rfl⟩:=CH O;have ih:=Be b rest (pre++[.agg [.int .i64 T,.str y,.str a2,.str a3,.int .i64 a4]]) (λd J=>h d (by simp[J])) (by simpa using M) k;have E:(pre.length:Int)<pre.length+(rest.length+1):=by omega
  have H:IntKind.i64.wrap ((pre.length:Int)+1)=pre.length+1:=aA (by unfold aY;simp at M;omega);simp[Z]at U;rw[ag];simp[f165]at ih⊢;simp[E,H,U,ih]
theorem Yd(b:Int)(I:b∉ud):ai ctx 75 [.d (.int .i64 b)] []=some (.ret (.d (.list [])),[]):=by
 obtain⟨l,M,hm⟩:=UD;have A3:l.length=21:=by have:=aga List.length hm;simpa [ud]using this
 have A':∀d∈l,∃k,pf d=some k/\k≠b:=by
  intro d J;have E:pf d∈l.map pf:=adL J;rw[hm]at E;obtain⟨k,O,he⟩:=acF.1 E;exact⟨k,he.symm,λh=>I (h▸O)⟩
 have V:=Be b l [] A' (by simp;omega);have A0:ai ctx 165 [.d (.list l),.fn 166 [.ptr 0 0 0]] [.box [.d (.int .i64 b)]]=some (.ret (.d (.int .i64 (-1))),[(0,.box [.d (.int .i64 b)])]):=by
  rw[XL (by simp)];simp[f165]at V⊢;simp[V]
 have A1:ai ctx 114 [.d (.int .i64 b)] []=some (.ret (.bh [.d (.agg [.int .i64 0,.str [],.str [],.str [],.int .i64 0]),.d (.bool false)]),[]):=by
  rw[XG (by simp)];simp[f114,M,A0]
 rw[adx (by simp)];simp[f75,A1]
theorem Q6:CD 75 kV:=by
 intro b;by_cases I:b∈ud
 ·simp only[ud,aco,adQ,akp]at I;rcases I with rfl|rfl|rfl|rfl|rfl|rfl|rfl|rfl|rfl|rfl|rfl|rfl|rfl|rfl|rfl|rfl|rfl|rfl|rfl|rfl|rfl
  ·obtain⟨l,E,H⟩:=gg ajA;exact⟨l,E,by rw[H];rfl,by decide⟩
  ·obtain⟨l,E,H⟩:=gg ajB;exact⟨l,E,by rw[H];rfl,by decide⟩
  ·obtain⟨l,E,H⟩:=gg ajC;exact⟨l,E,by rw[H];rfl,by decide⟩
  ·obtain⟨l,E,H⟩:=gg ajD;exact⟨l,E,by rw[H];rfl,by decide⟩
  ·obtain⟨l,E,H⟩:=gg ajE;exact⟨l,E,by rw[H];rfl,by decide⟩
  ·obtain⟨l,E,H⟩:=gg ajF;exact⟨l,E,by rw[H];rfl,by decide⟩
  ·obtain⟨l,E,H⟩:=gg ajG;exact⟨l,E,by rw[H];rfl,by decide⟩
  ·obtain⟨l,E,H⟩:=gg ajH;exact⟨l,E,by rw[H];rfl,by decide⟩
  ·obtain⟨l,E,H⟩:=gg ajI;exact⟨l,E,by rw[H];rfl,by decide⟩
  ·obtain⟨l,E,H⟩:=gg ajJ;exact⟨l,E,by rw[H];rfl,by decide⟩
  ·obtain⟨l,E,H⟩:=gg ajK;exact⟨l,E,by rw[H];rfl,by decide⟩
  ·obtain⟨l,E,H⟩:=gg ajL;exact⟨l,E,by rw[H];rfl,by decide⟩
  ·obtain⟨l,E,H⟩:=gg ajM;exact⟨l,E,by rw[H];rfl,by decide⟩
  ·obtain⟨l,E,H⟩:=gg ajN;exact⟨l,E,by rw[H];rfl,by decide⟩
  ·obtain⟨l,E,H⟩:=gg ajO;exact⟨l,E,by rw[H];rfl,by decide⟩
  ·obtain⟨l,E,H⟩:=gg ajP;exact⟨l,E,by rw[H];rfl,by decide⟩
  ·obtain⟨l,E,H⟩:=gg ajQ;exact⟨l,E,by rw[H];rfl,by decide⟩
  ·obtain⟨l,E,H⟩:=gg ajR;exact⟨l,E,by rw[H];rfl,by decide⟩
  ·obtain⟨l,E,H⟩:=gg ajS;exact⟨l,E,by rw[H];rfl,by decide⟩
  ·obtain⟨l,E,H⟩:=gg ajT;exact⟨l,E,by rw[H];rfl,by decide⟩
  ·obtain⟨l,E,H⟩:=gg ajU;exact⟨l,E,by rw[H];rfl,by decide⟩
 ·refine⟨[],Yd b I,?_,?_⟩
  ·simp only[ud,aco,adQ,akp,akN]at I;simp[kV,I]
  ·simp only[ud,aco,adQ,akp,akN]at I;simp[kV,I]
theorem abn(x:ak):ai ctx 61 [.d (cA x)] []=some (.ret (.d (.bool (!dA x))),[]):=by
 have h:=abj x;rw[anP (by simp)];simp at h;simp[f61,ay,h]
def sH:Nat->List ak->Int
 |_,[]=> -1
 |i,x::r=>if dA x then sH (i+1) r else i
theorem Fi:∀(l:List ak)(i:Nat),0<=sH i l↔l.all dA=false
 |[],i=>by simp[sH]
 |x::r,i=>by
  unfold sH;cases h:dA x with
  |true=>simp[h,Fi r (i+1)]
  |false=>simp[h]
theorem JJ(l:List ak)(I:l.length<=5000)(k:Kt)(R:b7):∀(r:List ak)(i:Nat),l.drop i=r->i+r.length=l.length->
 (if r.all dA=true then (∀Y:Env,k (.exit 0) ⟨19,aD,Y,[]⟩=R)else k .ret ⟨19,aD,[(4,true,.d (.int .i64 (sH i r)))],[]⟩=R)->
 aO ctx 98 (.loop (Code.at (bg f98) [1,0,1,0,0]))
  ⟨19,aD,[(0,true,.d (.list (l.map cA))),(1,true,.fn 61 []),(7,true,.d (.int .i64 l.length)),(8,true,.d (.int .i64 i))],[]⟩ k=R
 |[],i,J,hi,D=>by
  have hi:i=l.length:=by simpa using hi
  subst hi;simp at D;rw[ag];simp[f98,D]
 |x::r,i,J,hi,D=>by
  have M:i<l.length:=by simp at hi;omega
  have O:(i:Int)<l.length:=by omega
  have H:l[i]=x:=by
   have:=aga (·[0]?) J;simp at this;simpa [M]using this
  have U:IntKind.i64.wrap ((i:Int)+1)=(i:Int)+1:=aA (by unfold aY;omega);have E:=abn x;rw[agZ]at D;unfold sH at D;rw[ag];cases T:dA x with
  |true=>
   rw[T]at D E;simp only[ahl,adZ]at D;have ih:=JJ l I k R r (i+1) (by rw[<-akq,J];rfl) (by simp at hi;omega) D;simp at E;simp[f98]at ih⊢;simp[M,O,H,U,E,ih]
  |false=>
   rw[T]at D E;simp at D E;simp[f98];simp[M,O,H,E,D]
theorem Kl(l:List ak)(I:l.length<=5000):ai ctx 60 [.d (.list (l.map cA)),.fn 61 []] []=some (.ret (.d (.bool (!(l.all dA)))),[]):=by
 have V:ai ctx 98 [.d (.list (l.map cA)),.fn 61 []] []=some (.ret (.d (.int .i64 (sH 0 l))),[]):=by
  have h:=λk R D=>JJ l I k R l 0 rfl (by simp) D;rw[an8 (by simp)];simp[f98]at h⊢;rw[h];split
  ·rename_i Z;intro Y;have:¬(0<=sH 0 l):=λhh=>by
    have:=(Fi l 0).1 hh;rw[List.all_eq_false]at this;obtain⟨x,H,c⟩:=this;exact c (Z x H)
   have e:sH 0 l= -1:=by
    have:∀(l:List ak)(i:Nat),sH i l= -1\/0<=sH i l:=by
     intro l;induction l with
     |nil=>intro i;left;rfl
     |cons x r ih=>intro i;unfold sH;split;exact ih _;right;omega
    rcases this l 0 with h|h
    ·exact h
    ·exact absurd h ‹_›
   simp[e]
  ·simp
 rw[anO (by simp)];have hi:=Fi l 0;generalize sH 0 l=z at*;simp[f60,ay,V];cases h:l.all dA<;>simp[h]at hi⊢<;>omega
def lM(l:List ak):List UInt8:=l.flatMap qc
theorem xK:∀l:List ak,(lM l).length<=21*l.length
 |[]=>by simp[lM]
 |x::r=>by
  have U:=abk x;have I:=xK r;unfold lM at I⊢;simp only[List.flatMap_cons,acm,acq];omega
def Ye(c:aJ):Prop:=c=.dead\/∃A6:List D,c=.box (A6.map .d)
theorem JK(l:List ak)(A7:l.length<=5000)(J M2:dk)(U:J.key=150)(I:M2.key=200)(T:List UInt8)(A8:T.length<=200000)(k:Kt)(R:b7)
 (M:∀v v5 E,Ye E->k (.exit 2) ⟨53,aD,[(4,true,.vec 950 v 0 T.length),(38,true,.d (.list (l.map cA))),(39,true,.d (.int .i64 l.length)),(40,true,.d (.int .i64 l.length)),(41,true,.d (.bool false))],[J,M2,⟨500,v5,E⟩,⟨950,v,.vec 1 (T.map eh)⟩]⟩=R):
 ∀(r:List ak)(i:Nat)(out:List UInt8)(v v5:Nat)(E:aJ),Ye E->l.drop i=r->i+r.length=l.length->out++lM r=T->
 aO ctx 24 (.loop (Code.at (bg f24) [1,1,1,1,0,1,0,0]))
  ⟨53,aD,[(4,true,.vec 950 v 0 out.length),(38,true,.d (.list (l.map cA))),(39,true,.d (.int .i64 l.length)),(40,true,.d (.int .i64 i))],[J,M2,⟨500,v5,E⟩,⟨950,v,.vec 1 (out.map eh)⟩]⟩ k=R
 |[],i,out,v,v5,E,A',V,hi,H=>by
  have hi:i=l.length:=by simpa using hi
  subst hi;have H:out=T:=by simpa [lM]using H
  subst H;rw[ag];simp[f24,M _ _ _ A']
 |x::r,i,out,v,v5,E,A',V,hi,H=>by
  have A0:i<l.length:=by simp at hi;omega
  have A9:(i:Int)<l.length:=by omega
  have AA:l[i]=x:=by
   have:=aga (·[0]?) V;simp at this;simpa [A0]using this
  have O:IntKind.i64.wrap ((i:Int)+1)=(i:Int)+1:=aA (by unfold aY;omega);have AJ:out.length<=200000:=by have:=aga List.length H;simp at this;omega
  have A1:=abl out x (by omega);have ih:=λv v5=>JK l A7 J M2 U I T A8 k R M r (i+1) (out++qc x) v v5 (.box [.d (.int .i64 x.op),.d (.int .i64 x.a),.d (.int .i64 x.b),.d (.int .i64 x.n),.d (.int .i64 x.m)]) (.inr ⟨[.int .i64 x.op,.int .i64 x.a,.int .i64 x.b,.int .i64 x.n,.int .i64 x.m],rfl⟩) (by rw[<-akq,V];rfl) (by simp at hi;omega) (by rw[<-H];simp[lM]);generalize out++qc x=AB at*;obtain⟨AK,v1,AL⟩:=J;obtain⟨AM,v2,Y⟩:=M2;simp only at U I;subst U;subst I;simp at A1;simp[f24]at ih;rw[ag];simp[f24];simp[A0,A9,AA,O,A1,ih]
def lN(n:Nat)(vars cells:Int):List UInt8:=(([83,86,67,49]++eD (gL vars) 2)++eD (gL cells) 2)++eD (gL n) 2
def ji(ins:List ak)(vars cells:Int):List UInt8:=lN ins.length vars cells++lM ins
def Fj(b:List UInt8):List UInt8:=b++eD (oJ 65535#16 b).toNat 2
def pB(ins:List ak)(vars cells:Int):List UInt8×Nat:=if (kO kV ins vars cells&&ins.all dA)=true then (Fj (ji ins vars cells),0)else ([],1)
theorem UF(Z:AV)(AC:Z=.ptr 150 1 0)(vars cells:Int)(n:Nat)(cs:List AV)(Y E:aJ)(v2 v5 v:Nat)(k:Kt)(R:b7)
 (M:∀v,k (.exit 0) ⟨53,aD,[(1,true,Z),(4,true,.vec 950 v 0 (lN n vars cells).length),(26,true,.d (.list [.int .i64 vars,.int .i64 cells,.int .i64 n])),(27,true,.d (.int .i64 3)),(28,true,.d (.int .i64 3)),(29,true,.d (.bool false))],[⟨150,1,.box cs⟩,⟨200,v2,Y⟩,⟨500,v5,E⟩,⟨950,v,.vec 1 ((lN n vars cells).map eh)⟩]⟩=R):
 aO ctx 24 (.loop (Code.at (bg f24) [1,1,1,0,1,0,0]))
  ⟨53,aD,[(1,true,Z),(4,true,.vec 950 v 0 4),(26,true,.d (.list [.int .i64 vars,.int .i64 cells,.int .i64 n])),(27,true,.d (.int .i64 3)),(28,true,.d (.int .i64 0))],[⟨150,1,.box cs⟩,⟨200,v2,Y⟩,⟨500,v5,E⟩,⟨950,v,.vec 1 [.int .u8 83,.int .u8 86,.int .u8 67,.int .u8 49]⟩]⟩ k=R:=by
 have q1:=zi [83,86,67,49] (gL vars) 2 (by omega) (by simp);have y:(([83,86,67,49]:List UInt8)++eD (gL vars) 2).length=6:=by simp[iq]
 have q2:=zi ([83,86,67,49]++eD (gL vars) 2) (gL cells) 2 (by omega) (by omega);have AD:((([83,86,67,49]:List UInt8)++eD (gL vars) 2)++eD (gL cells) 2).length=8:=by simp[iq]
 have q3:=zi (([83,86,67,49]++eD (gL vars) 2)++eD (gL cells) 2) (gL n) 2 (by omega) (by omega);have A2:(lN n vars cells).length=10:=by simp[lN,iq]
 have AE:(([83,86,67,49]++eD (gL vars) 2)++eD (gL cells) 2)++eD (gL n) 2=lN n vars cells:=rfl;rw[AE]at q3;have AF:=oL vars;have AG:=oL cells;have AH:=oL n;have O:IntKind.i64.wrap 1=1:=aA (by unfold aY;omega);have A3:IntKind.i64.wrap 2=2:=aA (by unfold aY;omega);have AI:IntKind.i64.wrap 3=3:=aA (by unfold aY;omega);generalize lN n vars cells=AN at*;generalize (([83,86,67,49]++eD (gL vars) 2)++eD (gL cells) 2)=AB at*;rw[AD]at q2 q3;rw[A2]at q3;rw[y]at q1;obtain⟨A4,A5⟩:∃A4,A4=([83,86,67,49]:List UInt8)++eD (gL vars) 2:=⟨_,rfl⟩;rw[<-A5]at q1 q2;rw[<-A5]at y;rw[y]at q2;rw[A2]at M;subst AC;simp at q1 q2 q3;simp[f24];rw[ag];simp[AF,q1,O];rw[ag];simp[AG,O,A3,q2];rw[ag];simp[AH,O,A3,AI,q3];rw[ag];simp[M]
theorem JL(ins:List ak)(vars cells:Int):(ji ins vars cells).length<=10+21*ins.length:=by
 have E:=xK ins;have J:(lN ins.length vars cells).length=10:=by simp[lN,iq]
 unfold ji;simp only[acm];omega
set_option maxHeartbeats 1000000 in
theorem Hc(ins:List ak)(vars cells:Int)(U:ins.length<=5000):ai ctx 24 [.d (vg ins vars cells)] []=
 some (.ret (.bh [.vec 0 0 0 (pB ins vars cells).1.length,.d (.int .i64 (pB ins vars cells).2)]),[(0,.vec 1 ((pB ins vars cells).1.map eh))]):=by
 have D:=Bc kV Q6 ins vars cells U;have I:=Kl ins U;rw[anv (by simp)];unfold pB;cases E:kO kV ins vars cells with
 |false=>
  rw[E]at D;simp at D;simp[f24,ay,D]
 |true=>
  cases J:ins.all dA with
  |false=>
   rw[E]at D;rw[J]at I;simp at D I;simp[f24,ay,D,I]
  |true=>
   rw[E]at D;rw[J]at I;have A4:=JL ins vars cells;have c:=λcs A0 M v2 v5 v k R V=>UF _ rfl vars cells ins.length cs A0 M v2 v5 v k R V;have y:=λA1 M2 E J k R V v v5 M Y=>JK ins U A1 M2 E J (ji ins vars cells) (by omega) k R V ins 0 (lN ins.length vars cells) v v5 M Y rfl (by simp) rfl;have Z:=JE (ji ins vars cells) (by omega);have O:=zi (ji ins vars cells) (oJ 65535#16 (ji ins vars cells)).toNat 2 (by omega) (by omega);have A':IntKind.u64.wrap ((oJ 65535#16 (ji ins vars cells)).toNat:Int)=((oJ 65535#16 (ji ins vars cells)).toNat:Int):=by
    have:=(oJ 65535#16 (ji ins vars cells)).isLt;simp[IntKind.wrap,IntKind.bits,IntKind.signed];omega
   have e:Fj (ji ins vars cells)=ji ins vars cells++eD (oJ 65535#16 (ji ins vars cells)).toNat 2:=rfl;rw[<-e]at O;generalize Fj (ji ins vars cells)=T at*;generalize oJ 65535#16 (ji ins vars cells)=s at*;generalize ji ins vars cells=B at*;generalize lN ins.length vars cells=H at*;simp at D I Z O;simp[f24]at c y;have A2:[0,1,2,3]=List.range' 0 4:=rfl;have A3:[0,1,2]=List.range' 0 3:=rfl;simp[f24,ay,D,I,A2,A3];refine c _ _ _ _ _ _ _ _ (λv=>?_);simp;refine y _ _ rfl rfl _ _ (λv v5 M Y=>?_) _ _ _ (.inl rfl);rcases Y with rfl|⟨A5,rfl⟩
   ·simp[Z,O,A']
   ·simp[Z,O,A']
def DA(b:List UInt8):Nat:=(b[b.length-2]?.getD 0).toNat*256+(b[b.length-1]?.getD 0).toNat
def fI(b:List UInt8):List UInt8×Nat:=
 if 131072<b.length then ([],13)
 else if b.length<2\/(oJ 65535#16 (b.take (b.length-2))).toNat≠DA b then ([],6)
 else if b.length<6\/b.take 4≠[83,86,67,49]then ([],5)
 else ((b.take (b.length-2)).drop 4,0)
theorem ajV(b:List UInt8)(h:2<=b.length):∃t x y,b=t++[x,y]:=by
 refine⟨b.take (b.length-2),b[b.length-2],b[b.length-1],?_⟩;have D:b.drop (b.length-2)=[b[b.length-2],b[b.length-1]]:=by
  rw[ajw (by omega),ajw (by omega)];have e:b.length-2+1=b.length-1:=by omega
  simp only[e];rw[List.drop_of_length_le (by omega)]
 have:=agA (b.length-2) b;rw[D]at this;exact this.symm
theorem auJ(x y:UInt8):IntKind.u16.wrap ((((IntKind.u16.wrap ((x.toNat:Int)*256)%65536).toNat ||| (IntKind.u16.wrap (y.toNat:Int)%65536).toNat:Nat)):Int)=((x.toNat*256+y.toNat:Nat):Int):=by
 have J:=x.toNat_lt;have AK:=y.toNat_lt;have Z:IntKind.u16.wrap ((x.toNat:Int)*256)=((x.toNat*256:Nat):Int):=by simp[IntKind.wrap,IntKind.bits,IntKind.signed];omega
 have AC:IntKind.u16.wrap (y.toNat:Int)=(y.toNat:Int):=by simp[IntKind.wrap,IntKind.bits,IntKind.signed];omega
 have AL:(((x.toNat*256:Nat):Int)%65536).toNat=x.toNat*256:=by omega
 have AM:(((y.toNat:Nat):Int)%65536).toNat=y.toNat:=by omega
 rw[Z,AC,AL,AM];have h:=Nat.shiftLeft_add_eq_or_of_lt (show y.toNat<2^8 by omega) x.toNat;rw[Nat.shiftLeft_eq]at h;rw[show x.toNat*256=x.toNat*2^8 by omega,<-h];simp[IntKind.wrap,IntKind.bits,IntKind.signed];omega
set_option maxHeartbeats 1000000 in
theorem Hd(b:List UInt8)(AV:b.length<=900000):ai ctx 57 [.d (.list (b.map eh))] []=some (.ret (.bh [.d (.list ((fI b).1.map eh)),.d (.int .i64 (fI b).2)]),[]):=by
 have AD:IntKind.i64.wrap ((b.length:Int)-2)=(b.length:Int)-2:=aA (by unfold aY;omega);rw[anM (by simp)];unfold fI;by_cases D:131072<b.length
 ·have E:(131072:Int)<b.length:=by omega
  simp[f57,ay,AD,D,E]
 have E:¬(131072:Int)<b.length:=by omega
 by_cases AN:b.length<2
 ·have AO:(b.length:Int)-2<0:=by omega
  simp[f57,ay,AD,D,E,AN,AO]
 obtain⟨n,AW⟩:∃n,b.length=n+2:=⟨b.length-2,by omega⟩;have M:=JE (b.take n) (by simp;omega);have Z:b.length-2=n:=by omega
 have AC:b.length-1=n+1:=by omega
 have J:n<b.length:=by omega
 have O:n+1<b.length:=by omega
 have A':(n:Int)<b.length:=by omega
 have A0:(n:Int)+1<b.length:=by omega
 obtain⟨x,T⟩:∃x,x=b[n]:=⟨_,rfl⟩;obtain⟨y,U⟩:∃y,y=b[n+1]:=⟨_,rfl⟩;have AP:DA b=x.toNat*256+y.toNat:=by
  unfold DA;rw[Z,AC,adK J,adK O,T,U];rfl
 rw[Z,AP];have V:=auJ x y;have AK:=y.toNat_lt;have A1:IntKind.u16.wrap (x.toNat:Int)=(x.toNat:Int):=by have:=x.toNat_lt;simp[IntKind.wrap,IntKind.bits,IntKind.signed];omega
 have Y:IntKind.u16.wrap (y.toNat:Int)=(y.toNat:Int):=by simp[IntKind.wrap,IntKind.bits,IntKind.signed];omega
 have A2:y.toNat%65536=y.toNat:=by omega
 rw[Y]at V;have AQ:((y.toNat:Int)%65536).toNat=y.toNat:=by omega
 rw[AQ]at V;have A3:IntKind.bits .u16=16:=rfl;have A4:IntKind.i64.wrap ((n:Int)+1)=(n:Int)+1:=aA (by unfold aY;omega);have A5:IntKind.i64.wrap ((b.length:Int)-2)=(n:Int):=by rw[AD];omega
 have A6:¬(n:Int)<0:=by omega
 have A7:((n:Int)+1).toNat=n+1:=by omega
 have A8:(0:Int)<=(n:Int)+1:=by omega
 have hle:n<=b.length:=by omega
 have A9:(byteOf∘eh)=id:=by funext c;simp[byteOf]
 have AR:∀k:Nat,∀d∈List.take k (List.map eh b),d.isByte=true:=λk d AS=>by
  have:=ad1 AS;simp only[acF]at this;obtain⟨c,_,rfl⟩:=this;rfl
 have AF:(∀d∈List.take 4 (List.map eh b),d.isByte=true)=True:=eq_true (AR 4);have AE:(x.toNat:Int)*256+(y.toNat:Int)=IntKind.u16.wrap ((((IntKind.u16.wrap ((x.toNat:Int)*256)%65536).toNat ||| y.toNat:Nat)):Int):=by rw[V];simp
 generalize (oJ 65535#16 (b.take n))=s at*;simp at M;simp only[D,adY];have AT:(b.length<2\/s.toNat≠x.toNat*256+y.toNat)↔¬s.toNat=x.toNat*256+y.toNat:=by omega
 have AU:(b.length<6\/b.take 4≠[83,86,67,49])↔¬(4<=n/\b.take 4=[83,86,67,49]):=by
  constructor
  ·rintro (h|h) ⟨AG,H⟩
   ·omega
   ·exact h H
  ·intro h;by_cases AG:b.length<6
   ·exact .inl AG
   ·exact .inr λH=>h ⟨by omega,H⟩
 simp only[AT,AU];by_cases AA:s.toNat=x.toNat*256+y.toNat;rotate_left
 ·have I:¬((s.toNat:Int)=((x.toNat*256+y.toNat:Nat):Int)):=by omega
  rw[<-V]at I;simp[f57,ay,A4,A5,A6,D,E,M,A3,A1,Y,A2,J,O,A',A0,<-T,<-U,A7,A8,hle,A9,AA,I]
 have I:((s.toNat:Int)=((x.toNat*256+y.toNat:Nat):Int)):=by omega
 rw[<-V]at I;by_cases H:4<=n
 ·have AB:(4:Int)<=n:=by omega
  have AH:¬(n:Int)<4:=by omega
  have AI:4<=b.length:=by omega
  by_cases AJ:b.take 4=[83,86,67,49]
  ·simp[f57,ay,A4,A5,A6,D,E,M,A3,A1,Y,A2,J,O,A',A0,<-T,<-U,A7,A8,hle,A9,AA,I,H,AB,AH,AI,AJ,AF,<-AE]
  ·simp[f57,ay,A4,A5,A6,D,E,M,A3,A1,Y,A2,J,O,A',A0,<-T,<-U,A7,A8,hle,A9,AA,I,H,AB,AH,AI,AJ,AF,<-AE]
 ·have AB:(n:Int)<4:=by omega
  simp[f57,ay,A4,A5,A6,D,E,M,A3,A1,Y,A2,J,O,A',A0,<-T,<-U,A7,A8,hle,A9,AA,I,H,AB,<-AE]
def qd(l:List UInt8):Nat:=l.foldl (λn x=>n*256+x.toNat) 0
theorem Q8:∀(l:List UInt8)(n k:Nat),n<256^k->l.foldl (λn x=>n*256+x.toNat) n<256^(k+l.length)
 |[],n,k,h=>h
 |x::r,n,k,h=>by
  have E:=x.toNat_lt;have T:n*256+x.toNat<256^(k+1):=by
   rw[Nat.pow_succ];have:(n+1)*256<=256^k*256:=adA _ h;omega
  have:=Q8 r _ _ T;simp only[af1,acq];rw[show k+(r.length+1)=k+1+r.length by omega];exact this
theorem DB(l:List UInt8):qd l<256^l.length:=by
 have:=Q8 l 0 0 (by simp);simpa [qd]using this
@[simp] def n7(l:List UInt8)(e:Int):aJ:=.box [.d (.list (l.map eh)),.d (.int .i64 e)]
theorem auL(n:Nat)(x:UInt8)(H:n<72057594037927936):IntKind.u64.wrap ((((IntKind.u64.wrap ((n:Int)*256)%18446744073709551616).toNat ||| x.toNat:Nat)):Int)=((n*256+x.toNat:Nat):Int):=by
 have E:=x.toNat_lt;have U:IntKind.u64.wrap ((n:Int)*256)=((n*256:Nat):Int):=by simp[IntKind.wrap,IntKind.bits,IntKind.signed];omega
 have V:(((n*256:Nat):Int)%18446744073709551616).toNat=n*256:=by omega
 rw[U,V];have h:=Nat.shiftLeft_add_eq_or_of_lt (show x.toNat<2^8 by omega) n;rw[Nat.shiftLeft_eq]at h;rw[show n*256=n*2^8 by omega,<-h];simp[IntKind.wrap,IntKind.bits,IntKind.signed];omega
theorem He(l:List UInt8)(Y:l.length<=8)(s:Int)(I:aJ)(k:Kt)(R:b7)(M:k (.exit 0) ⟨57,aD,[(0,true,.ptr 0 0 0),(1,true,.d (.int .i64 s)),(5,true,.d (.int .u64 (qd l))),(35,true,.d (.list (l.map eh))),(36,true,.d (.int .i64 l.length)),(37,true,.d (.int .i64 l.length)),(38,true,.d (.bool false))],[⟨0,0,I⟩]⟩=R):
 ∀(r:List UInt8)(i n:Nat),l.drop i=r->i+r.length=l.length->n<256^i->r.foldl (λn x=>n*256+x.toNat) n=qd l->
 aO ctx 58 (.loop (Code.at (bg f58) [1,1,1,1,0,1,0,0])) ⟨57,aD,[(0,true,.ptr 0 0 0),(1,true,.d (.int .i64 s)),(5,true,.d (.int .u64 n)),(35,true,.d (.list (l.map eh))),(36,true,.d (.int .i64 l.length)),(37,true,.d (.int .i64 i))],[⟨0,0,I⟩]⟩ k=R
 |[],i,n,J,hi,H,D=>by
  have hi:i=l.length:=by simpa using hi
  subst hi;simp at D;subst D;rw[ag];simp[f58,M]
 |x::r,i,n,J,hi,H,D=>by
  have O:i<l.length:=by simp at hi;omega
  have Z:(i:Int)<l.length:=by omega
  have E:l[i]=x:=by
   have:=aga (·[0]?) J;simp at this;simpa [O]using this
  have A3:=x.toNat_lt;have c:IntKind.i64.wrap ((i:Int)+1)=(i:Int)+1:=aA (by unfold aY;omega);have y:n<72057594037927936:=by
   have:256^i<=256^7:=apl (by omega) (by omega);have e:(256:Nat)^7=72057594037927936:=by decide
   omega
  have A':n*256+x.toNat<256^(i+1):=by
   rw[Nat.pow_succ];have:(n+1)*256<=256^i*256:=adA _ H;omega
  have ih:=He l Y s I k R M r (i+1) (n*256+x.toNat) (by rw[<-akq,J];rfl) (by simp at hi;omega) A' D;have A0:=auL n x y;have A1:IntKind.u64.wrap (x.toNat:Int)=(x.toNat:Int):=by simp[IntKind.wrap,IntKind.bits,IntKind.signed];omega
  have A2:IntKind.bits .u64=64:=rfl;have hm:x.toNat%18446744073709551616=x.toNat:=by omega
  rw[ag];simp[f58]at ih;simp[f58];simp[O,Z,E,c,A2,A1,hm,A0,ih];done
theorem abo(l:List UInt8)(s:Nat)(U:s<=8)(E:s<=l.length)(H:l.length<=900000):ai ctx 58 [.ptr 0 0 0,.d (.int .i64 s)] [n7 l 0]=some (.ret (.d (.int .u64 (qd (l.take s)))),[(0,n7 (l.drop s) 0)]):=by
 have h:=λAF k R AG=>He (l.take s) (by simp;omega) s AF k R AG (l.take s) 0 0 rfl (by simp) (by simp) rfl;have AH:(l.take s).length=s:=by simp;omega
 have A3:¬((l.length:Int)<s):=by omega
 have A4:(s:Int)<=l.length:=by omega
 generalize qd (l.take s)=z at*;rw[AH]at h;rw[Us (by simp)];simp[f58]at h;have AI:min s l.length=s:=by omega
 simp[f58,A3,A4,E,AI];rw[h];simp[A4,E]
theorem O7(l:List UInt8)(s:Nat)(E:l.length<s):ai ctx 58 [.ptr 0 0 0,.d (.int .i64 s)] [n7 l 0]=some (.ret (.d (.int .u64 0)),[(0,n7 l 4)]):=by
 have A3:((l.length:Int)<s):=by omega
 rw[Us (by simp)];simp[f58,A3]
theorem Yh(l:List UInt8)(s:Nat)(e:Int)(he:e≠0):ai ctx 58 [.ptr 0 0 0,.d (.int .i64 s)] [n7 l e]=some (.ret (.d (.int .u64 0)),[(0,n7 l e)]):=by
 rw[Us (by simp)];simp[f58,he]
def bU(s:Nat)(p:List UInt8×Nat):Nat×(List UInt8×Nat):=if p.2=0 then (if p.1.length<s then (0,(p.1,4))else (qd (p.1.take s),(p.1.drop s,0)))else (0,p)
theorem xL(p:List UInt8×Nat)(s:Nat)(U:s<=8)(H:p.1.length<=900000):ai ctx 58 [.ptr 0 0 0,.d (.int .i64 s)] [n7 p.1 p.2]=some (.ret (.d (.int .u64 (bU s p).1)),[(0,n7 (bU s p).2.1 (bU s p).2.2)]):=by
 obtain⟨l,e⟩:=p;unfold bU;by_cases he:e=0
 ·subst he;by_cases E:l.length<s
  ·have:=O7 l s E;simpa [E]using this
  ·have:=abo l s U (by omega) H;simpa [E]using this
 ·have:=Yh l s e (by omega);simpa [he]using this
theorem je(s:Nat)(p:List UInt8×Nat):(bU s p).2.1.length<=p.1.length:=by
 unfold bU;split
 ·split
  ·simp
  ·simp
 ·simp
theorem abp(s:Nat)(p:List UInt8×Nat)(U:s<=8):(bU s p).1<18446744073709551616:=by
 unfold bU;split
 ·split
  ·simp
  ·have h:=DB (p.1.take s);have A4:(256:Nat)^(p.1.take s).length<=256^8:=apl (by omega) (by simp;omega);have e:(256:Nat)^8=18446744073709551616:=by decide
   simp only
   omega
 ·simp
def kW(b:Bool)(s:Nat)(p:List UInt8×Nat):Nat×(List UInt8×Nat):=if b then bU s p else (0,p)
def dp(n:Nat):Int:=IntKind.i64.wrap n
def pZ(p:List UInt8×Nat)(op:Int):List UInt8×Nat:=if p.2=0/\lg op=false then (p.1,5)else p
theorem ue(b:Bool)(s:Nat)(q0:List UInt8)(I:Nat)(U:s<=8)(H:q0.length<=900000):∃n q e,kW b s (q0,I)=(n,(q,e))/\q.length<=q0.length/\
 (b=true->ai ctx 58 [.ptr 0 0 0,.d (.int .i64 s)] [n7 q0 I]=some (.ret (.d (.int .u64 n)),[(0,n7 q e)]))/\(b=false->n=0/\q=q0/\e=I):=by
 have h:=xL (q0,I) s U H;have E:=je s (q0,I);cases b with
 |false=>exact⟨0,q0,I,rfl,ack _,λh=>by (cases h),λ_=>⟨rfl,rfl,rfl⟩⟩
 |true=>exact⟨_,_,_,rfl,E,λ_=>h,λh=>by (cases h)⟩
def mL(p:List UInt8×Nat):ak×(List UInt8×Nat):=
 let t0:=bU 1 p
 let V:=kW (jP (dp t0.1)) 2 (pZ t0.2 (dp t0.1))
 let tb:=kW (hasB (dp t0.1)) 2 V.2
 let Y:=kW (kQ (dp t0.1)) 8 tb.2
 let Z:=kW (kR (dp t0.1)) 8 Y.2
 (⟨dp t0.1,dp V.1,dp tb.1,dp Y.1,dp Z.1⟩,Z.2)
set_option maxHeartbeats 2000000 in
theorem aeQ(p:List UInt8×Nat)(H:p.1.length<=900000):ai ctx 59 [.ptr 0 0 0] [n7 p.1 p.2]=some (.ret (.d (cA (mL p).1)),[(0,n7 (mL p).2.1 (mL p).2.2)]):=by
 obtain⟨q,e⟩:=p;obtain⟨D,q0,c,t0,AJ,A5,_⟩:=ue true 1 q e (by omega) H;have t0:bU 1 (q,e)=(D,(q0,c)):=t0;have A5:=A5 rfl;unfold mL;rw[t0];simp only
 have hh:=Iq (dp D);obtain⟨e1',y⟩:∃e1',pZ (q0,c) (dp D)=(q0,e1')/\e1'=if c=0/\lg (dp D)=false then 5 else c:=by unfold pZ;split<;>exact⟨_,rfl,rfl⟩
 obtain⟨y,A'⟩:=y;rw[y];simp only at H;obtain⟨A8,AK,AL,V,AM,J,G1⟩:=ue (jP (dp D)) 2 q0 e1' (by omega) (by omega);rw[V];obtain⟨A9,AN,AO,tb,AP,M,A0⟩:=ue (hasB (dp D)) 2 AK AL (by omega) (by omega);rw[tb];obtain⟨nn,AQ,AR,Y,AS,O,A1⟩:=ue (kQ (dp D)) 8 AN AO (by omega) (by omega);rw[Y];obtain⟨AA,AV,AW,Z,AT,T,A2⟩:=ue (kR (dp D)) 8 AQ AR (by omega) (by omega);rw[Z];simp only
 have AX:IntKind.i64.wrap (D:Int)=dp D:=rfl;have AY:IntKind.i64.wrap (A8:Int)=dp A8:=rfl;have AZ:IntKind.i64.wrap (A9:Int)=dp A9:=rfl;have A_:IntKind.i64.wrap (nn:Int)=dp nn:=rfl;have Aa:IntKind.i64.wrap (AA:Int)=dp AA:=rfl;have Ab:dp 0=0:=rfl;generalize jP (dp D)=AB at*;generalize hasB (dp D)=AC at*;generalize kQ (dp D)=AD at*;generalize kR (dp D)=AE at*;generalize lg (dp D)=A6 at*;clear AJ AM AP AS AT H t0 y V tb Y Z;rw[anN (by simp)];simp at A5;by_cases A7:c=0/\A6=false
 ·rw[acs A7]at A';subst A';cases AB<;>cases AC<;>cases AD<;>cases AE;all_goals
   (try (obtain⟨rfl,rfl,rfl⟩:=G1 rfl))
   (try (obtain⟨rfl,rfl,rfl⟩:=A0 rfl))
   (try (obtain⟨rfl,rfl,rfl⟩:=A1 rfl))
   (try (obtain⟨rfl,rfl,rfl⟩:=A2 rfl))
   (try (replace J:=J rfl;simp at J))
   (try (replace M:=M rfl;simp at M))
   (try (replace O:=O rfl;simp at O))
   (try (replace T:=T rfl;simp at T))
   clear G1 A0 A1 A2;simp[f59,ay, *]
 ·rw[ach A7]at A';subst A';have Ac:e1'=0->A6=true:=λh=>by
   cases AU:A6 with
   |true=>rfl
   |false=>exact absurd ⟨h,AU⟩ A7
  cases AB<;>cases AC<;>cases AD<;>cases AE;all_goals
   (try (obtain⟨rfl,rfl,rfl⟩:=G1 rfl))
   (try (obtain⟨rfl,rfl,rfl⟩:=A0 rfl))
   (try (obtain⟨rfl,rfl,rfl⟩:=A1 rfl))
   (try (obtain⟨rfl,rfl,rfl⟩:=A2 rfl))
   (try (replace J:=J rfl;simp at J))
   (try (replace M:=M rfl;simp at M))
   (try (replace O:=O rfl;simp at O))
   (try (replace T:=T rfl;simp at T))
   clear G1 A0 A1 A2;simp[f59,ay, *]
def gS:Nat->List UInt8×Nat->List ak->List ak×(List UInt8×Nat)
 |0,p,D=>(D,p)
 |n+1,p,D=>if p.2=0 then gS n (mL p).2 (D++[(mL p).1])else (D,p)
theorem uf(b:Bool)(s:Nat)(p:List UInt8×Nat):(kW b s p).2.1.length<=p.1.length:=by
 unfold kW;split;exact je s p;simp
theorem abq(p:List UInt8×Nat):(mL p).2.1.length<=p.1.length:=by
 unfold mL;simp only
 refine agQ (uf _ _ _) (agQ (uf _ _ _) (agQ (uf _ _ _) (agQ (uf _ _ _) ?_)));have:∀(q:List UInt8×Nat)(op:Int),(pZ q op).1=q.1:=by intro q op;unfold pZ;split<;>rfl
 rw[this];exact je 1 p
set_option maxHeartbeats 1000000 in
theorem Hf(I:aJ)(vars cells:Int)(k:Kt)(R:b7)(T:List ak×(List UInt8×Nat))(N:Nat)(O:N<=70000)
 (H:∀v (n:Int) (X:Env),k (.exit 0) ⟨74,aD,[(2,true,.ptr 200 1 0),(6,true,.ptr 1100 1 0),(7,true,.ptr 450 1 0),(8,true,.d (.int .i64 n))]++X,[⟨200,1,I⟩,⟨450,1,.box [.vec 451 v 0 T.1.length,.d (.int .i64 vars),.d (.int .i64 cells)]⟩,⟨451,v,.vec 5 (T.1.map cA)⟩,⟨1100,1,n7 T.2.1 T.2.2⟩]⟩=R):
 ∀(n:Nat)(p:List UInt8×Nat)(D:List ak)(v:Nat),p.1.length<=900000->D.length+n<=N->gS n p D=T->
 aO ctx 23 (.loop (Code.at (bg f23) [1,1,1,1,1,0,1,0,0]))
  ⟨74,aD,[(2,true,.ptr 200 1 0),(6,true,.ptr 1100 1 0),(7,true,.ptr 450 1 0),(8,true,.d (.int .i64 n))],[⟨200,1,I⟩,⟨450,1,.box [.vec 451 v 0 D.length,.d (.int .i64 vars),.d (.int .i64 cells)]⟩,⟨451,v,.vec 5 (D.map cA)⟩,⟨1100,1,n7 p.1 p.2⟩]⟩ k=R
 |0,p,D,v,J,U,E=>by
  have E:(D,p)=T:=E;subst E;have H:=H v;simp at H;rw[ag];simp[f23,H]
 |n+1,p,D,v,J,U,E=>by
  unfold gS at E;obtain⟨l,e⟩:=p;simp only at E J;have M:(0:Int)<(n:Int)+1:=by omega
  have V:IntKind.i64.wrap ((n:Int))=(n:Int):=aA (by unfold aY;omega);by_cases he:e=0
  ·subst he;rw[acs rfl]at E;have hi:=aeQ (l,0) J;have Y:=abq (l,0);generalize mL (l,0)=Z at*;obtain⟨x,q,c⟩:=Z;simp only at E hi Y;have ih:=λv=>Hf I vars cells k R T N O H n (q,c) (D++[x]) v (by simp only;omega) (by simp;omega) E;have g1:(D.length+1)*40<=140737488355328/\D.length<=4611686018427387903:=by omega
   simp at hi;simp[f23]at ih;rw[ag];simp[f23];simp[M,V,hi,g1,ay,ih];done
  ·rw[ach he]at E;subst E;have H:=λv n=>H v n [(39,true,.d (.bool false))];simp at H;rw[ag];simp[f23];simp[M,he,H];done
theorem abr(b:List UInt8)(E:b.length<=900000)(e:Nat)(he:e≠0)(h:fI b=([],e)):ai ctx 23 [.d (.list (b.map eh))] []=some (.ret (.bh [.d (vg [] 0 0),.d (.int .i64 e)]),[]):=by
 have D:=Hd b E;rw[h]at D;have H:¬((e:Int)=0):=by omega
 rw[adv (by simp)];simp at D;simp[f23,ay,D,he,H]
theorem Nj{s:Nat}{p:List UInt8×Nat}(h:(bU s p).2.2=0):p.2=0/\(bU s p).2.1.length+s=p.1.length:=by
 unfold bU at h⊢;by_cases D:p.2=0
 ·rw[acs D]at h⊢;by_cases E:p.1.length<s
  ·rw[acs E]at h;simp at h
  ·rw[ach E];exact⟨D,by simp;omega⟩
 ·rw[ach D]at h;exact absurd h D
theorem AD{b:Bool}{s:Nat}{p:List UInt8×Nat}(h:(kW b s p).2.2=0):p.2=0/\(kW b s p).2.1.length<=p.1.length:=by
 refine⟨?_,uf b s p⟩;unfold kW at h;split at h
 ·exact (Nj h).1
 ·exact h
theorem aeR{p:List UInt8×Nat}(h:(mL p).2.2=0):(mL p).2.1.length+1<=p.1.length:=by
 unfold mL at h⊢;simp only at h⊢;have A7:=AD h;have A':=AD A7.1;have E:=AD A'.1;have D:=AD E.1;have AG:∀(q:List UInt8×Nat)(op:Int),(pZ q op).2=0->q.2=0/\(pZ q op).1=q.1:=by
  intro q op J;unfold pZ at J⊢;split at J
  ·simp at J
  ·rename_i H;rw[ach H];exact⟨J,rfl⟩
 have I:=AG _ _ D.1;have AR:=Nj I.1;have AH:=D.2;rw[I.2]at AH;omega
theorem CI:∀(n:Nat)(p:List UInt8×Nat)(M:List ak),(gS n p M).2.2=0->p.2=0/\(gS n p M).1.length+(gS n p M).2.1.length<=M.length+p.1.length
 |0,p,M,h=>⟨h,ack _⟩
 |n+1,p,M,h=>by
  unfold gS at h⊢;by_cases he:p.2=0
  ·rw[acs he]at h⊢;obtain⟨D,E⟩:=CI n _ _ h;have A':=aeR D;refine⟨he,?_⟩;simp only[acm,af0]at E;omega
  ·rw[ach he]at h;exact absurd h he
def iU(b:List UInt8):List ak×Int×Int×Nat:=
 if (fI b).2≠0 then ([],0,0,(fI b).2)else
 let t1:=bU 2 ((fI b).1,0)
 let t2:=bU 2 t1.2
 let t3:=bU 2 t2.2
 let r:=gS t3.1 t3.2 []
 if r.2.2≠0 then ([],0,0,r.2.2)else if r.2.1≠[]then ([],0,0,5)else if kO kV r.1 (dp t1.1) (dp t2.1)=false then ([],0,0,1)else (r.1,dp t1.1,dp t2.1,0)
theorem CJ(b:List UInt8):(fI b).1.length<=b.length:=by
 unfold fI;split
 ·simp
 ·split
  ·simp
  ·split
   ·simp
   ·simp;omega
theorem Yi{b:List UInt8}(h:(fI b).2≠0):fI b=([],(fI b).2):=by
 unfold fI at h⊢;split
 ·rfl
 ·rename_i D;rw[ach D]at h;split
  ·rfl
  ·rename_i E;rw[ach E]at h;split
   ·rfl
   ·rename_i A';rw[ach A']at h;simp at h
set_option maxHeartbeats 1000000 in
theorem Nk(b:List UInt8)(AI:b.length<=900000)(A2:(gS (bU 2 (bU 2 (bU 2 ((fI b).1,0)).2).2).1 (bU 2 (bU 2 (bU 2 ((fI b).1,0)).2).2).2 []).2.2=0->(gS (bU 2 (bU 2 (bU 2 ((fI b).1,0)).2).2).1 (bU 2 (bU 2 (bU 2 ((fI b).1,0)).2).2).2 []).1.length<=5000):ai ctx 23 [.d (.list (b.map eh))] []=some (.ret (.bh [.d (vg (iU b).1 (iU b).2.1 (iU b).2.2.1),.d (.int .i64 (iU b).2.2.2)]),[]):=by
 unfold iU;by_cases I:(fI b).2=0;rotate_left
 ·rw[acs I];exact abr b (by omega) _ I (Yi I)
 rw[ach (λh=>h I)];simp only
 have O:=Hd b (by omega);have AS:=CJ b;rw[I]at O;generalize (fI b).1=l at*;have U:=xL (l,0) 2 (by omega) (by simp only;omega);have AJ:=je 2 (l,0);have AK:=abp 2 (l,0) (by omega);generalize bU 2 (l,0)=t1 at*;obtain⟨A0,A8,A9⟩:=t1;simp only at U AJ AK⊢;have V:=xL (A8,A9) 2 (by omega) (by simp only;omega);have AL:=je 2 (A8,A9);generalize bU 2 (A8,A9)=t2 at*;obtain⟨A1,Y,A3⟩:=t2;simp only at V AL⊢;have Z:=xL (Y,A3) 2 (by omega) (by simp only;omega);have AM:=je 2 (Y,A3);have AN:(bU 2 (Y,A3)).1<65536:=by
  unfold bU;split
  ·split
   ·simp
   ·have h:=DB (Y.take 2);have E:(256:Nat)^(Y.take 2).length<=256^2:=apl (by omega) (by simp;omega);have e:(256:Nat)^2=65536:=by decide
    simp only
    omega
  ·simp
 generalize bU 2 (Y,A3)=t3 at*;obtain⟨c,AA,AB⟩:=t3;simp only at Z AM AN⊢;have y:=λk R AO v=>Hf (.box [.lit (.slice none 0 0),.d (.int .i64 0),.d (.int .i64 0)]) (dp A0) (dp A1) k R (gS c (AA,AB) []) c (by omega) AO c (AA,AB) [] v (by simp only;omega) (by simp) rfl;generalize gS c (AA,AB) []=T at*;obtain⟨ins,AE,AF⟩:=T;simp only at y A2⊢;have A4:IntKind.i64.wrap (A0:Int)=dp A0:=rfl;have A5:IntKind.i64.wrap (A1:Int)=dp A1:=rfl;have A6:IntKind.i64.wrap (c:Int)=(c:Int):=aA (by unfold aY;omega);simp at O U V Z;simp[f23]at y;rw[adv (by simp)];by_cases he:AF=0;rotate_left
 ·have AP:¬((AF:Int)=0):=by omega
  simp[f23,ay,O,U,V,Z,A4,A5,A6,he];refine y _ _ (λv n X=>?_) _;simp[ay,he,AP];done
 subst he;have A2:=A2 rfl;have H:=Bc kV Q6 ins (dp A0) (dp A1) (by omega);by_cases AC:AE=[];rotate_left
 ·have AQ:0<AE.length:=List.length_pos_iff.2 AC;simp[f23,ay,O,U,V,Z,A4,A5,A6,AC];refine y _ _ (λv n X=>?_) _;simp[ay,AQ];done
 subst AC;cases J:kO kV ins (dp A0) (dp A1)with
 |false=>
  rw[J]at H;simp at H;simp[f23,ay,O,U,V,Z,A4,A5,A6];refine y _ _ (λv n X=>?_) _;simp[ay,H];done
 |true=>
  rw[J]at H;simp at H;simp[f23,ay,O,U,V,Z,A4,A5,A6];refine y _ _ (λv n X=>?_) _;simp[ay,H];done
theorem abt(b:List UInt8)(AI:b.length<=4000):ai ctx 23 [.d (.list (b.map eh))] []=some (.ret (.bh [.d (vg (iU b).1 (iU b).2.1 (iU b).2.2.1),.d (.int .i64 (iU b).2.2.2)]),[]):=by
 refine Nk b (by omega) (λh=>?_);have D:=(CI _ _ _ h).2;have E:=je 2 (bU 2 (bU 2 ((fI b).1,0)).2).2;have A':=je 2 (bU 2 ((fI b).1,0)).2;have A7:=je 2 ((fI b).1,0);have A2:=CJ b;simp only[acw]at D A7;omega
end Go.Am
end
section
namespace Go.Am
open Go Go.Proofs
variable [Inhabited b9]
set_option maxRecDepth 20000
theorem JM(n:Nat):∀(s D:Nat),(eD n s).foldl (λn x=>n*256+x.toNat) D=D*256^s+n%256^s
 |0,D=>by simp[eD,Nat.mod_one]
 |s+1,D=>by
  have e:(2:Nat)^(8*s)=256^s:=by rw[Nat.pow_mul]
  simp only[eD,af1];rw[JM n s,e];have E:(UInt8.ofNat (n/256^s)).toNat=n/256^s%256:=by simp
  rw[E,Nat.pow_succ,Nat.mod_mul,afS,Nat.mul_assoc,ajX 256 (256^s),ajX (n/256^s%256)];omega
theorem Yj{n s:Nat}(h:n<256^s):qd (eD n s)=n:=by
 unfold qd;rw[JM,Nat.mod_eq_of_lt h];omega
theorem fold_eq:∀(l:List UInt8)(D:Nat),l.foldl (λn x=>n*256+x.toNat) D=D*256^l.length+qd l
 |[],D=>by simp[qd]
 |x::r,D=>by
  unfold qd;simp only[af1,acq];rw[fold_eq r,fold_eq r (0*256+x.toNat),Nat.pow_succ,afS,Nat.mul_assoc,ajX 256 (256^r.length)];simp only[Nat.zero_mul,aeh];omega
theorem JN:∀(l:List UInt8)(D:Nat),eD (l.foldl (λn x=>n*256+x.toNat) D) l.length=l
 |[],D=>rfl
 |x::r,D=>by
  have e:(2:Nat)^(8*r.length)=256^r.length:=by rw[Nat.pow_mul]
  simp only[af1,acq,eD];rw[JN r,e];congr 1;rw[fold_eq,ajX,Nat.mul_add_div (Nat.pos_of_ne_zero (by simp)),Nat.div_eq_of_lt (DB r)];have Y:=x.toNat_lt;apply UInt8.toNat_inj.1;simp
theorem JO(l:List UInt8):eD (qd l) l.length=l:=JN l 0
theorem oM{n s:Nat}{r:List UInt8}(h:n<256^s):bU s (eD n s++r,0)=(n,(r,0)):=by
 unfold bU;rw[acs rfl,ach (by simp[iq])];rw[agN (by rw[iq];omega),ahh (by rw[iq];omega),Yj h,List.drop_append_of_le_length (by rw[iq];omega),List.drop_of_length_le (by rw[iq];omega)];simp
theorem Yk{z:Int}(h:aY z):dp (gL z)=z:=by
 unfold aY at h;unfold dp gL;have H:0<=z%18446744073709551616:=Int.emod_nonneg _ (by omega);rw[Int.toNat_of_nonneg H];simp[IntKind.wrap,IntKind.bits,IntKind.signed];omega
theorem vh{n:Nat}(h:n<9223372036854775808):dp n=n:=aA (by unfold aY;omega)
theorem qe{n:Nat}(h:n<18446744073709551616):gL (n:Int)=n:=by unfold gL;omega
theorem Q9(z:Int):gL z<256^8:=by
 unfold gL;have E:z%18446744073709551616<18446744073709551616:=Int.emod_lt_of_pos _ (by omega);have H:0<=z%18446744073709551616:=Int.emod_nonneg _ (by omega);have e:(256:Nat)^8=18446744073709551616:=by decide
 omega
theorem CK{n:Nat}(h:n<18446744073709551616):gL (dp n)=n:=by
 unfold dp gL;simp[IntKind.wrap,IntKind.bits,IntKind.signed];omega
theorem xM{b:Bool}{z:Int}{s:Nat}{r:List UInt8}(H:b=false->z=0)(A9:gL z<256^s)(Z:aY z):dp (kW b s (fH b z s++r,0)).1=z/\(kW b s (fH b z s++r,0)).2=(r,0):=by
 unfold kW fH;cases b with
 |false=>
  have:=H rfl;subst this;simp[dp];decide
 |true=>
  simp only[adZ];rw[oM A9];exact⟨Yk Z,rfl⟩
structure Hi(x:ak):Prop where
 a:0<=x.a/\x.a<65536
 b:0<=x.b/\x.b<65536
 n:aY x.n
 m:aY x.m
theorem Ek{x:ak}(h:dA x=true):lg x.op=true/\(jP x.op=false->x.a=0)/\(hasB x.op=false->x.b=0)/\(kQ x.op=false->x.n=0)/\(kR x.op=false->x.m=0):=by
 unfold dA at h;simp only[Ds,agv,acn]at h;obtain⟨⟨⟨⟨E,J⟩,A5⟩,AA⟩,AB⟩:=h;refine⟨E,λh=>?_,λh=>?_,λh=>?_,λh=>?_⟩
 ·rcases J with e|e
  ·rw[h]at e;cases e
  ·exact e
 ·rcases A5 with e|e
  ·rw[h]at e;cases e
  ·exact e
 ·rcases AA with e|e
  ·rw[h]at e;cases e
  ·exact e
 ·rcases AB with e|e
  ·rw[h]at e;cases e
  ·exact e
theorem Ra{op:Int}(h:lg op=true):1<=op/\op<=15:=by
 unfold lg at h;exact adT h
theorem Yl{op:Int}(h:0<=op/\op<256):((lL op).toNat:Int)=op:=by
 unfold lL;simp;omega
theorem abu{x:ak}{r:List UInt8}(AT:dA x=true)(I:Hi x):mL (qc x++r,0)=(x,(r,0)):=by
 obtain⟨f1,f2,f3,f4,f5⟩:=Ek AT;have Ao:=Ra f1;have A':(256:Nat)^2=65536:=by decide
 have t0:bU 1 (qc x++r,0)=((lL x.op).toNat,(fH (jP x.op) x.a 2++(fH (hasB x.op) x.b 2++(fH (kQ x.op) x.n 8++(fH (kR x.op) x.m 8++r))),0)):=by
  unfold bU qc;rw[acs rfl,ach (by simp)];simp[qd]
 have AU:dp (lL x.op).toNat=x.op:=by
  rw[vh (by have:=(lL x.op).toNat_lt;omega),Yl (by omega)]
 unfold mL;rw[t0];simp only[AU];have AC:∀q:List UInt8,pZ (q,0) x.op=(q,0):=λq=>by unfold pZ;rw[ach (by simp[f1])]
 rw[AC];have A0:∀z:Int,0<=z/\z<65536->gL z<256^2:=λz A9=>by unfold gL;omega
 have i2:∀z:Int,0<=z/\z<65536->aY z:=λz A9=>by unfold aY;omega
 obtain⟨U,a2⟩:=xM (r:=fH (hasB x.op) x.b 2++(fH (kQ x.op) x.n 8++(fH (kR x.op) x.m 8++r))) f2 (A0 _ I.a) (i2 _ I.a);obtain⟨AD,AF⟩:=xM (r:=fH (kQ x.op) x.n 8++(fH (kR x.op) x.m 8++r)) f3 (A0 _ I.b) (i2 _ I.b);obtain⟨A6,O⟩:=xM (r:=fH (kR x.op) x.m 8++r) f4 (Q9 _) I.n;obtain⟨d1,d2⟩:=xM (r:=r) f5 (Q9 _) I.m;rw[U,a2,AD,AF,A6,O,d1,d2]
theorem AE:∀(l:List ak)(r:List UInt8)(D:List ak),(∀x∈l,dA x=true/\Hi x)->gS l.length (lM l++r,0) D=(D++l,(r,0))
 |[],r,D,_=>by simp[gS,lM]
 |x::l,r,D,h=>by
  have ih:=AE l r (D++[x]) (λy AV=>h y (by simp[AV]));have Y:=h x (by simp);have e:lM (x::l)++r=qc x++(lM l++r):=by simp[lM]
  simp only[acq,gS,adZ];rw[e,abu Y.1 Y.2];simp only
  rw[ih];simp
theorem Nl(B:List UInt8)(x y:UInt8):(B++[x,y]).take ((B++[x,y]).length -2)=B/\DA (B++[x,y])=x.toNat*256+y.toNat:=by
 have V:(B++[x,y]).length -2=B.length:=by simp
 have A':(B++[x,y]).length -1=B.length+1:=by simp
 refine⟨by rw[V];simp,?_⟩;unfold DA;rw[V,A'];simp
theorem ajZ(n:Nat):eD n 2=[UInt8.ofNat (n/256),UInt8.ofNat n]:=by simp[eD]
theorem Nn{T:List UInt8}(h:T.length<=131060):fI (Fj ([83,86,67,49]++T))=(T,0):=by
 unfold Fj;have AL:=(oJ 65535#16 ([83,86,67,49]++T)).isLt;rw[ajZ];obtain⟨AG,AH⟩:=Nl ([83,86,67,49]++T) (UInt8.ofNat ((oJ 65535#16 ([83,86,67,49]++T)).toNat/256)) (UInt8.ofNat (oJ 65535#16 ([83,86,67,49]++T)).toNat);have AW:∀x y:UInt8,([83,86,67,49]++T++[x,y]).length=T.length+6:=λx y=>by simp
 unfold fI;rw[AG,AH,AW];rw[ach (by omega),ach ?_,ach ?_]
 ·simp
 ·simp
 ·simp only[akN,Nat.not_lt];refine⟨by omega,?_⟩;simp;omega
theorem abv{l:List ak}{v c:Nat}(A7:kO kV l v c=true)(AI:l.length<5000)(AX:v<65536)(A1:c<65536)(Z:∀x∈l,dA x=true/\Hi x):(pB l v c).2=0/\iU (pB l v c).1=(l,(v:Int),(c:Int),0):=by
 have AJ:l.all dA=true:=acI.2 (λx Y=>(Z x Y).1);have AY:=xK l;unfold pB;rw[A7,AJ];simp only[Bool.and_self,adZ,akC];have A2:ji l v c=[83,86,67,49]++(eD v 2++(eD c 2++(eD l.length 2++lM l))):=by
  unfold ji lN;rw[qe (by omega),qe (by omega),qe (by omega)];simp
 rw[A2];have A':(256:Nat)^2=65536:=by decide
 unfold iU;rw[Nn (by simp only[acm,iq];omega)];simp only[ne_eq,not_true_eq_false,adY];rw[oM (by omega)];simp only
 rw[oM (by omega)];simp only
 rw[oM (by omega)];simp only
 have I:=AE l [] [] Z;rw[ad9]at I;rw[I];simp only[not_true_eq_false,adY,ad8];rw[vh (by omega),vh (by omega),A7];simp
theorem UG{l:List ak}{v c:Nat}(A7:kO kV l v c=true)(AI:l.length<5000)(AX:v<65536)(A1:c<65536)(Z:∀x∈l,dA x=true/\Hi x):
 (gS (bU 2 (bU 2 (bU 2 ((fI (pB l v c).1).1,0)).2).2).1 (bU 2 (bU 2 (bU 2 ((fI (pB l v c).1).1,0)).2).2).2 []).1.length<=5000:=by
 have AJ:l.all dA=true:=acI.2 (λx Y=>(Z x Y).1);have AY:=xK l;unfold pB;rw[A7,AJ];simp only[Bool.and_self,adZ];have A2:ji l v c=[83,86,67,49]++(eD v 2++(eD c 2++(eD l.length 2++lM l))):=by
  unfold ji lN;rw[qe (by omega),qe (by omega),qe (by omega)];simp
 rw[A2];have A':(256:Nat)^2=65536:=by decide
 rw[Nn (by simp only[acm,iq];omega)];rw[oM (by omega)];simp only
 rw[oM (by omega)];simp only
 rw[oM (by omega)];simp only
 have I:=AE l [] [] Z;rw[ad9]at I;rw[I];simp only[ad8];omega
theorem ug{s:Nat}{p:List UInt8×Nat}(h:(bU s p).2.2=0):p.2=0/\p.1=eD (bU s p).1 s++(bU s p).2.1/\(bU s p).1<256^s:=by
 unfold bU at h⊢;by_cases E:p.2=0
 ·rw[acs E]at h⊢;by_cases J:p.1.length<s
  ·rw[acs J]at h;simp at h
  ·rw[ach J]at h⊢;have AI:(p.1.take s).length=s:=by simp;omega
   have A8:=JO (p.1.take s);have AM:=DB (p.1.take s);rw[AI]at A8 AM;refine⟨E,?_,AM⟩;simp only
   rw[A8,agA]
 ·rw[ach E]at h;exact absurd h E
theorem xN{b:Bool}{s:Nat}{p:List UInt8×Nat}(AL:s<=8)(h:(kW b s p).2.2=0):p.2=0/\p.1=fH b (dp (kW b s p).1) s++(kW b s p).2.1/\(b=false->dp (kW b s p).1=0):=by
 cases b with
 |false=>
  simp only[kW,fH]at h⊢;exact⟨h,by simp,λ_=>(by decide:IntKind.i64.wrap ((0:Nat):Int)=0)⟩
 |true=>
  have h:(bU s p).2.2=0:=h;obtain⟨E,J,A5⟩:=ug h;have Ap:(256:Nat)^s<=256^8:=apl (by omega) AL;have e:(256:Nat)^8=18446744073709551616:=by decide
  refine⟨E,?_,λhh=>by cases hh⟩;show p.1=eD (gL (dp (bU s p).1)) s++(bU s p).2.1;rw[CK (by omega)];exact J
theorem abw{p:List UInt8×Nat}(h:(mL p).2.2=0):p.2=0/\p.1=qc (mL p).1++(mL p).2.1/\dA (mL p).1=true:=by
 unfold mL at h⊢;simp only at h⊢;obtain⟨AZ,A_,Aa⟩:=xN (by omega) h;obtain⟨Ab,Ac,Ad⟩:=xN (by omega) AZ;obtain⟨AD,AF,Ae⟩:=xN (by omega) Ab;obtain⟨U,a2,a3⟩:=xN (by omega) AD;have AC:(bU 1 p).2.2=0/\lg (dp (bU 1 p).1)=true/\(pZ (bU 1 p).2 (dp (bU 1 p).1)).1=(bU 1 p).2.1:=by
  unfold pZ at U⊢;by_cases A1:(bU 1 p).2.2=0/\lg (dp (bU 1 p).1)=false
  ·rw[acs A1]at U;simp at U
  ·rw[ach A1]at U⊢;refine⟨U,?_,rfl⟩;cases A3:lg (dp (bU 1 p).1)with
   |true=>rfl
   |false=>exact absurd ⟨U,A3⟩ A1
 obtain⟨Af,Ag,Ah⟩:=AC;obtain⟨t1,t2,t3⟩:=ug Af;rw[Ah]at a2;have Ai:eD (bU 1 p).1 1=[lL (dp (bU 1 p).1)]:=by
  rw[vh (by omega)];simp only[eD,lL];simp;apply UInt8.toNat_inj.1;simp;omega
 refine⟨t1,?_,?_⟩
 ·rw[t2,Ai,a2,AF,Ac,A_];unfold qc;simp only[aea,agx,ad8]
 ·unfold dA;simp only[Ds,agv,acn];have key:∀{b:Bool}{z:Int},(b=false->z=0)->b=true\/z=0:=λ{b z} A8=>by
   cases b with
   |false=>exact .inr (A8 rfl)
   |true=>exact .inl rfl
  exact⟨⟨⟨⟨Ag,key a3⟩,key Ae⟩,key Ad⟩,key Aa⟩
theorem Hj:∀(n:Nat)(p:List UInt8×Nat)(D:List ak),(gS n p D).2.2=0->p.2=0/\∃l,(gS n p D).1=D++l/\l.length=n/\p.1=lM l++(gS n p D).2.1/\l.all dA=true
 |0,p,D,h=>⟨h,[],by simp[gS,lM]⟩
 |n+1,p,D,h=>by
  unfold gS at h⊢;by_cases he:p.2=0
  ·rw[acs he]at h⊢;obtain⟨E,l,J,A5,AA,AB⟩:=Hj n _ _ h;obtain⟨g1,g2,g3⟩:=abw E;refine⟨he,(mL p).1::l,?_,by simp[A5],?_,by simp[g3,AB]⟩
   ·rw[J];simp
   ·rw[g2,AA];simp[lM]
  ·rw[ach he]at h;exact absurd h he
theorem abx{b:List UInt8}{l:List ak}{v c:Int}(h:iU b=(l,v,c,0)):pB l v c=(b,0):=by
 unfold iU at h;by_cases H:(fI b).2≠0
 ·rw[acs H]at h;simp only[adJ]at h;exact absurd h.2.2.2 H
 ·rw[ach H]at h;simp only at h;generalize M:fI b=p at*;generalize AN:bU 2 (p.1,0)=t1 at*;generalize AO:bU 2 t1.2=t2 at*;generalize AP:bU 2 t2.2=t3 at*;generalize I:gS t3.1 t3.2 []=r at*;by_cases E:r.2.2≠0
  ·rw[acs E]at h;simp only[adJ]at h;exact absurd h.2.2.2 E
  ·rw[ach E]at h;by_cases J:r.2.1≠[]
   ·rw[acs J]at h;simp at h
   ·rw[ach J]at h;cases A3:kO kV r.1 (dp t1.1) (dp t2.1)with
    |false=>rw[A3]at h;simp at h
    |true=>
     rw[A3]at h;simp only[Bool.true_eq_false,adY,adJ,apg]at h;obtain⟨V,A',Aj⟩:=h;simp only[ne_eq,akg]at H E J;rw[<-I]at E J;obtain⟨g1,Aq,g2,g3,g4,g5⟩:=Hj _ _ _ E;rw[J,ad9]at g4;rw[ad8]at g2;rw[I,V]at g2;subst g2;rw[<-AP]at g1;obtain⟨q1,q2,q3⟩:=ug g1;rw[<-AO]at q1;obtain⟨AQ,A0,AR⟩:=ug q1;rw[<-AN]at AQ;obtain⟨Ar,AK,AS⟩:=ug AQ;rw[AN]at AK AS;rw[AO]at A0 AR;rw[AP]at q2 q3;simp only at AK;have Ak:(256:Nat)^2=65536:=by decide
     rw[Ak]at AS AR q3;rw[<-V,<-A',<-Aj];have A2:ji r.1 (dp t1.1) (dp t2.1)=[83,86,67,49]++p.1:=by
      unfold ji lN;rw[CK (by omega),CK (by omega),qe (by rw[V,g3];omega),V,g3,AK,A0,q2,g4];simp
     unfold pB;rw[A3,show r.1.all dA=true by rw[V];exact g5];simp only[Bool.and_self,adZ,adJ,apg];rw[A2];unfold fI at M;by_cases A6:131072<b.length
     ·rw[acs A6]at M;rw[<-M]at H;simp at H
     ·rw[ach A6]at M;by_cases O:b.length<2\/(oJ 65535#16 (b.take (b.length-2))).toNat≠DA b
      ·rw[acs O]at M;rw[<-M]at H;simp at H
      ·rw[ach O]at M;by_cases A4:b.length<6\/b.take 4≠[83,86,67,49]
       ·rw[acs A4]at M;rw[<-M]at H;simp at H
       ·rw[ach A4]at M;simp only[akN,Nat.not_lt,ne_eq,akg]at O A4;obtain⟨T,x,y,rfl⟩:=ajV b O.1;obtain⟨AG,AH⟩:=Nl T x y;rw[AG]at M O;rw[AH]at O;have Al:4<=T.length:=by have:=A4.1;simp at this;omega
        have An:T=[83,86,67,49]++p.1:=by
         rw[<-M];simp only
         rw[<-A4.2,agN Al,agA]
        rw[<-An];unfold Fj;rw[O.2];congr 1;have:=JO [x,y];simpa [qd]using this
end Go.Am
end
section
namespace Go.Am
open Go
def Rb(n:Int):Int:=IntKind.i64.wrap (-n)
def lh(x:Ex):Option (Int×Bool):=
 if cq x=1 then some (jG x,false)
 else if cq x=2 then some (jG x,true)
 else if cq x=6 then (match dq x with
  |[y]=>if cq y=1 then some (Rb (jG y),false)else none
  |_=>none)
 else none
def p4:List Ex->Option (List (Int×Bool))
 |[]=>some []
 |x::r=>match lh x with
  |some p=>(match p4 r with
   |some l=>some (p::l)
   |none=>none)
  |none=>none
def n8(n:Int)(t:Bool)(line:Int):Ex:=
 if t=true then .mk 2 n [] [] [] line
 else if 0<=n then .mk 1 n [] [] [] line
 else .mk 6 0 [] [] [.mk 1 (Rb n) [] [] [] line] line
def No(op:Int):List (Int×Bool)->Option (Int×Bool×Int)
 |[a]=>some (uK op a.1 a.2)
 |[a,b]=>if a.2=b.2 then some (yW op a.1 b.1 a.2)else none
 |_=>none
def mX(x:Ex):Ex:=
 if cq x<6\/(lh x).isSome then x
 else match p4 (dq x)with
  |none=>x
  |some l=>match No (cq x) l with
   |none=>x
   |some r=>if r.2.2≠0\/(r.2.1=false/\r.1= -9223372036854775808)then x else n8 r.1 r.2.1 (lJ x)
mutual
def dI:Ex->Ex
 | .mk op n name field sub line=>mX (.mk op n name field (dB sub) line)
def dB:List Ex->List Ex
 |[]=>[]
 |x::r=>dI x::dB r
end
theorem oN:∀l:List Ex,dB l=l.map dI
 |[]=>rfl
 |x::r=>by simp[dB,oN r]
mutual
def uP:Sm->Sm
 | .mk op name to val conds D fields blocks line=>.mk op name (dI to) (dI val) (dB conds) D fields (jQ blocks) line
def eE:List Sm->List Sm
 |[]=>[]
 |x::r=>uP x::eE r
def jQ:List (List Sm)->List (List Sm)
 |[]=>[]
 |b::r=>eE b::jQ r
end
def Ym(p:Pg):Pg:=⟨p.name,p.vars,eE p.body⟩
def CL:Vr:=⟨[],0,0,false,0,0,0,0⟩
def pP:List Vr->Tx->Int->Int×Vr
 |[],_,_=>(0,CL)
 |v::r,s,n=>if v.name=s then (n,v)else pP r s (n+bX v)
def cm(vs:List Vr)(s:Tx):Int×Vr:=pP vs s 0
def cJ:List Vr->Int
 |[]=>0
 |v::r=>bX v+cJ r
def CM:List Pn->Tx->Nat->Option (Nat×Pn)
 |[],_,_=>none
 |p::r,s,i=>if p.name=s then some (i,p)else CM r s (i+1)
def Ir:Pn:=⟨[],0,false⟩
def jz(vs:List Vr)(s f:Tx):Int×Pn:=
 if (bq vs s).isSome=true/\2<(cm vs s).2.ty/\f≠[]then
  (match CM (bI (cm vs s).2.ty) f 0 with
   |some (i,p)=>((cm vs s).1+i,p)
   |none=>(0,Ir))
 else (0,Ir)
def mM(k:Nat)(x:ak):ak:=if (x.op=9\/x.op=10)/\0<=x.a then {x with a:=x.a+k} else x
def jg(k:Nat)(l:List ak):List ak:=l.map (mM k)
def jn(a b:List ak):List ak:=a++jg a.length b
def qF(to:Int)(x:ak):ak:=if x.op=9/\x.a= -1 then {x with a:=to} else x
def ny(to:Int)(x:ak):ak:=if x.op=9/\x.a= -2 then {x with a:=to} else x
def ins(op a b n m:Int):ak:=⟨op,a,b,n,m⟩
mutual
def au(vs:List Vr):Ex->List ak×Bool
 | .mk op n name field sub _=>
  if op=1\/op=2 then ([ins 1 0 0 n 0],decide (op=2))
  else if op=3 then ([ins (1+(cm vs name).2.ty) (cm vs name).1 0 0 0],decide ((cm vs name).2.ty=2))
  else if op=5 then ([ins (1+(jz vs name field).2.ty) (jz vs name field).1 0 0 0],decide ((jz vs name field).2.ty=2))
  else if op=4 then (nj vs sub++[ins (3+(cm vs name).2.ty) (cm vs name).1 0 (cm vs name).2.lo (cm vs name).2.hi],decide ((cm vs name).2.ty=2))
  else ((gd vs sub).1++[ins 8 (if (gd vs sub).2=true then 1 else 0) op 0 0],decide (op=7\/12<op))
def gd(vs:List Vr):List Ex->List ak×Bool
 |[]=>([],false)
 |[x]=>au vs x
 |x::r=>((au vs x).1++(gd vs r).1,(gd vs r).2)
def nj(vs:List Vr):List Ex->List ak
 |[]=>[]
 |x::_=>(au vs x).1
end
mutual
def aR(h:Int):Ex->Int
 | .mk op _ _ _ sub _=>if op=1\/op=2\/op=3\/op=5 then h+1 else max (h+1) (gQ h sub)
def gQ(h:Int):List Ex->Int
 |[]=>0
 |x::r=>max (aR h x) (gQ (h+1) r)
end
def cI:List (List ak)->List (List ak)->List ak
 |_,[]=>[]
 |[],b::r=>if r=[]then b else jn (b++[ins 9 (b.length+1+(cI [] r).length) 0 0 0]) (cI [] r)
 |t::ts,b::r=>
  let out:=cI ts r
  let part:=if r=[]then b else b++[ins 9 (b.length+1+out.length) 0 0 0]
  jn (t++[ins 10 (t.length+1+part.length) 0 0 0]++jg (t.length+1) part) out
def dX(cell:Int):List Int->List ak
 |a::b::r=>ins 14 cell 0 a b::ins 8 1 21 0 0::dX cell r
 |_=>[]
def dE(vs:List Vr)(name:Tx):List Tx->List Ex->List ak
 |f::E,x::xs=>(au vs x).1++ins 6 (jz vs name f).1 0 0 0::dE vs name E xs
 |_,_=>[]
def oO(l:List ak):List ak:=l.map (qF l.length)
def iy(t b:List ak):List ak:=oO (ins 11 0 0 0 0::t++[ins 10 (t.length+3+b.length) 0 0 0]++jg (t.length+2) b++[ins 9 0 0 0 0])
def mO(t b:List ak):List ak:=oO (b++ins 11 0 0 0 0::t++[ins 10 0 0 0 0])
def lj(at_ cell:Int)(b:List ak):List ak:=
 oO ([ins 11 0 0 0 0,ins 13 at_ cell 0 0,ins 10 (b.length+8) 0 0 0]++jg 3 b++[ins 2 at_ 0 0 0,ins 2 (cell+1) 0 0 0,ins 8 0 8 0 0,ins 6 at_ 0 0 0,ins 9 0 0 0 0])
mutual
def cB(vs:List Vr):Sm->Int->List ak×Int
 | .mk op name to val conds D fields blocks _,c=>
  if op=1 then
   (if cq to=3 then (au vs val).1++[ins 6 (cm vs (ew to)).1 0 0 0]
    else nj vs (dq to)++((au vs val).1++[ins 7 (cm vs (ew to)).1 0 (cm vs (ew to)).2.lo (cm vs (ew to)).2.hi]),c)
  else if op=2 then (cI (conds.map λx=>(au vs x).1) (aC vs blocks c).1,(aC vs blocks c).2)
  else if op=3 then (jn ((au vs val).1++[ins 6 c 0 0 0]) (cI (D.map λl=>ins 1 0 0 0 0::dX c l) (aC vs blocks (c+1)).1),(aC vs blocks (c+1)).2)
  else if op=4 then (jn ((gd vs conds).1++[ins 6 (c+1) 0 0 0,ins 6 c 0 0 0,ins 6 (cm vs name).1 0 0 0]) (lj (cm vs name).1 c (kq vs blocks (c+2)).1),(kq vs blocks (c+2)).2)
  else if op=5 then (iy (au vs val).1 (kq vs blocks c).1,(kq vs blocks c).2)
  else if op=6 then (mO (au vs val).1 (kq vs blocks c).1,(kq vs blocks c).2)
  else if op=7 then ([ins 9 (-1) 0 0 0],c)
  else if op=8 then ([ins 9 (-2) 0 0 0],c)
  else (dE vs name fields conds++[ins 12 (cm vs name).1 (cm vs name).2.ty 0 0],c)
def ah(vs:List Vr):List Sm->Int->List ak×Int
 |[],c=>([],c)
 |x::r,c=>(jn (jn [ins 11 0 0 0 0] (cB vs x c).1) (ah vs r (cB vs x c).2).1,(ah vs r (cB vs x c).2).2)
def aC(vs:List Vr):List (List Sm)->Int->List (List ak)×Int
 |[],c=>([],c)
 |b::r,c=>((ah vs b c).1::(aC vs r (ah vs b c).2).1,(aC vs r (ah vs b c).2).2)
def kq(vs:List Vr):List (List Sm)->Int->List ak×Int
 |[],c=>([],c)
 |b::_,c=>ah vs b c
end
def lZ:List Ex->Int
 |[]=>0
 |x::r=>max (aR 0 x) (lZ r)
mutual
def iC:Sm->Int
 | .mk op _ to val conds D _ blocks _=>
  if op=1 then (if cq to=3 then aR 0 val else max (gQ 0 (dq to)) (aR 1 val))
  else if op=2 then max (lZ conds) (cC blocks)
  else if op=3 then max (aR 0 val) (max (if D=[]then 0 else 2) (cC blocks))
  else if op=4 then max (max (gQ 0 conds) 3) (cC blocks)
  else if op=5\/op=6 then max (aR 0 val) (cC blocks)
  else if op=7\/op=8 then 0
  else lZ conds
def bu:List Sm->Int
 |[]=>0
 |x::r=>max (iC x) (bu r)
def cC:List (List Sm)->Int
 |[]=>0
 |b::r=>max (bu b) (cC r)
end
def oP(p:Pg):Option (List ak×Int×Int):=
 let g:=ah p.vars (eE p.body) (cJ p.vars)
 if 4096<g.1.length+1\/64<bu (eE p.body)then none
 else some (g.1.map (ny g.1.length)++[ins 15 0 0 0 0],cJ p.vars,g.2)
@[simp] theorem nG(k:Nat)(l:List ak):(jg k l).length=l.length:=by simp[jg]
@[simp] theorem qf(l:List ak):(oO l).length=l.length:=by simp[oO]
theorem eO(a b:List ak):(jn a b).length=a.length+b.length:=by simp[jn]
theorem Np(k:Nat)(x:ak):(mM k x).op=x.op:=by unfold mM;split<;>rfl
theorem Yn(k:Int)(x:ak):(qF k x).op=x.op:=by unfold qF;split<;>rfl
theorem Yo(k:Int)(x:ak):(ny k x).op=x.op:=by unfold ny;split<;>rfl
def uB(vs:List Vr)(x:Sm)(c:Int):List ak:=jn [ins 11 0 0 0 0] (cB vs x c).1
theorem aby(vs:List Vr)(x:Sm)(c:Int):(uB vs x c).length=(cB vs x c).1.length+1:=by unfold uB;rw[eO];simp;omega
theorem Yp{n:Int}(h: -9223372036854775808<n/\n<=9223372036854775807):Rb n= -n:=by
 unfold Rb;simp only[IntKind.wrap,IntKind.bits,IntKind.signed];simp;omega
theorem aj0(b:Bool):eL b=0\/eL b=1:=by cases b<;>simp[eL]
def Rc(r:Int×Bool×Int)(t:Bool):Prop:=r.2.2=0->r.2.1=t/\(t=true->r.1=0\/r.1=1)/\(-9223372036854775808<=r.1/\r.1<=9223372036854775807)
theorem zj(t:Bool):Rc nK t:=λh=>by simp[nK]at h
theorem mP(b:Bool):Rc (eL b,true,0) true:=λ_=>by rcases aj0 b with h|h<;>simp[h]
theorem DC(z:Int):Rc (yu (ng z)) false:=by
 intro h;unfold yu ng at h⊢;split<;>simp_all;all_goals omega
theorem aj1{a b:Int}(D: -9223372036854775808<=a/\a<=9223372036854775807)(h:¬(a= -9223372036854775808/\b= -1)): -9223372036854775808<=a.tdiv b/\a.tdiv b<=9223372036854775807:=by
 have J:(a.tdiv b).natAbs<=a.natAbs:=by rw[Int.natAbs_tdiv];exact Nat.div_le_self _ _
 by_cases hm:a= -9223372036854775808
 ·by_cases E:b=1
  ·subst E;simp only[Int.tdiv_one];omega
  ·by_cases M:b=0
   ·subst M;simp
   ·have I:2<=b.natAbs:=by omega
    have O:(a.tdiv b).natAbs<=a.natAbs/2:=by rw[Int.natAbs_tdiv];exact Nat.div_le_div_left I (by omega)
    omega
 ·omega
theorem aj2{a b:Int}(D: -9223372036854775808<=a/\a<=9223372036854775807): -9223372036854775808<=a.tmod b/\a.tmod b<=9223372036854775807:=by
 have J:(a.tmod b).natAbs<=a.natAbs:=by rw[Int.natAbs_tmod];exact Nat.mod_le _ _
 have I:0<=a->0<=a.tmod b:=λh=>Int.tmod_nonneg _ h;have O:a<=0->a.tmod b<=0:=λh=>by
  have:=Int.tmod_nonneg (a:= -a) b (by omega);rw[Int.neg_tmod]at this;omega
 omega
theorem aeS{a b:Int}(D: -9223372036854775808<=a/\a<=9223372036854775807):Rc (sD (Cs a b)) false:=by
 intro h;by_cases E:b=0
 ·simp[sD,Cs,E]at h
 ·by_cases hm:a= -9223372036854775808/\b= -1
  ·simp[sD,Cs,hm]at h
  ·have:=aj1 D hm;simp[sD,Cs,E,hm,this]
theorem aeT{a b:Int}(D: -9223372036854775808<=a/\a<=9223372036854775807):Rc (sD (E7 a b)) false:=by
 intro h;by_cases E:b=0
 ·simp[sD,E7,E]at h
 ·have:=aj2 (b:=b) D;simp[sD,E7,E,this]
def aj3(op:Int):Prop:=op=6\/(8<=op/\op<=12)\/(15<=op/\op<=18)
instance (op:Int):Decidable (aj3 op):=inferInstanceAs (Decidable (_\/_))
theorem aj4{op:Int}{l:List (Int×Bool)}{r:Int×Bool×Int}(h:No op l=some r)(H:∀p∈l, -9223372036854775808<=p.1/\p.1<=9223372036854775807):
 Rc r (!decide (op=6\/(8<=op/\op<=12))):=by
 unfold No at h;split at h
 ·rename_i a;cases h;have D:=H a (by simp);unfold uK;split
  ·split
   ·exact zj _
   ·split
    ·rename_i T;subst T;exact mP _
    ·exact zj _
  ·split
   ·rename_i U;subst U;exact DC _
   ·exact zj _
 ·rename_i a b;have D:=H a (by simp);have E:=H b (by simp);split at h
  ·cases h;unfold yW;split
   ·split
    ·exact zj _
    ·unfold My;split
     ·rename_i e;subst e;exact mP _
     ·split
      ·rename_i e;have:(!decide (op=6\/(8<=op/\op<=12)))=true:=by simp;omega
       rw[this];exact mP _
      ·split
       ·rename_i e;subst e;exact mP _
       ·split
        ·rename_i e;subst e;exact mP _
        ·exact zj _
   ·unfold GQ;split
    ·rename_i e;subst e;exact DC _
    ·split
     ·rename_i e;subst e;exact DC _
     ·split
      ·rename_i e;subst e;exact DC _
      ·split
       ·rename_i e;subst e;exact aeS D
       ·split
        ·rename_i e;subst e;exact aeT D
        ·split
         ·rename_i e;subst e;exact mP _
         ·split
          ·rename_i e;subst e;exact mP _
          ·split
           ·rename_i e;subst e;exact mP _
           ·split
            ·rename_i e;subst e;exact mP _
            ·split
             ·rename_i e;subst e;exact mP _
             ·split
              ·rename_i e;subst e;exact mP _
              ·exact zj _
  ·cases h
 ·cases h
def Kp(vs:List Vr)(x y:Ex):Prop:=bC y=true/\eQ y=true/\aK vs y=aK vs x/\lJ y=lJ x
theorem Yq{vs:List Vr}{y:Ex}{p:Int×Bool}(h:lh y=some p)(I:bC y=true)(H:eQ y=true)(he:(aK vs y).e=0):
 aK vs y=fT (if p.2=true then 2 else 1)/\(-9223372036854775808<=p.1/\p.1<=9223372036854775807):=by
 obtain⟨op,n,name,field,sub,line⟩:=y;simp only[eQ,Ds,acn]at H;by_cases J:op=1
 ·simp only[lh,pO,y9,J,adZ,acE]at h;subst h;simp[aK,J,H.1]
 ·by_cases U:op=2
  ·simp only[lh,pO,y9,J,U,adY,adZ,acE,Int.reduceEq]at h;subst h;simp[aK,U,H.1]
  ·by_cases V:op=6
   ·simp only[lh,pO,y9,rB,V,adY,adZ,Int.reduceEq]at h;split at h
    ·rename_i z;split at h
     ·rename_i A0;cases h;obtain⟨AF,A1,AG,AH,AI,AJ⟩:=z;simp only[pO]at A0;subst A0 V;simp only[dD,eQ,apa,Ds,acn]at H;have A7:0<=A1:=by
       simp[bC,bO,eF]at I;omega
      have M:=Yp (n:=A1) ⟨by omega,by omega⟩;refine⟨?_,?_⟩
      ·simp[aK,uL,cM,fT,im,iS]
      ·simp only[y9,M];omega
     ·cases h
    ·cases h
   ·simp only[lh,pO,J,U,V,adY]at h;cases h
theorem Rd:∀{l:List Ex}{ps:List (Int×Bool)},p4 l=some ps->ps.length=l.length/\∀(i:Nat) y p,l[i]?=some y->ps[i]?=some p->lh y=some p
 |[],ps,h=>by simp only[p4]at h;cases h;exact⟨rfl,λi y p h=>by simp at h⟩
 |x::r,ps,h=>by
  simp only[p4]at h;split at h
  ·rename_i p Y;split at h
   ·rename_i l H;cases h;obtain⟨i1,i2⟩:=Rd H;refine⟨by simp[i1],λi y q D O=>?_⟩;cases i with
    |zero=>simp at D O;subst D O;exact Y
    |succ i=>simp at D O;exact i2 i y q D O
   ·cases h
  ·cases h
theorem aeU(vs:List Vr){n:Int}{t:Bool}{line:Int}(h:t=true->n=0\/n=1)(hi: -9223372036854775808<=n/\n<=9223372036854775807)(hm:¬(t=false/\n= -9223372036854775808)):
 bC (n8 n t line)=true/\eQ (n8 n t line)=true/\aK vs (n8 n t line)=fT (if t=true then 2 else 1)/\lJ (n8 n t line)=line:=by
 unfold n8;cases t with
 |true=>
  have:=h rfl;refine⟨?_,?_,?_,?_⟩
  ·simp[bC,bO,eF];omega
  ·simp[eQ,dD];omega
  ·simp[aK]
  ·simp
 |false=>
  simp only[agF,adY];split
  ·rename_i A8;refine⟨?_,?_,?_,?_⟩
   ·simp[bC,bO,eF];omega
   ·simp[eQ,dD];omega
   ·simp[aK]
   ·simp
  ·rename_i A8;have A7:n≠ -9223372036854775808:=λe=>hm ⟨rfl,e⟩;have M:=Yp (n:=n) ⟨by omega,by omega⟩;refine⟨?_,?_,?_,?_⟩
   ·simp[bC,bO,eF,M];omega
   ·simp[eQ,dD,M];omega
   ·simp[aK,uL,cM,fT,im,iS]
   ·simp
theorem aj5{vs:List Vr}{x:Ex}(I:bC x=true)(H:eQ x=true)(he:(aK vs x).e=0):Kp vs x (mX x):=by
 have self:Kp vs x x:=⟨I,H,rfl,rfl⟩;unfold mX;split
 ·exact self
 ·rename_i A2;split
  ·exact self
  ·rename_i l A3;split
   ·exact self
   ·rename_i r A4;split
    ·exact self
    ·rename_i Z;simp only[akN,Int.not_lt]at A2 Z;obtain⟨op,n,name,field,sub,line⟩:=x;simp only[pO,rB,WC]at A2 A3 A4⊢;obtain⟨AK,A9⟩:=Rd A3;have A5:=I;simp only[bC,Ds,acn]at A5;obtain⟨_,E,_,_,AA⟩:=A5;have A6:=H;simp only[eQ,Ds]at A6;have AB:∀y∈sub,eQ y=true:=by
      have:∀l:List Ex,dD l=true->∀y∈l,eQ y=true:=by
       intro l;induction l with
       |nil=>intro _ y D;simp at D
       |cons z l ih=>
        intro h y D;simp only[dD,Ds]at h;rcases aco.1 D with rfl|D
        ·exact h.1
        ·exact ih h.2 y D
      exact this sub A6.2
     have A':aK vs (.mk op n name field sub line)=uL vs op line sub:=by
      unfold aK;rw[ach (by omega),ach (by omega)]
     have AC:∀y∈sub,bC y=true:=(jN sub).1 AA;have AD:∀y∈sub,(aK vs y).e=0:=by
      rw[A']at he;intro y D;match sub,D,he,E with
      |[a],D,he,_=>
       simp at D;subst D;exact (jy he).1
      |[a,b],D,he,_=>
       simp at D;rcases D with rfl|rfl
       ·exact (jy he).1
       ·exact (jy he).2.1
      |a::b::c::d,D,he,E=>
       exfalso;simp only[eF]at E;split at E
       ·simp at E
       ·split at E<;>simp at E
     have AE:∀p∈l, -9223372036854775808<=p.1/\p.1<=9223372036854775807:=by
      intro p Y;obtain⟨i,hi⟩:=apn Y;have AL:=(ace.1 hi).1;have D:∃y,sub[i]?=some y:=⟨sub[i]'(by omega),by simp[show i<sub.length by omega]⟩
      obtain⟨y,D⟩:=D;have hm:=acu D;exact (Yq (A9 i y p D hi) (AC y hm) (AB y hm) (AD y hm)).2
     obtain⟨q1,q2,q3⟩:=aj4 A4 AE (by simpa using Z.1);have T:=aeU vs (n:=r.1) (t:=r.2.1) (line:=line) (by rw[q1];exact q2) q3 (λh=>Z.2 h);refine⟨T.1,T.2.1,?_,by rw[T.2.2.2];rfl⟩;rw[T.2.2.1,q1,A'];rw[A']at he;have key:uL vs op line sub=fT (iS op):=by
      match sub,he,E with
      |[a],he,_=>exact (jy he).2.2.2.2
      |[a,b],he,_=>exact (jy he).2.2.2.2
      |[],he,E=>
       exfalso;simp only[eF,acw]at E;split at E
       ·simp at E
       ·split at E
        ·simp at E
        ·omega
      |a::b::c::d,he,E=>
       exfalso;simp only[eF]at E;split at E
       ·simp at E
       ·split at E<;>simp at E
     rw[key];unfold iS;by_cases h:op=6\/(8<=op/\op<=12)<;>simp[h]
theorem zn{op n:Int}{name field:Tx}{sub:List Ex}{line:Int}(h:bC (.mk op n name field sub line)=true):sub.length=eF op/\bO sub=true:=by
 simp only[bC,Ds,acn]at h;exact⟨h.2.1,h.2.2.2.2⟩
theorem DD{vs:List Vr}{op n:Int}{name field:Tx}{sub:List Ex}{line:Int}(H:bC (.mk op n name field sub line)=true)(he:(aK vs (.mk op n name field sub line)).e=0):∀y∈sub,(aK vs y).e=0:=by
 obtain⟨E,_⟩:=zn H;intro y D;unfold aK at he;by_cases V:op=1\/op=2
 ·have M:sub=[]:=acL (by rw[E];unfold eF;rcases V with h|h<;>subst h<;>decide);subst M;simp at D
 ·rw[ach V]at he;by_cases Y:op=3\/op=4\/op=5
  ·rw[acs Y]at he;by_cases A0:op=4
   ·subst A0;obtain⟨z,rfl⟩:∃z,sub=[z]:=by
     match sub,E with
     |[z],_=>exact⟨z,rfl⟩
     |[],h=>simp[eF]at h
     |_::_::_,h=>simp[eF]at h
    simp at D;subst D;split at he
    ·simp[db]at he
    ·rw[ach (by decide)]at he;split at he
     ·simp[db]at he
     ·rw[acs rfl]at he;simp only[za]at he;by_cases I:(aK vs y).e=0
      ·exact I
      ·rw[acs I]at he;exact absurd he I
   ·have M:sub=[]:=acL (by rw[E];unfold eF;rw[ach (by omega),ach (by omega)]);subst M;simp at D
  ·rw[ach Y]at he;match sub,D,he,E with
   |[a],D,he,_=>
    simp at D;subst D;exact (jy he).1
   |[a,b],D,he,_=>
    simp at D;rcases D with rfl|rfl
    ·exact (jy he).1
    ·exact (jy he).2.1
   |a::b::c::d,D,he,E=>
    exfalso;simp only[eF]at E;split at E
    ·simp at E
    ·split at E<;>simp at E
theorem aeV{op n:Int}{name field:Tx}{sub:List Ex}{line:Int}(h:eQ (.mk op n name field sub line)=true):(-9223372036854775808<=n/\n<=9223372036854775807)/\dD sub=true:=by
 simp only[eQ,Ds,acn]at h;exact h
theorem xO:∀l:List Ex,dD l=true↔∀x∈l,eQ x=true
 |[]=>by simp[dD]
 |x::r=>by simp[dD,xO r]
section
variable {vs:List Vr}
theorem aeW{op n:Int}{name field:Tx}{sub J:List Ex}{line:Int}(T:J.length=sub.length)(h:∀(i:Nat) x y,sub[i]?=some x->J[i]?=some y->aK vs y=aK vs x/\lJ y=lJ x):
 aK vs (.mk op n name field J line)=aK vs (.mk op n name field sub line):=by
 unfold aK;have A1:∀t,za vs t J=za vs t sub:=by
  intro t;match sub,J,T,h with
  |[],[],_,_=>rfl
  |x::r,y::q,_,h=>
   obtain⟨O,U⟩:=h 0 x y rfl rfl;simp only[za,O,U]
 have A2:uL vs op line J=uL vs op line sub:=by
  match sub,J,T,h with
  |[],[],_,_=>rfl
  |[x],[y],_,h=>
   obtain⟨O,U⟩:=h 0 x y rfl rfl;simp only[uL,O]
  |x::A3::r,y::A4::q,_,h=>
   obtain⟨O,_⟩:=h 0 x y rfl rfl;obtain⟨U,_⟩:=h 1 A3 A4 rfl rfl;simp only[uL,O,U]
 rw[A2];simp only[A1]
theorem Hk:∀x:Ex,bC x=true->eQ x=true->(aK vs x).e=0->Kp vs x (dI x)
 | .mk op n name field sub line,H,T,he=>by
  obtain⟨f1,f2⟩:=zn H;obtain⟨A5,A6⟩:=aeV T;have M:=DD H he;have ih:∀y∈sub,Kp vs y (dI y):=λy D=>Hk y ((jN sub).1 f2 y D) ((xO sub).1 A6 y D) (M y D);have E:(dB sub).length=sub.length:=by rw[oN];simp
  have A7:bC (.mk op n name field (dB sub) line)=true:=by
   have A8:bO (dB sub)=true:=by
    rw[jN,oN];intro y D;obtain⟨z,I,rfl⟩:=acF.1 D;exact (ih z I).1
   simp only[bC,Ds]at H⊢;refine⟨H.1,?_,H.2.2.1,H.2.2.2.1,A8⟩;rw[E];exact H.2.1
  have A9:eQ (.mk op n name field (dB sub) line)=true:=by
   simp only[eQ,Ds,acn];refine⟨A5,?_⟩;rw[xO,oN];intro y D;obtain⟨z,I,rfl⟩:=acF.1 D;exact (ih z I).2.1
  have Z:aK vs (.mk op n name field (dB sub) line)=aK vs (.mk op n name field sub line):=by
   refine aeW E λi x y A' D=>?_;rw[oN,adD,A']at D;cases D;have:=ih x (acu A');exact this.2.2
  have:=aj5 (vs:=vs) A7 A9 (by rw[Z];exact he);obtain⟨AA,AB,AC,AD⟩:=this;exact⟨AA,AB,AC.trans Z,AD⟩
termination_by x=>SizeOf.sizeOf x
decreasing_by all_goals (simp_wf;have:=List.sizeOf_lt_of_mem D;omega)
end
theorem cg{a b:EL}:(gj a b).1=0↔a.1=0/\b.1=0:=by
 unfold gj;by_cases h:a.1=0
 ·rw[ach (λM=>M h)];simp[h]
 ·rw[acs h];simp[h]
theorem qG{vs:List Vr}{x:Ex}{t:Int}:(dZ vs x t).1=0↔(aK vs x).e=0/\(aK vs x).t=t:=by
 unfold dZ;by_cases h:(aK vs x).e=0
 ·rw[ach (λM=>M h)];by_cases E:(aK vs x).t=t
  ·rw[ach (λM=>M E)];simp[h,E]
  ·rw[acs E];simp[E]
 ·rw[acs h];simp[h]
theorem Rf{x:Ex}(h:eG x=true):dI x=x:=by
 obtain⟨op,n,name,field,sub,line⟩:=x;simp only[eG,pO,y9,Cv,MB,rB,Ds]at h;obtain⟨H,E,J⟩:=h;have H:op=0:=adT H;have J:=adT J;have Z:sub=[]:=acL (by omega);subst H Z;simp[dI,dB,mX]
theorem aj6{op n:Int}{name field:Tx}{sub:List Ex}{line:Int}(h:op<6):dI (.mk op n name field sub line)=.mk op n name field (dB sub) line:=by
 show mX _=_;unfold mX;rw[acs (.inl (by simpa using h))]
section
variable {vs:List Vr}
theorem vr{x:Ex}{t:Int}(I:bC x=true)(D:eQ x=true)(h:(dZ vs x t).1=0):bC (dI x)=true/\eQ (dI x)=true/\(dZ vs (dI x) t).1=0:=by
 obtain⟨H,E⟩:=qG.1 h;obtain⟨A0,A1,A2,_⟩:=Hk x I D H;exact⟨A0,A1,qG.2 (by rw[A2];exact⟨H,E⟩)⟩
theorem Nq{t:Int}:∀l:List Ex,bO l=true->dD l=true->(mK vs t l).1=0->bO (dB l)=true/\dD (dB l)=true/\(mK vs t (dB l)).1=0
 |[],_,_,_=>⟨rfl,rfl,rfl⟩
 |x::r,I,D,h=>by
  simp only[bO,dD,Ds]at I D;obtain⟨H,E⟩:=cg.1 h;obtain⟨O,a2,a3⟩:=vr I.1 D.1 H;obtain⟨T,U,V⟩:=Nq r I.2 D.2 E;simp only[dB,bO,dD,Ds];exact⟨⟨O,T⟩,⟨a2,U⟩,cg.2 ⟨a3,V⟩⟩
theorem Rg{k line:Int}:∀(Y:List Tx)(xs:List Ex)(p:List Tx),xs.length=Y.length->bO xs=true->dD xs=true->(jZ vs k line Y xs p).1=0->bO (dB xs)=true/\dD (dB xs)=true/\(jZ vs k line Y (dB xs) p).1=0
 |[],[],p,_,_,_,_=>⟨rfl,rfl,rfl⟩
 |f::Y,x::xs,p,A3,I,D,h=>by
  simp only[bO,dD,Ds]at I D;unfold jZ at h;simp only[dB,bO,dD,Ds];unfold jZ;cases c:nh k f with
  |none=>rw[c]at h;simp at h
  |some q=>
   rw[c]at h;simp only at h⊢;split at h
   ·simp at h
   ·rename_i H;split at h
    ·simp at h
    ·rename_i E;obtain⟨J,A4⟩:=cg.1 h;obtain⟨O,a2,a3⟩:=vr I.1 D.1 J;obtain⟨T,U,V⟩:=Rg Y xs (p++[f]) (by simpa using A3) I.2 D.2 A4;rw[ach H,ach E];exact⟨⟨O,T⟩,⟨a2,U⟩,cg.2 ⟨a3,V⟩⟩
 |[],_::_,_,D,_,_,_=>by simp at D
 |_::_,[],_,D,_,_,_=>by simp at D
theorem Nr:∀l:List (List Sm),(jQ l).length=l.length
 |[]=>rfl
 |b::r=>by simp[jQ,Nr r]
theorem abA(l:List Ex):(dB l).length=l.length:=by rw[oN];simp
theorem abB{x:Ex}(h:bC x=true):eG x=false:=by
 obtain⟨op,n,name,field,sub,line⟩:=x;simp only[bC,Ds,agD,afY]at h;have:op≠0:=by
  intro e;apply h.1;omega
 simp[eG,this]
theorem aon{to val:Ex}{line:Int}(J:cq to=3\/cq to=4)(f1:bC to=true)(f2:bC val=true)(A5:eQ to=true)(A6:eQ val=true)(h:(GW vs to val line).1=0):
 (bC (dI to)=true/\bC (dI val)=true)/\(eQ (dI to)=true/\eQ (dI val)=true)/\(GW vs (dI to) (dI val) line).1=0/\cq (dI to)=cq to:=by
 have y:dI to=.mk (cq to) (jG to) (ew to) (gK to) (dB (dq to)) (lJ to):=by
  obtain⟨op,n,name,field,sub,l⟩:=to;simp only[pO]at J;exact aj6 (by omega)
 have A7:ew (dI to)=ew to:=by rw[y];rfl
 have A8:cq (dI to)=cq to:=by rw[y];rfl
 unfold GW at h⊢;rw[A7];cases A':bq vs (ew to)with
 |none=>rw[A']at h;simp at h
 |some v=>
  rw[A']at h;simp only at h⊢;split at h
  ·simp at h
  ·rename_i Z;rw[ach Z];obtain⟨q1,q2⟩:=cg.1 h;obtain⟨q2,q3⟩:=cg.1 q2;obtain⟨O,a2,a3,_⟩:=Hk to f1 A5 q1;obtain⟨T,U,V,_⟩:=Hk val f2 A6 q2;refine⟨⟨O,T⟩,⟨a2,U⟩,?_,A8⟩;rw[a3,V];exact h
end
section
variable {vs:List Vr}
mutual
theorem aj7(I:Bool):∀s:Sm,j7 s=true->pA s=true->(kZ vs I s).1=0->j7 (uP s)=true/\pA (uP s)=true/\(kZ vs I (uP s)).1=0
 | .mk op name to val conds U fields blocks line,J,H,h=>by
  simp only[j7,Ds,acn]at J;obtain⟨AK,AL,A1,A3,AC,y,AM,AN,A5⟩:=J;simp only[pA,Ds]at H;obtain⟨AJ,A6,AD,AO,A7⟩:=H
  --Ac Ad to be shown,from Ae parts
  have fin:(if op=1 then decide (cq (dI to)=3\/cq (dI to)=4)&&bC (dI to)else eG (dI to))=true->
   (if op=1\/op=3\/op=5\/op=6 then !eG (dI val)&&bC (dI val)else eG (dI val))=true->bO (dB conds)=true->da (jQ blocks)=true->
   eQ (dI to)=true->eQ (dI val)=true->dD (dB conds)=true->ic (jQ blocks)=true->
   (kZ vs I (.mk op name (dI to) (dI val) (dB conds) U fields (jQ blocks) line)).1=0->
   j7 (uP (.mk op name to val conds U fields blocks line))=true/\pA (uP (.mk op name to val conds U fields blocks line))=true/\(kZ vs I (uP (.mk op name to val conds U fields blocks line))).1=0:=by
   intro A' a2 a3 a4 a5 AP AQ AR a9;simp only[uP,j7,pA,Ds,acn,abA,Nr];exact⟨⟨AK,AL,A',a2,a3,y,AM,AN,a4⟩,⟨a5,AP,AQ,AO,AR⟩,a9⟩
  have AS:¬op=1->(if op=1 then decide (cq (dI to)=3\/cq (dI to)=4)&&bC (dI to)else eG (dI to))=true/\eQ (dI to)=true:=by
   intro E;rw[ach E]at A1⊢;rw[Rf A1];exact⟨A1,AJ⟩
  have AE:¬(op=1\/op=3\/op=5\/op=6)->(if op=1\/op=3\/op=5\/op=6 then !eG (dI val)&&bC (dI val)else eG (dI val))=true/\eQ (dI val)=true:=by
   intro E;rw[ach E]at A3⊢;rw[Rf A3];exact⟨A3,A6⟩
  have vv:(op=1\/op=3\/op=5\/op=6)->bC (dI val)=true->(if op=1\/op=3\/op=5\/op=6 then !eG (dI val)&&bC (dI val)else eG (dI val))=true:=by
   intro E M;rw[acs E,abB M,M];rfl
  have AA:(op=1\/op=3\/op=5\/op=6)->bC val=true:=by
   intro E;rw[acs E]at A3;simp only[Ds]at A3;exact A3.2
  unfold kZ at h;by_cases E:op=1
  ·subst E;rw[acs rfl]at h;have D:cR 1 conds.length U.length fields.length blocks.length=true:=y;simp[cR]at D;obtain⟨rfl,_,_,rfl⟩:=D;rw[acs rfl]at A1;simp only[Ds,acn]at A1;obtain⟨⟨AT,AU⟩,⟨AV,AW⟩,AX,AY⟩:=aon A1.1 A1.2 (AA (.inl rfl)) AJ A6 h;refine fin (by rw[acs rfl,AY,AT];simp[A1.1]) (vv (.inl rfl) AU) rfl rfl AV AW rfl rfl ?_;unfold kZ;rw[acs rfl];exact AX
  ·rw[ach E]at h;obtain⟨t1,t2⟩:=AS E;by_cases M:op=2
   ·subst M;rw[acs rfl]at h;have D:cR 2 conds.length U.length fields.length blocks.length=true:=y;simp[cR]at D;obtain⟨v1,v2⟩:=AE (by decide);obtain⟨V,Y,O,T,AF⟩:=Hl I conds blocks AC AD A5 A7 (by omega) h;refine fin t1 v1 V O t2 v2 Y T ?_;unfold kZ;rw[ach E,acs rfl];exact AF
   ·rw[ach M]at h;by_cases A0:op=3
    ·subst A0;rw[acs rfl]at h;have D:cR 3 conds.length U.length fields.length blocks.length=true:=y;simp[cR]at D;obtain⟨rfl,_⟩:=D;obtain⟨q1,q2⟩:=cg.1 h;obtain⟨v1,v2,v3⟩:=vr (AA (.inr (.inl rfl))) A6 q1;obtain⟨V,Y,O,T,AF⟩:=Hl I [] blocks rfl rfl A5 A7 (by simp) q2;refine fin t1 (vv (.inr (.inl rfl)) v1) rfl O t2 v2 rfl T ?_;unfold kZ;rw[ach E,ach M,acs rfl];exact cg.2 ⟨v3,AF⟩
    ·rw[ach A0]at h;by_cases A4:op=4
     ·subst A4;rw[acs rfl]at h;have D:cR 4 conds.length U.length fields.length blocks.length=true:=y;simp[cR]at D;obtain⟨_,_,_,A8⟩:=D;obtain⟨v1,v2⟩:=AE (by decide);cases A2:bq vs name with
      |none=>rw[A2]at h;simp at h
      |some v=>
       rw[A2]at h;simp only at h;split at h
       ·simp at h
       ·rename_i g1;split at h
        ·simp at h
        ·rename_i g2;obtain⟨q1,q2⟩:=cg.1 h;obtain⟨V,Y,AG⟩:=Nq conds AC AD q1;obtain⟨O,T,Z⟩:=Nu blocks A5 A7 A8 q2;refine fin t1 v1 V O t2 v2 Y T ?_;unfold kZ;rw[ach E,ach M,ach A0,acs rfl,A2];simp only
         rw[ach g1,ach g2];exact cg.2 ⟨AG,Z⟩
     ·rw[ach A4]at h;by_cases A9:op=5
      ·subst A9;rw[acs rfl]at h;have D:cR 5 conds.length U.length fields.length blocks.length=true:=y;simp[cR]at D;obtain⟨rfl,_,_,A8⟩:=D;obtain⟨q1,q2⟩:=cg.1 h;obtain⟨v1,v2,v3⟩:=vr (AA (.inr (.inr (.inl rfl)))) A6 q1;obtain⟨O,T,Z⟩:=Nu blocks A5 A7 A8 q2;refine fin t1 (vv (.inr (.inr (.inl rfl))) v1) rfl O t2 v2 rfl T ?_;unfold kZ;rw[ach E,ach M,ach A0,ach A4,acs rfl];exact cg.2 ⟨v3,Z⟩
      ·rw[ach A9]at h;by_cases AB:op=6
       ·subst AB;rw[acs rfl]at h;have D:cR 6 conds.length U.length fields.length blocks.length=true:=y;simp[cR]at D;obtain⟨rfl,_,_,A8⟩:=D;obtain⟨q1,q2⟩:=cg.1 h;obtain⟨v1,v2,v3⟩:=vr (AA (.inr (.inr (.inr rfl)))) A6 q2;obtain⟨O,T,Z⟩:=Nu blocks A5 A7 A8 q1;refine fin t1 (vv (.inr (.inr (.inr rfl))) v1) rfl O t2 v2 rfl T ?_;unfold kZ;rw[ach E,ach M,ach A0,ach A4,ach A9,acs rfl];exact cg.2 ⟨Z,v3⟩
       ·rw[ach AB]at h;obtain⟨v1,v2⟩:=AE (by omega);by_cases AH:op=7
        ·subst AH;rw[acs rfl]at h;have D:cR 7 conds.length U.length fields.length blocks.length=true:=y;simp[cR]at D;obtain⟨rfl,_,_,rfl⟩:=D;refine fin t1 v1 rfl rfl t2 v2 rfl rfl ?_;unfold kZ;rw[ach E,ach M,ach A0,ach A4,ach A9,ach AB,acs rfl];exact h
        ·rw[ach AH]at h;by_cases AZ:op=9
         ·subst AZ;rw[acs rfl]at h;have D:cR 9 conds.length U.length fields.length blocks.length=true:=y;simp[cR]at D;obtain⟨A_,_,rfl⟩:=D;cases A2:bq vs name with
          |none=>rw[A2]at h;simp at h
          |some v=>
           rw[A2]at h;simp only at h;split at h
           ·simp at h
           ·rename_i g1;obtain⟨V,Y,AG⟩:=Rg fields conds [] A_ AC AD h;refine fin t1 v1 V rfl t2 v2 Y rfl ?_;unfold kZ;rw[ach E,ach M,ach A0,ach A4,ach A9,ach AB,ach AH,acs rfl,A2];simp only
            rw[ach g1];exact AG
         ·have Aa:op=8:=by omega
          subst Aa;have D:cR 8 conds.length U.length fields.length blocks.length=true:=y;simp[cR]at D;obtain⟨rfl,_,_,rfl⟩:=D;refine fin t1 v1 rfl rfl t2 v2 rfl rfl ?_;unfold kZ;simp
theorem qH(I:Bool):∀l:List Sm,eP l=true->iT l=true->(fg vs I l).1=0->eP (eE l)=true/\iT (eE l)=true/\(fg vs I (eE l)).1=0
 |[],_,_,_=>⟨rfl,rfl,rfl⟩
 |x::r,J,H,h=>by
  simp only[eP,iT,Ds]at J H;obtain⟨E,M⟩:=cg.1 h;obtain⟨A',a2,a3⟩:=aj7 I x J.1 H.1 E;obtain⟨O,T,Z⟩:=qH I r J.2 H.2 M;simp only[eE,eP,iT,Ds];exact⟨⟨A',O⟩,⟨a2,T⟩,cg.2 ⟨a3,Z⟩⟩
theorem Hl(I:Bool):∀(cs:List Ex)(l:List (List Sm)),bO cs=true->dD cs=true->da l=true->ic l=true->cs.length<=l.length->(fW vs I cs l).1=0->
 bO (dB cs)=true/\dD (dB cs)=true/\da (jQ l)=true/\ic (jQ l)=true/\(fW vs I (dB cs) (jQ l)).1=0
 |[],[],_,_,_,_,_,_=>⟨rfl,rfl,rfl,rfl,rfl⟩
 |[],b::r,V,Y,J,H,_,h=>by
  simp only[da,ic,Ds]at J H;obtain⟨E,M⟩:=cg.1 h;obtain⟨A',a2,a3⟩:=qH I b J.1 H.1 E;obtain⟨_,_,O,T,Z⟩:=Hl I [] r rfl rfl J.2 H.2 (by simp) M;simp only[dB,jQ,bO,dD,da,ic,Ds];exact⟨trivial,trivial,⟨A',O⟩,⟨a2,T⟩,cg.2 ⟨a3,Z⟩⟩
 |c::cs,b::r,V,Y,J,H,AI,h=>by
  simp only[da,ic,Ds]at J H;simp only[bO,dD,Ds]at V Y;obtain⟨Ab,A0⟩:=cg.1 h;obtain⟨E,M⟩:=cg.1 A0;obtain⟨q1,q2,q3⟩:=vr V.1 Y.1 Ab;obtain⟨A',a2,a3⟩:=qH I b J.1 H.1 E;obtain⟨d1,d2,O,T,Z⟩:=Hl I cs r V.2 Y.2 J.2 H.2 (by simpa using AI) M;simp only[dB,jQ,bO,dD,da,ic,Ds];exact⟨⟨q1,d1⟩,⟨q2,d2⟩,⟨A',O⟩,⟨a2,T⟩,cg.2 ⟨q3,cg.2 ⟨a3,Z⟩⟩⟩
 |_::_,[],_,_,_,_,AI,_=>by simp at AI
theorem Nu:∀(l:List (List Sm)),da l=true->ic l=true->l.length=1->(xC vs l).1=0->da (jQ l)=true/\ic (jQ l)=true/\(xC vs (jQ l)).1=0
 |[b],J,H,_,h=>by
  simp only[da,ic,apa]at J H;obtain⟨A',a2,a3⟩:=qH true b J H h;simp only[jQ,da,ic,apa];exact⟨A',a2,a3⟩
 |[],_,_,H,_=>by simp at H
 |_::_::_,_,_,H,_=>by simp at H
end
end
end Go.Am
end
section
namespace Go.Am
theorem JP{E:Int->Nat}{cells last:Int}:∀{ins:List ak}{i0:Nat},oD E cells last i0 ins=true↔∀i x,ins[i]?=some x->du E cells last ((i0+i:Nat):Int) x=true
 |[],i0=>by simp[oD]
 |y::r,i0=>by
  constructor
  ·intro h i x D;exact qB h i x D
  ·intro h;simp only[oD,Ds];refine⟨by simpa using h 0 y rfl,JP.2 (λi x D=>?_)⟩;have:=h (i+1) x (by simpa using D);rw[show i0+1+i=i0+(i+1) by omega];exact this
def uh(i:Nat)(x:ak):Bool:=decide (x.op=9\/x.op=10)&&decide (x.a.toNat=i)
theorem It(i:Nat):∀(l:List ak)(T:List Bool),i<T.length->
 (l.foldl (λl x=>if x.op=9\/x.op=10 then l.set x.a.toNat true else l) T).getD i false=(T.getD i false||l.any (uh i))
 |[],T,h=>by simp
 |x::r,T,h=>by
  simp only[af1,List.any_cons];by_cases e:x.op=9\/x.op=10
  ·rw[acs e,It i r _ (by simpa using h)];have:(T.set x.a.toNat true).getD i false=(T.getD i false||uh i x):=by
    simp only[adX,List.getElem?_set,uh,e,decide_true,ahl];by_cases H:x.a.toNat=i
    ·subst H;simp[h]
    ·simp[H]
   rw[this,Bool.or_assoc]
  ·rw[ach e,It i r _ h];simp[uh,e]
theorem JQ{ins:List ak}{i:Nat}(h:i<ins.length):(nZ ins).getD i false=ins.any (uh i):=by
 unfold nZ;rw[It i ins _ (by simpa using h)];simp[adX,h]
def Bd(succ:Nat->List Nat):Nat->Nat->Prop
 |0,i=>succ i=[]
 |h+1,i=>∀j∈succ i,Bd succ h j
theorem Bd.succ{succ:Nat->List Nat}:∀{h i:Nat},Bd succ h i->Bd succ (h+1) i
 |0,i,T=>λj D=>by rw[show succ i=[]from T]at D;simp at D
 |h+1,i,T=>λj D=>(T j D).succ
theorem Bd.le{succ:Nat->List Nat}{h AB i:Nat}(T:Bd succ h i)(Z:h<=AB):Bd succ AB i:=by
 induction Z with
 |refl=>exact T
 |step _ ih=>exact ih.succ
theorem Rh{succ:Nat->List Nat}:∀(l:List Nat),(∀j∈l,∃h,Bd succ h j)->∃h,∀j∈l,Bd succ h j
 |[],_=>⟨0,λj h=>by simp at h⟩
 |x::r,h=>by
  obtain⟨I,AH⟩:=h x (by simp);obtain⟨J,AI⟩:=Rh r (λj D=>h j (by simp[D]));refine⟨max I J,λj D=>?_⟩;rcases aco.1 D with rfl|D
  ·exact AH.le (by omega)
  ·exact (AI j D).le (by omega)
theorem Ri{succ:Nat->List Nat}{i:Nat}(h:Ends succ i):∃h,Bd succ h i:=by
 induction h with
 |mk i _ ih=>
  obtain⟨h,T⟩:=Rh (succ i) ih;exact⟨h+1,T⟩
theorem least{P:Nat->Prop}(h:∃n,P n):∃n,P n/\∀m,m<n->¬P m:=by
 obtain⟨n,U⟩:=h;induction n using Nat.strongRecOn with
 |ind n ih=>
  by_cases hm:∃m,m<n/\P m
  ·obtain⟨m,I,J⟩:=hm;exact ih m I J
  ·exact⟨n,U,λm I J=>hm ⟨m,I,J⟩⟩
theorem aj8{succ:Nat->List Nat}:∃r:Nat->Nat,∀i,Ends succ i->∀j∈succ i,r j<r i:=by
 classical
 let r:Nat->Nat:=λi=>if h:∃n,Bd succ n i then Classical.choose (least h)else 0
 refine⟨r,λi hi j D=>?_⟩;have A1:=Ri hi;have A2:∃n,Bd succ n j:=Ri (by cases hi with|mk _ h=>exact h j D);have AJ:r i=Classical.choose (least A1):=dif_pos A1;have AK:r j=Classical.choose (least A2):=dif_pos A2;obtain⟨V,a2⟩:=ao5 (least A1);obtain⟨AL,AC⟩:=ao5 (least A2);rw[<-AJ]at V a2;rw[<-AK]at AL AC;cases AD:r i with
 |zero=>
  rw[AD]at V;rw[show succ i=[]from V]at D;simp at D
 |succ n=>
  rw[AD]at V;have c:Bd succ n j:=V j D;exact ao8 λU=>AC n (by omega) c
theorem Nv{succ:Nat->List Nat}{N:Nat}{r:Nat->Nat}(h:∀i<N,∀j∈succ i,j<N/\r j<r i):∀i<N,Ends succ i:=by
 have key:∀(m i:Nat),r i<m->i<N->Ends succ i:=by
  intro m;induction m with
  |zero=>intro i hi;omega
  |succ m ih=>
   intro i hi AE;exact .mk i (λj D=>ih j (by have:=(h i AE j D).2;omega) (h i AE j D).1)
 exact λi hi=>key _ i (Nat.lt_succ_self _) hi
def fY(x:ak):Prop:=x.op=9\/x.op=10
instance (x:ak):Decidable (fY x):=inferInstanceAs (Decidable (_\/_))
structure Good(H:Int->Nat)(cells:Int)(l:List ak)(r:Nat->Nat)(st:Nat->List Bool):Prop where
 len:1<=l.length/\l.length<=4096
 last:∀x,l[l.length-1]?=some x->x.op=15
 form:∀(i:Nat) x,l[i]?=some x->du H cells ((l.length:Int)-1) i x=true
 st0:st 0=[]
 mv:∀(i:Nat) x,l[i]?=some x->cy x (st i)=some (st (i+1))
 A5:∀(i:Nat) x,l[i]?=some x->fY x->st x.a.toNat=[]
 auO:∀(i:Nat) x,l[i]?=some x->x.op≠11->∀j∈Av l i,r j<r i
theorem Good.tgt{H cells l r st}(h:Good H cells l r st){i:Nat}{x:ak}(E:l[i]?=some x)(D:fY x):0<=x.a/\x.a.toNat<l.length:=by
 have:=h.form i x E;unfold du at this;have I:=h.len.1;rcases D with e|e
 ·simp[e]at this;omega
 ·simp[e]at this;omega
theorem Good.aeY{H cells l r st}(h:Good H cells l r st){i:Nat}{x:ak}(E:l[i]?=some x):x.op=15↔i+1=l.length:=by
 constructor
 ·intro e;have:=h.form i x E;unfold du at this;simp[e]at this;have:=h.len.1;omega
 ·intro e;exact h.last x (by rw[show l.length-1=i by omega];exact E)
theorem Nw(A5:List Bool):∀(l:List ak)(i:Nat)(S:List Bool),gq A5 i l S=true->∃st:Nat->List Bool,st i=S/\∀k x,l[k]?=some x->(A5.getD (i+k) false=true->st (i+k)=[])/\cy x (st (i+k))=some (st (i+k+1))
 |[],i,S,_=>⟨λ_=>S,rfl,λk x h=>by simp at h⟩
 |x::r,i,S,h=>by
  unfold gq at h;split at h
  ·cases h
  ·rename_i Z;cases hm:cy x S with
   |none=>rw[hm]at h;cases h
   |some AM=>
    rw[hm]at h;obtain⟨st,I,J⟩:=Nw A5 r (i+1) AM h;refine⟨λk=>if k=i then S else st k,by simp,λk y M=>?_⟩;cases k with
    |zero=>
     simp at M;subst M;simp only[agq,adZ];refine⟨λO=>?_,by rw[ach (by omega),I];exact hm⟩;rw[O]at Z;simpa using Z
    |succ k=>
     have:=J k y (by simpa using M);simp only[show ¬(i+(k+1)=i) by omega,show ¬(i+(k+1)+1=i) by omega,adY];rw[show i+1+k=i+(k+1) by omega]at this;exact this
theorem Nx(A5:List Bool)(st:Nat->List Bool):∀(l:List ak)(i:Nat),(∀k x,l[k]?=some x->(A5.getD (i+k) false=true->st (i+k)=[])/\cy x (st (i+k))=some (st (i+k+1)))->gq A5 i l (st i)=true
 |[],i,_=>rfl
 |x::r,i,h=>by
  have A3:=h 0 x rfl;simp only[agq]at A3;unfold gq;rw[ach,A3.2]
  ·exact Nx A5 st r (i+1) (λk y M=>by
    have:=h (k+1) y (by simpa using M);rw[show i+(k+1)=i+1+k by omega]at this;exact this)
  ·intro A4;simp only[Ds,agD,List.isEmpty_eq_false_iff]at A4;exact A4.2 (A3.1 A4.1)
theorem aeZ{H:Int->Nat}{l:List ak}{vars cells:Int}(h:kO H l vars cells=true):(0<=cells/\cells<=8192/\0<=vars/\vars<=cells)/\∃r st,Good H cells l r st:=by
 simp only[kO,Ds]at h;obtain⟨⟨I,J⟩,c⟩:=h;have AN:=I;simp only[lu,Dt,Ds,acn]at I;obtain⟨⟨⟨⟨⟨⟨⟨V,a2⟩,a3⟩,a4⟩,a5⟩,AO⟩,A6⟩,AF⟩:=I;refine⟨⟨a3,a4,a5,AO⟩,?_⟩;obtain⟨r,A7⟩:=aj8 (succ:=ry l);obtain⟨st,AP,A'⟩:=Nw _ _ _ _ J;have AQ:∀i<l.length,Ends (ry l) i:=by
  intro i hi;exact ao8 λU=>by
   have:=(Jv AN).2 ⟨i,hi,U⟩;rw[this]at c;cases c
 refine⟨r,st,⟨by omega,by omega⟩,λx E=>?_,λi x E=>?_,AP,λi x E=>?_,λi x E D=>?_,λi x E AR j D=>?_⟩
 ·unfold rz at A6;rw[ajv,E]at A6;simpa using A6
 ·have:=qB AF i x E;simpa using this
 ·have:=(A' i x E).2;simpa using this
 ·have Y:=qB AF i x E;have hi:=(ace.1 E).1;have AG:x.a.toNat<l.length:=by
   unfold du at Y;rcases D with e|e
   ·simp[e]at Y;omega
   ·simp[e]at Y;omega
  have O:=JQ AG;have:l.any (uh x.a.toNat)=true:=by
   rw[List.any_eq_true];refine⟨x,acu E,?_⟩;unfold uh;have:(x.op=9\/x.op=10):=D;simp[this]
  rw[this]at O;obtain⟨y,M⟩:∃y,l[x.a.toNat]?=some y:=⟨_,adK AG⟩;have:=(A' _ y M).1;simp only[aeh]at this;exact this O
 ·have hi:=(ace.1 E).1;refine A7 i (AQ i hi) j ?_;unfold ry;rw[ach]
  ·exact D
  ·unfold iR;rw[E];simpa using AR
theorem abC{H cells l r st}(h:Good H cells l r st){i j:Nat}(hi:i<l.length)(D:j∈Av l i):j<l.length:=by
 have E:l[i]?=some l[i]:=by simp[hi]
 unfold Av at D;rw[E]at D;simp only at D;have AS:=h.aeY E;by_cases A8:l[i].op=9
 ·have:=h.tgt E (.inl A8);simp[A8]at D;omega
 ·by_cases A9:l[i].op=10
  ·have:=h.tgt E (.inr A9);simp[A9]at D;omega
  ·by_cases AA:l[i].op=15
   ·simp[AA]at D
   ·simp[A8,A9,AA]at D;have:¬(i+1=l.length):=λh=>AA (AS.2 h);omega
theorem aop{H:Int->Nat}{l:List ak}{vars cells:Int}{r:Nat->Nat}{st:Nat->List Bool}(AW:0<=cells/\cells<=8192/\0<=vars/\vars<=cells)(h:Good H cells l r st):kO H l vars cells=true:=by
 have Y:lu H l vars cells=true:=by
  simp only[lu,Dt,Ds,acn];have I:=h.len;refine⟨⟨⟨⟨⟨⟨⟨by omega,by omega⟩,by omega⟩,by omega⟩,by omega⟩,by omega⟩,?_⟩,JP.2 (λi x E=>by simpa using h.form i x E)⟩;unfold rz;rw[ajv,adK (by omega)];have:=h.last l[l.length-1] (by rw[adK (by omega)]);simpa using this
 have A':gq (nZ l) 0 l []=true:=by
  have:=Nx (nZ l) st l 0 (λk x E=>by
   refine⟨λO=>?_,by simpa using h.mv k x E⟩;simp only[aeh]at O⊢;have AT:=(ace.1 E).1;rw[JQ AT,List.any_eq_true]at O;obtain⟨y,M,A0⟩:=O;unfold uh at A0;simp only[Ds,acn]at A0;obtain⟨i,hi,rfl⟩:=List.getElem_of_mem M;have:=h.A5 i l[i] (by simp[hi]) A0.1;rw[A0.2]at this;exact this)
  rw[h.st0]at this;exact this
 have A7:rounds (gC l) (l.length+1) (List.range l.length) (List.replicate l.length 0)=false:=by
  cases AU:rounds (gC l) (l.length+1) (List.range l.length) (List.replicate l.length 0)with
  |false=>rfl
  |true=>
   obtain⟨i,hi,U⟩:=(Jv Y).1 AU;refine absurd (Nv (N:=l.length) (r:=r) (λi hi j D=>?_) i hi) U;unfold ry at D;split at D
   ·simp at D
   ·rename_i AV;refine⟨abC h hi D,h.auO i l[i] (by simp[hi]) (λe=>AV ?_) j D⟩;unfold iR;rw[adK hi];simpa using e
 unfold kO;rw[Y,A',A7];rfl
end Go.Am
end
section
namespace Go.Am
open Go
theorem Ny{s:Tx}{v:Vr}:∀{l:List Vr}{n:Int},bq l s=some v->(pP l s n).2=v
 |x::r,n,h=>by
  unfold bq at h;unfold pP;split at h
  ·rename_i e;cases h;rw[acs e]
  ·rename_i e;rw[ach e];exact Ny h
theorem iV{vs:List Vr}{s:Tx}{v:Vr}(h:bq vs s=some v):(cm vs s).2=v:=Ny h
theorem JR{s:Tx}{v:Vr}:∀{l:List Vr}{n:Int},(∀v∈l,0<=bX v)->bq l s=some v->n<=(pP l s n).1/\(pP l s n).1+bX v<=n+cJ l
 |x::r,n,I,h=>by
  have Y:=I x (by simp);have Z:0<=cJ r:=by
   have:∀l:List Vr,(∀v∈l,0<=bX v)->0<=cJ l:=by
    intro l;induction l with
    |nil=>intro _;simp[cJ]
    |cons y l ih=>intro h;have:=ih (λv H=>h v (by simp[H]));have:=h y (by simp);simp only[cJ];omega
   exact this r (λv H=>I v (by simp[H]))
  unfold bq at h;unfold pP;simp only[cJ];split at h
  ·rename_i e;cases h;rw[acs e];simp only;omega
  ·rename_i e;rw[ach e];have:=JR (n:=n+bX x) (λv H=>I v (by simp[H])) h;omega
theorem xP{vs:List Vr}{s:Tx}{v:Vr}(I:∀v∈vs,0<=bX v)(h:bq vs s=some v):0<=(cm vs s).1/\(cm vs s).1+bX v<=cJ vs:=by
 have:=JR (n:=0) I h;simp only[Int.zero_add]at this;exact this
theorem ae0:∀x∈MD,∀p∈x.2,p.ty=1\/p.ty=2:=by decide
theorem JS{k:Int}{p:Pn}:∀{l:List (Int×List Pn)},p∈u9 l k->∃x∈l,p∈x.2
 |(a,q)::r,h=>by
  unfold u9 at h;split at h
  ·exact⟨(a,q),by simp,h⟩
  ·obtain⟨x,E,D⟩:=JS h;exact⟨x,by simp[E],D⟩
theorem Nz{k:Int}{p:Pn}(h:p∈bI k):p.ty=1\/p.ty=2:=by
 obtain⟨x,E,D⟩:=JS h;exact ae0 x E p D
theorem NA{f:Tx}{p:Pn}:∀{l:List Pn}{i:Nat},Ax l f=some p->f≠[]/\p∈l/\∃j,CM l f i=some (j,p)/\i<=j/\j<i+l.length
 |q::r,i,h=>by
  unfold Ax at h;unfold CM;split at h
  ·rename_i e;cases h;exact⟨e.2,by simp,i,by rw[acs e.1],by omega,by simp⟩
  ·rename_i e;obtain⟨E,D,j,J,c,O⟩:=NA (i:=i+1) h;exact⟨E,by simp[D],j,by rw[ach (λe'=>e ⟨e',E⟩)];exact J,by omega,by simp;omega⟩
theorem vt{vs:List Vr}{s f:Tx}{v:Vr}{p:Pn}(H:bq vs s=some v)(T:2<v.ty)(U:nh v.ty f=some p):
 (jz vs s f).2=p/\p∈bI v.ty/\∃j:Nat,(jz vs s f).1=(cm vs s).1+j/\j<(bI v.ty).length:=by
 obtain⟨E,D,j,J,_,O⟩:=NA (i:=0) U;have V:=iV H;unfold jz;rw[H,V,acs ⟨rfl,T,E⟩,J];exact⟨rfl,D,j,rfl,by omega⟩
def cD:List ak->List Bool->Option (List Bool)
 |[],S=>some S
 |x::r,S=>(cy x S).bind (cD r)
theorem dN:∀(a b:List ak)(S:List Bool),cD (a++b) S=(cD a S).bind (cD b)
 |[],b,S=>rfl
 |x::a,b,S=>by
  simp only[agx,cD];cases cy x S with
  |none=>rfl
  |some M=>exact dN a b M
theorem Yr{f:ak->ak}(h:∀x,f x=x\/((x.op=9\/x.op=10)/\(f x).op=x.op))(x:ak)(S:List Bool):cy (f x) S=cy x S:=by
 rcases h x with e|⟨E,D⟩
 ·rw[e]
 ·rcases E with e|e
  ·have D:(f x).op=9:=by rw[D,e]
   simp[cy,D,e]
  ·have D:(f x).op=10:=by rw[D,e]
   simp[cy,D,e]
theorem sI{f:ak->ak}(h:∀x,f x=x\/((x.op=9\/x.op=10)/\(f x).op=x.op)):∀(l:List ak)(S:List Bool),cD (l.map f) S=cD l S
 |[],S=>rfl
 |x::r,S=>by
  simp only[adM,cD,Yr h];cases cy x S with
  |none=>rfl
  |some M=>exact sI h r M
theorem Ys(k:Nat)(x:ak):mM k x=x\/((x.op=9\/x.op=10)/\(mM k x).op=x.op):=by
 unfold mM;split
 ·rename_i h;exact .inr ⟨h.1,rfl⟩
 ·exact .inl rfl
theorem NB(k:Int)(x:ak):qF k x=x\/((x.op=9\/x.op=10)/\(qF k x).op=x.op):=by
 unfold qF;split
 ·rename_i h;exact .inr ⟨.inl h.1,rfl⟩
 ·exact .inl rfl
theorem NC(k:Int)(x:ak):ny k x=x\/((x.op=9\/x.op=10)/\(ny k x).op=x.op):=by
 unfold ny;split
 ·rename_i h;exact .inr ⟨.inl h.1,rfl⟩
 ·exact .inl rfl
theorem Iu(k:Nat)(l:List ak)(S:List Bool):cD (jg k l) S=cD l S:=sI (Ys k) l S
theorem mQ{t:Bool}{S:List Bool}(h:S.length<64):fe t S=some (S++[t]):=by unfold fe;rw[acs h]
theorem CQ(S:List Bool)(f:Bool):jx 1 false (S++[f])=some S:=by
 unfold jx;rw[ach (by simp)];simp
theorem Hm(S:List Bool):jx 1 true (S++[true])=some S:=by
 unfold jx;rw[ach (by simp)];simp
theorem abD(S:List Bool)(f g:Bool):jx 2 false (S++[f]++[g])=some S:=by
 unfold jx;rw[ach (by simp)];simp
theorem adS(S:List Bool):jx 2 true (S++[true]++[true])=some S:=by
 unfold jx;rw[ach (by simp)];simp
def Rm(u:Bool)(a D:EL):Prop:=a.1=0->D.1=if u=true then 9 else 0
theorem Rm.or{J V:Bool}{a D b Y:EL}(E:Rm J a D)(M:Rm V b Y):Rm (J||V) (gj a b) (gj D Y):=by
 intro h;unfold gj at h⊢;by_cases I:a.1=0
 ·rw[ach (λh=>h I)]at h;have E:=E I;have M:=M h;cases J with
  |true=>simp at E;rw[acs (by rw[E];decide),E];simp
  |false=>simp at E;rw[ach (λh=>h E)];simpa using M
 ·rw[acs I]at h;exact absurd h I
theorem Rm.zero:Rm false (0,0) (0,0):=λ_=>rfl
theorem Rm.same{u:Bool}{a D:EL}(hu:u=false)(h:D=a):Rm u a D:=by
 subst hu h;intro h;simpa using h
section
variable {vs O:List Vr} {H:Tx} (T:H≠[]) (U:∀s,bq O s=if s=H then none else bq vs s)
include T U
end
section
variable {vs O:List Vr} {H:Tx} (T:H≠[]) (U:∀s,bq O s=if s=H then none else bq vs s)
include T U
end
theorem qI{v:Vr}(h:dQ v=true):0<=bX v:=by
 simp only[dQ,Ds]at h;obtain⟨_,_,h,_⟩:=h;unfold bX;split
 ·rename_i D;rw[acs D]at h;have:=adT h;omega
 ·split<;>omega
def Bf(k:Int):Nat:=(bI k).length
def xQ(cells:Int)(x:ak):Prop:=1<=x.op/\x.op<=8/\du Bf cells 0 0 x=true
theorem kS{cells a n:Int}(Ac:0<=a)(A0:0<=n)(A1:a+n<=cells):fQ cells a n=true:=by
 unfold fQ;simp only[Ds,acn];omega
theorem ND{op n:Int}{name field:Tx}{sub:List Ex}{line:Int}(h:bC (.mk op n name field sub line)=true):1<=op/\op<=21:=by
 simp only[bC,Ds,agD,afY]at h;have:=h.1;omega
section
variable {vs:List Vr} {cells:Int} (A4:∀v∈vs,dQ v=true) (AP:cJ vs<=cells)
include A4 AP
theorem qJ:∀(x:Ex)(S:List Bool),bC x=true->(aK vs x).e=0->aR S.length x<=64->
 (∃f,cD (au vs x).1 S=some (S++[f])/\((aK vs x).t=2->f=true))/\(au vs x).2=decide ((aK vs x).t=2)/\((aK vs x).t=1\/(aK vs x).t=2)/\∀y∈(au vs x).1,xQ cells y
 | .mk op n name field sub line,S,A2,he,H=>by
  obtain⟨E,AQ⟩:=zn A2;have Ad:=ND A2;have AB:=DD A2 he;have AR:∀v∈vs,0<=bX v:=λv I=>qI (A4 v I);have ih:∀y∈sub,∀S:List Bool,aR S.length y<=64->_:=λy D S H=>qJ y S ((jN sub).1 AQ y D) (AB y D) H;unfold aR at H;unfold au;have Z:aK vs (.mk op n name field sub line)=aK vs (.mk op n name field sub line):=rfl;conv at Z=>rhs;unfold aK
  rw[Z]at he⊢;clear Z;by_cases A5:op=1\/op=2
  ·have hh:S.length<64:=by
    rw[acs (by omega)]at H;omega
   simp only[acs A5];refine⟨⟨decide (n=0)||decide (n=1),?_,?_⟩,rfl,by simp[fT];exact A5,?_⟩
   ·simp[cD,cy,ins,mQ hh];rfl
   ·intro A0;have A0:op=2:=A0;subst A0;simp[bC]at A2;simp only[agv,acn];omega
   ·intro y D;simp at D;subst D;simp[xQ,ins,du]
  ·simp only[ach A5]at he⊢;by_cases A':op=3\/op=4\/op=5
   ·simp only[acs A']at he⊢;cases I:bq vs name with
    |none=>rw[I]at he;simp[db]at he
    |some v=>
     rw[I]at he;simp only at he⊢;have AC:=iV I;have AD:=A4 v (ub I).1;have Ae:=xP AR I;have A6:=AD;simp only[dQ,Ds]at A6;by_cases A3:op=5
     ·subst A3;have hh:S.length<64:=by
       rw[acs (by omega)]at H;omega
      simp only[acs]at he⊢;by_cases AE:v.ty<=2
      ·rw[acs AE]at he;simp[db]at he
      ·rw[ach AE]at he⊢;cases AF:nh v.ty field with
       |none=>rw[AF]at he;simp[db]at he
       |some p=>
        obtain⟨q1,q2,j,q3,A7⟩:=vt I (by omega) AF;have AS:=Nz q2;have AG:bX v=(bI v.ty).length:=by
         unfold bX;have U:¬v.arr=true:=by
          intro AT;have M:=A6.2.2.1;rw[acs AT]at M;have:=adT M;omega
         rw[ach U,acs (by omega)]
        simp only[show ¬((5:Int)=3) by decide,adY,q1];have J:fQ cells (jz vs name field).1 1=true:=kS (by rw[q3];omega) (by omega) (by rw[q3];omega);rcases AS with e|e
        ·refine⟨⟨false,?_,λh=>by simp[fT,e]at h⟩,agS.2 apj,.inl e,?_⟩
         ·simp[cD,cy,ins,e,mQ hh]
         ·intro y D;simp at D;subst D;simp[xQ,ins,du,e,J]
        ·refine⟨⟨true,?_,λ_=>rfl⟩,agS.2 apj,.inr e,?_⟩
         ·simp[cD,cy,ins,e,mQ hh]
         ·intro y D;simp at D;subst D;simp[xQ,ins,du,e,J]
     ·simp only[ach A3]at he⊢;by_cases A8:v.arr≠decide (op=4)\/2<v.ty
      ·rw[acs A8]at he;simp[db]at he
      ·simp only[ach A8]at he⊢;have AH:v.arr=decide (op=4):=by
        cases Af:v.arr<;>cases Ag:decide (op=4)<;>simp_all
       have Ah:¬2<v.ty:=λh=>A8 (.inr h);have AI:v.ty=1\/v.ty=2:=by
        rcases Ij AD with h|h
        ·exact h
        ·omega
       by_cases M:op=4
       ·subst M;simp only[acs,show ¬((4:Int)=3) by decide,adY]at he⊢;obtain⟨z,rfl⟩:∃z,sub=[z]:=by
         match sub,E with
         |[z],_=>exact⟨z,rfl⟩
         |[],h=>simp[eF]at h
         |_::_::_,h=>simp[eF]at h
        rw[ach (by omega)]at H;simp only[gQ]at H;obtain⟨⟨f,i1,_⟩,_,_,i4⟩:=ih z (by simp) S (by omega);have AU:=AB z (by simp);have Z:za vs v.ty [z]=fT v.ty:=by
         simp only[za]at he⊢;rw[ach (by simpa using AU)]at he⊢;split at he
         ·simp[db]at he
         ·rename_i AV;rw[ach AV]
        rw[Z];have U:v.arr=true:=by simpa using AH
        have O:=A6.2.2.1;rw[acs U]at O;have O:=adT O;have AG:bX v=v.hi-v.lo+1:=by unfold bX;rw[acs U]
        have J:fQ cells (cm vs name).1 (v.hi-v.lo+1)=true:=kS (by omega) (by omega) (by omega);have hh:S.length<64:=by omega
        simp only[nj,AC];rcases AI with e|e
        ·refine⟨⟨false,?_,λh=>by simp[fT,e]at h⟩,agS.2 apj,.inl e,?_⟩
         ·rw[dN,i1];simp[cD,cy,ins,e,CQ,mQ hh]
         ·intro y D;rcases acC.1 D with D|D
          ·exact i4 y D
          ·simp at D;subst D;simp[xQ,ins,du,Ct,e,J];omega
        ·refine⟨⟨true,?_,λ_=>rfl⟩,agS.2 apj,.inr e,?_⟩
         ·rw[dN,i1];simp[cD,cy,ins,e,CQ,mQ hh]
         ·intro y D;rcases acC.1 D with D|D
          ·exact i4 y D
          ·simp at D;subst D;simp[xQ,ins,du,Ct,e,J];omega
       ·have A1:op=3:=by omega
        subst A1;have hh:S.length<64:=by
         rw[acs (by omega)]at H;omega
        simp only[acs,ach M,AC]at he⊢;have U:¬v.arr=true:=by simp[AH]
        have AG:bX v=1:=by unfold bX;rw[ach U,ach (by omega)]
        have J:fQ cells (cm vs name).1 1=true:=kS (by omega) (by omega) (by omega);rcases AI with e|e
        ·refine⟨⟨false,?_,λh=>by simp[fT,e]at h⟩,agS.2 apj,.inl e,?_⟩
         ·simp[cD,cy,ins,e,mQ hh]
         ·intro y D;simp at D;subst D;simp[xQ,ins,du,e,J]
        ·refine⟨⟨true,?_,λ_=>rfl⟩,agS.2 apj,.inr e,?_⟩
         ·simp[cD,cy,ins,e,mQ hh]
         ·intro y D;simp at D;subst D;simp[xQ,ins,du,e,J]
   ·have A1:¬op=3:=λh=>A' (.inl h);have M:¬op=4:=λh=>A' (.inr (.inl h));have A3:¬op=5:=λh=>A' (.inr (.inr h));simp only[ach A',ach A1,ach M,ach A3]at he⊢;rw[ach (by omega)]at H;have hh:S.length<64:=by omega
    match sub,E,ih,he,H with
    |[a],E,ih,he,H=>
     have AW:op=6\/op=7:=by
      simp only[eF]at E;split at E
      ·omega
      ·split at E<;>simp at E
     simp only[gQ]at H;obtain⟨⟨f,i1,i2⟩,i3,i4,i5⟩:=ih a (by simp) S (by omega);obtain⟨_,_,q3,_,A9⟩:=jy he;simp only[uL]at he⊢;simp only[A9,gd];rcases AW with e|e
     ·subst e;have V:(aK vs a).t=1:=by rw[q3];rfl
      have T:(au vs a).2=false:=by rw[i3,V];rfl
      simp only[T,agF,adY,adZ];refine⟨⟨false,?_,λh=>by simp[fT,iS]at h⟩,rfl,.inl rfl,?_⟩
      ·rw[dN,i1];simp[cD,cy,ins,CQ,mQ hh]
      ·intro y D;rcases acC.1 D with D|D
       ·exact i5 y D
       ·simp at D;subst D;simp[xQ,ins,du,s9]
     ·subst e;have V:(aK vs a).t=2:=by rw[q3];rfl
      have T:(au vs a).2=true:=by rw[i3,V];rfl
      obtain rfl:=i2 V;simp only[T,agF,adY,adZ];refine⟨⟨true,?_,λ_=>rfl⟩,rfl,.inr rfl,?_⟩
      ·rw[dN,i1];simp[cD,cy,ins,Hm,mQ hh]
      ·intro y D;rcases acC.1 D with D|D
       ·exact i5 y D
       ·simp at D;subst D;simp[xQ,ins,du,s9]
    |[a,b],E,ih,he,H=>
     have Ai:8<=op:=by
      simp only[eF]at E;split at E
      ·simp at E
      ·split at E
       ·omega
       ·simp at E
     simp only[gQ]at H;obtain⟨⟨f,i1,i2⟩,i3,i4,i5⟩:=ih a (by simp) S (by omega);have AX:((S++[f]).length:Int)=S.length+1:=by simp
     obtain⟨⟨g,AY,AZ⟩,AJ,A_,Aa⟩:=ih b (by simp) (S++[f]) (by rw[AX];omega);obtain⟨_,_,q3,A7,A9⟩:=jy he;simp only[uL]at he⊢;simp only[A9,gd];have AK:∀y∈(au vs a).1++(au vs b).1,xQ cells y:=by
      intro y D;rcases acC.1 D with D|D
      ·exact i5 y D
      ·exact Aa y D
     have AL:cD ((au vs a).1++(au vs b).1) S=some (S++[f]++[g]):=by rw[dN,i1];exact AY
     have AA:(fT (iS op)).t=if op<=12 then 1 else 2:=by
      simp only[fT,iS];by_cases h:op<=12
      ·rw[acs (by omega),acs h]
      ·rw[ach (by omega),ach h]
     have AM:decide (op=7\/12<op)=decide ((fT (iS op)).t=2):=by
      rw[AA];by_cases h:op<=12
      ·rw[acs h];simp;omega
      ·rw[ach h];simp;omega
     have AN:(fT (iS op)).t=1\/(fT (iS op)).t=2:=by
      rw[AA];split<;>simp
     have AO:(fT (iS op)).t=2->(decide (op=7)||decide (13<=op))=true:=by
      rw[AA];split
      ·simp
      ·intro _;simp;omega
     rcases A_ with e|e
     ·have T:(au vs b).2=false:=by rw[AJ,e];rfl
      have Y:im op (aK vs a).t=1:=by rw[<-A7];exact e
      have Aj:op<=18:=by
       by_cases h:op<=18
       ·exact h
       ·exfalso;unfold im at Y;rw[ach (by omega),ach (by omega)]at Y;omega
      simp only[T,agF,adY,adZ];refine⟨⟨decide (op=7)||decide (13<=op),?_,AO⟩,AM,AN,?_⟩
      ·rw[dN,AL];have O:¬(op=6\/op=7):=by omega
       simp only[ad0,cD,cy,ins,agF,adY];simp only[show ¬((8:Int)=1) by decide,show ¬((8:Int)=2) by decide,show ¬((8:Int)=3\/(8:Int)=13\/(8:Int)=14) by decide,show ¬((8:Int)=4) by decide,show ¬((8:Int)=5) by decide,show ¬((8:Int)=6) by decide,show ¬((8:Int)=7) by decide,adY,adZ,O,show decide ((0:Int)=1)=false by decide];change (((jx 2 false (S++[f]++[g])).bind _).bind _)=_
       rw[abD];simp only[ad0,mQ hh];rfl
      ·intro y D;rcases acC.1 D with D|D
       ·exact AK y D
       ·simp at D;subst D;simp[xQ,ins,du,s9];exact .inr ⟨agf (by omega),agf (by omega)⟩
     ·have T:(au vs b).2=true:=by rw[AJ,e];rfl
      have Y:im op (aK vs a).t=2:=by rw[<-A7];exact e
      have V:(aK vs a).t=2:=by rw[q3];exact Y
      obtain rfl:=i2 V;obtain rfl:=AZ e;have Ab:op=13\/op=14\/19<=op:=by
       unfold im at Y;split at Y
       ·omega
       ·omega
      simp only[T,agF,adY,adZ];refine⟨⟨decide (op=7)||decide (13<=op),?_,AO⟩,AM,AN,?_⟩
      ·rw[dN,AL];have O:¬(op=6\/op=7):=by omega
       simp only[ad0,cD,cy,ins,adZ];simp only[show ¬((8:Int)=1) by decide,show ¬((8:Int)=2) by decide,show ¬((8:Int)=3\/(8:Int)=13\/(8:Int)=14) by decide,show ¬((8:Int)=4) by decide,show ¬((8:Int)=5) by decide,show ¬((8:Int)=6) by decide,show ¬((8:Int)=7) by decide,adY,adZ,O,show decide ((1:Int)=1)=true by decide];change (((jx 2 true (S++[true]++[true])).bind _).bind _)=_
       rw[adS];simp only[ad0,mQ hh];rfl
      ·intro y D;rcases acC.1 D with D|D
       ·exact AK y D
       ·simp at D;subst D;simp[xQ,ins,du,s9];rcases Ab with h|h|h
        ·exact .inl (.inl (.inr (agf h)))
        ·exact .inl (.inr (agf h))
        ·exact .inr ⟨agf h,agf (by omega)⟩
    |[],E,_,_,_=>
     exfalso;simp only[eF,acw]at E;split at E
     ·simp at E
     ·split at E
      ·simp at E
      ·omega
    |a::b::c::d,E,_,_,_=>
     exfalso;simp only[eF]at E;split at E
     ·simp at E
     ·split at E<;>simp at E
termination_by x=>SizeOf.sizeOf x
decreasing_by all_goals (simp_wf;have:=List.sizeOf_lt_of_mem D;omega)
end
end Go.Am
end

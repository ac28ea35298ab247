/-
  Texts of one proof, one behind the other.
-/
import Derived.Test.YtdjlcobfpppbbaaGreatDoorQ5
set_option linter.all false
section
namespace Go.Am
open Go
def Kp(vs:List Vr)(x y:Ex):Prop:=bk y=true∧eE y=true∧aF vs y=aF vs x∧jC y=jC x
theorem SU{vs:List Vr}{y:Ex}{p:Int×Bool}(h:jb y=some p)(hf:bk y=true)(hl:eE y=true)(he:(aF vs y).e=0):
 aF vs y=eJ (if p.2=true then 2 else 1)∧(-9223372036854775808≤p.1∧p.1≤9223372036854775807):=by
 obtain⟨op,n,name,field,sub,line⟩:=y;simp only[eE,Bool.and_eq_true,decide_eq_true_eq]at hl;by_cases h1:op=1
 ·simp only[jb,mQ,uK,h1,if_true,Option.some.injEq]at h;subst h;simp[aF,h1,hl.1]
 ·by_cases h2:op=2
  ·simp only[jb,mQ,uK,h1,h2,if_false,if_true,Option.some.injEq,Int.reduceEq]at h;subst h;simp[aF,h2,hl.1]
  ·by_cases h6:op=6
   ·simp only[jb,mQ,uK,mR,h6,if_false,if_true,Int.reduceEq]at h;split at h
    ·rename_i z;split at h
     ·rename_i hz;cases h;obtain⟨op',n',avJ,at7,yx,avK⟩:=z;simp only[mQ]at hz;subst hz h6;simp only[ea,eE,Bool.and_true,Bool.and_eq_true,decide_eq_true_eq]at hl;have hn:0≤n':=by
       simp[bk,bH,dC]at hf;omega
      have hg:=SR (n:=n') ⟨by omega,by omega⟩;refine⟨?_,?_⟩
      ·simp[aF,qH,b8,eJ,fY,gF]
      ·simp only[uK,hg];omega
     ·cases h
    ·cases h
   ·simp only[jb,mQ,h1,h2,h6,if_false]at h;cases h
theorem MQ:∀{l:List Ex}{ps:List (Int×Bool)},m6 l=some ps→ps.length=l.length∧∀(i:Nat) y p,l[i]?=some y→ps[i]?=some p→jb y=some p
 |[],ps,h=>by simp only[m6]at h;cases h;exact⟨rfl,fun i y p h=>by simp at h⟩
 |x::r,ps,h=>by
  simp only[m6]at h;split at h
  ·rename_i p hp;split at h
   ·rename_i l hl;cases h;obtain⟨i1,i2⟩:=MQ hl;refine⟨by simp[i1],fun i y q hy hq=>?_⟩;cases i with
    |zero=>simp at hy hq;subst hy hq;exact hp
    |succ i=>simp at hy hq;exact i2 i y q hy hq
   ·cases h
  ·cases h
theorem ZF(vs:List Vr){n:Int}{t:Bool}{line:Int}(h:t=true→n=0∨n=1)(hi: -9223372036854775808≤n∧n≤9223372036854775807)(hm:¬(t=false∧n= -9223372036854775808)):
 bk (jD n t line)=true∧eE (jD n t line)=true∧aF vs (jD n t line)=eJ (if t=true then 2 else 1)∧jC (jD n t line)=line:=by
 unfold jD;cases t with
 |true=>
  have:=h rfl;refine⟨?_,?_,?_,?_⟩
  ·simp[bk,bH,dC];omega
  ·simp[eE,ea];omega
  ·simp[aF]
  ·simp
 |false=>
  simp only[Bool.false_eq_true,if_false];split
  ·rename_i h0;refine⟨?_,?_,?_,?_⟩
   ·simp[bk,bH,dC];omega
   ·simp[eE,ea];omega
   ·simp[aF]
   ·simp
  ·rename_i h0;have hn:n≠ -9223372036854775808:=fun e=>hm ⟨rfl,e⟩;have hg:=SR (n:=n) ⟨by omega,by omega⟩;refine⟨?_,?_,?_,?_⟩
   ·simp[bk,bH,dC,hg];omega
   ·simp[eE,ea,hg];omega
   ·simp[aF,qH,b8,eJ,fY,gF]
   ·simp
theorem aeg{vs:List Vr}{x:Ex}(hf:bk x=true)(hl:eE x=true)(he:(aF vs x).e=0):Kp vs x (fj x):=by
 have self:Kp vs x x:=⟨hf,hl,rfl,rfl⟩;unfold fj;split
 ·exact self
 ·rename_i hc;split
  ·exact self
  ·rename_i l aO;split
   ·exact self
   ·rename_i r cS;split
    ·exact self
    ·rename_i hr;simp only[not_or,Int.not_lt]at hc hr;obtain⟨op,n,name,field,sub,line⟩:=x;simp only[mQ,mR,RD]at hc aO cS⊢;obtain⟨k1,k2⟩:=MQ aO;have WB:=hf;simp only[bk,Bool.and_eq_true,decide_eq_true_eq]at WB;obtain⟨_,hlen,_,_,fQ⟩:=WB;have DD:=hl;simp only[eE,Bool.and_eq_true]at DD;have Vx:∀y∈sub,eE y=true:=by
      have:∀l:List Ex,ea l=true→∀y∈l,eE y=true:=by
       intro l;induction l with
       |nil=>intro _ y hy;simp at hy
       |cons z l ih=>
        intro h y hy;simp only[ea,Bool.and_eq_true]at h;rcases List.mem_cons.1 hy with rfl|hy
        ·exact h.1
        ·exact ih h.2 y hy
      exact this sub DD.2
     have mm:aF vs (.mk op n name field sub line)=qH vs op line sub:=by
      unfold aF;rw[if_neg (by omega),if_neg (by omega)]
     have m9:∀y∈sub,bk y=true:=(iO sub).1 fQ;have MR:∀y∈sub,(aF vs y).e=0:=by
      rw[mm]at he;intro y hy;match sub,hy,he,hlen with
      |[a],hy,he,_=>
       simp at hy;subst hy;exact (gS he).1
      |[a,b],hy,he,_=>
       simp at hy;rcases hy with rfl|rfl
       ·exact (gS he).1
       ·exact (gS he).2.1
      |a::b::c::d,hy,he,hlen=>
       exfalso;simp only[dC]at hlen;split at hlen
       ·simp at hlen
       ·split at hlen<;>simp at hlen
     have jR:∀p∈l, -9223372036854775808≤p.1∧p.1≤9223372036854775807:=by
      intro p hp;obtain⟨i,hi⟩:=List.getElem?_of_mem hp;have bn:=(List.getElem?_eq_some_iff.1 hi).1;have hy:∃y,sub[i]?=some y:=⟨sub[i]'(by omega),by simp[show i<sub.length by omega]⟩
      obtain⟨y,hy⟩:=hy;have hm:=List.mem_of_getElem? hy;exact (SU (k2 i y p hy hi) (m9 y hm) (Vx y hm) (MR y hm)).2
     obtain⟨q1,q2,q3⟩:=aef cS jR (by simpa using hr.1);have YR:=ZF vs (n:=r.1) (t:=r.2.1) (line:=line) (by rw[q1];exact q2) q3 (fun h=>hr.2 h);refine⟨YR.1,YR.2.1,?_,by rw[YR.2.2.2];rfl⟩;rw[YR.2.2.1,q1,mm];rw[mm]at he;have key:qH vs op line sub=eJ (gF op):=by
      match sub,he,hlen with
      |[a],he,_=>exact (gS he).2.2.2.2
      |[a,b],he,_=>exact (gS he).2.2.2.2
      |[],he,hlen=>
       exfalso;simp only[dC,List.length_nil]at hlen;split at hlen
       ·simp at hlen
       ·split at hlen
        ·simp at hlen
        ·omega
      |a::b::c::d,he,hlen=>
       exfalso;simp only[dC]at hlen;split at hlen
       ·simp at hlen
       ·split at hlen<;>simp at hlen
     rw[key];unfold gF;by_cases h:op=6∨(8≤op∧op≤12)<;>simp[h]
theorem zn{op n:Int}{name field:Tx}{sub:List Ex}{line:Int}(h:bk (.mk op n name field sub line)=true):sub.length=dC op∧bH sub=true:=by
 simp only[bk,Bool.and_eq_true,decide_eq_true_eq]at h;exact⟨h.2.1,h.2.2.2.2⟩
theorem Dr{vs:List Vr}{op n:Int}{name field:Tx}{sub:List Ex}{line:Int}(hf:bk (.mk op n name field sub line)=true)(he:(aF vs (.mk op n name field sub line)).e=0):∀y∈sub,(aF vs y).e=0:=by
 obtain⟨hlen,_⟩:=zn hf;intro y hy;unfold aF at he;by_cases kR:op=1∨op=2
 ·have hs:sub=[]:=List.eq_nil_of_length_eq_zero (by rw[hlen];unfold dC;rcases kR with h|h<;>subst h<;>decide);subst hs;simp at hy
 ·rw[if_neg kR]at he;by_cases sf:op=3∨op=4∨op=5
  ·rw[if_pos sf]at he;by_cases h4:op=4
   ·subst h4;obtain⟨z,rfl⟩:∃z,sub=[z]:=by
     match sub,hlen with
     |[z],_=>exact⟨z,rfl⟩
     |[],h=>simp[dC]at h
     |_::_::_,h=>simp[dC]at h
    simp at hy;subst hy;split at he
    ·simp[cy]at he
    ·rw[if_neg (by decide)]at he;split at he
     ·simp[cy]at he
     ·rw[if_pos rfl]at he;simp only[uL]at he;by_cases hz:(aF vs y).e=0
      ·exact hz
      ·rw[if_pos hz]at he;exact absurd he hz
   ·have hs:sub=[]:=List.eq_nil_of_length_eq_zero (by rw[hlen];unfold dC;rw[if_neg (by omega),if_neg (by omega)]);subst hs;simp at hy
  ·rw[if_neg sf]at he;match sub,hy,he,hlen with
   |[a],hy,he,_=>
    simp at hy;subst hy;exact (gS he).1
   |[a,b],hy,he,_=>
    simp at hy;rcases hy with rfl|rfl
    ·exact (gS he).1
    ·exact (gS he).2.1
   |a::b::c::d,hy,he,hlen=>
    exfalso;simp only[dC]at hlen;split at hlen
    ·simp at hlen
    ·split at hlen<;>simp at hlen
theorem ZG{op n:Int}{name field:Tx}{sub:List Ex}{line:Int}(h:eE (.mk op n name field sub line)=true):(-9223372036854775808≤n∧n≤9223372036854775807)∧ea sub=true:=by
 simp only[eE,Bool.and_eq_true,decide_eq_true_eq]at h;exact h
theorem s9:∀l:List Ex,ea l=true↔∀x∈l,eE x=true
 |[]=>by simp[ea]
 |x::r=>by simp[ea,s9 r]
section
variable {vs:List Vr}
theorem ZH{op n:Int}{name field:Tx}{sub yx:List Ex}{line:Int}(hl:yx.length=sub.length)(h:∀(i:Nat) x y,sub[i]?=some x→yx[i]?=some y→aF vs y=aF vs x∧jC y=jC x):
 aF vs (.mk op n name field yx line)=aF vs (.mk op n name field sub line):=by
 unfold aF;have hI:∀t,uL vs t yx=uL vs t sub:=by
  intro t;match sub,yx,hl,h with
  |[],[],_,_=>rfl
  |x::r,y::q,_,h=>
   obtain⟨h1,h2⟩:=h 0 x y rfl rfl;simp only[uL,h1,h2]
 have hO:qH vs op line yx=qH vs op line sub:=by
  match sub,yx,hl,h with
  |[],[],_,_=>rfl
  |[x],[y],_,h=>
   obtain⟨h1,h2⟩:=h 0 x y rfl rfl;simp only[qH,h1]
  |x::x'::r,y::y'::q,_,h=>
   obtain⟨h1,_⟩:=h 0 x y rfl rfl;obtain⟨h2,_⟩:=h 1 x' y' rfl rfl;simp only[qH,h1,h2]
 rw[hO];simp only[hI]
theorem Cx:∀x:Ex,bk x=true→eE x=true→(aF vs x).e=0→Kp vs x (cC x)
 | .mk op n name field sub line,hf,hl,he=>by
  obtain⟨f1,f2⟩:=zn hf;obtain⟨l1,l2⟩:=ZG hl;have hs:=Dr hf he;have ih:∀y∈sub,Kp vs y (cC y):=fun y hy=>Cx y ((iO sub).1 f2 y hy) ((s9 sub).1 l2 y hy) (hs y hy);have hlen:(cu sub).length=sub.length:=by rw[lR];simp
  have m9:bk (.mk op n name field (cu sub) line)=true:=by
   have fQ:bH (cu sub)=true:=by
    rw[iO,lR];intro y hy;obtain⟨z,hz,rfl⟩:=List.mem_map.1 hy;exact (ih z hz).1
   simp only[bk,Bool.and_eq_true]at hf⊢;refine⟨hf.1,?_,hf.2.2.1,hf.2.2.2.1,fQ⟩;rw[hlen];exact hf.2.1
  have Vx:eE (.mk op n name field (cu sub) line)=true:=by
   simp only[eE,Bool.and_eq_true,decide_eq_true_eq];refine⟨l1,?_⟩;rw[s9,lR];intro y hy;obtain⟨z,hz,rfl⟩:=List.mem_map.1 hy;exact (ih z hz).2.1
  have mm:aF vs (.mk op n name field (cu sub) line)=aF vs (.mk op n name field sub line):=by
   refine ZH hlen fun i x y hx hy=>?_;rw[lR,List.getElem?_map,hx]at hy;cases hy;have:=ih x (List.mem_of_getElem? hx);exact this.2.2
  have:=aeg (vs:=vs) m9 Vx (by rw[mm];exact he);obtain⟨k1,k2,k3,k4⟩:=this;exact⟨k1,k2,k3.trans mm,k4⟩
termination_by x=>SizeOf.sizeOf x
decreasing_by all_goals (simp_wf;have:=List.sizeOf_lt_of_mem hy;omega)
end
theorem bX{a b:EL}:(eU a b).1=0↔a.1=0∧b.1=0:=by
 unfold eU;by_cases h:a.1=0
 ·rw[if_neg (fun h'=>h' h)];simp[h]
 ·rw[if_pos h];simp[h]
theorem nE{vs:List Vr}{x:Ex}{t:Int}:(dj vs x t).1=0↔(aF vs x).e=0∧(aF vs x).t=t:=by
 unfold dj;by_cases h:(aF vs x).e=0
 ·rw[if_neg (fun h'=>h' h)];by_cases h2:(aF vs x).t=t
  ·rw[if_neg (fun h'=>h' h2)];simp[h,h2]
  ·rw[if_pos h2];simp[h2]
 ·rw[if_pos h];simp[h]
theorem MS{x:Ex}(h:dD x=true):cC x=x:=by
 obtain⟨op,n,name,field,sub,line⟩:=x;simp only[dD,mQ,uK,yn,Hi,mR,Bool.and_eq_true]at h;obtain⟨h1,h2,h3⟩:=h;have h1:op=0:=of_decide_eq_true h1;have h3:=of_decide_eq_true h3;have hs:sub=[]:=List.eq_nil_of_length_eq_zero (by omega);subst h1 hs;simp[cC,cu,fj]
theorem aeh{op n:Int}{name field:Tx}{sub:List Ex}{line:Int}(h:op<6):cC (.mk op n name field sub line)=.mk op n name field (cu sub) line:=by
 show fj _=_;unfold fj;rw[if_pos (.inl (by simpa using h))]
section
variable {vs:List Vr}
theorem rm{x:Ex}{t:Int}(hf:bk x=true)(hl:eE x=true)(h:(dj vs x t).1=0):bk (cC x)=true∧eE (cC x)=true∧(dj vs (cC x) t).1=0:=by
 obtain⟨h1,h2⟩:=nE.1 h;obtain⟨k1,k2,k3,_⟩:=Cx x hf hl h1;exact⟨k1,k2,nE.2 (by rw[k3];exact⟨h1,h2⟩)⟩
theorem HZ{t:Int}:∀l:List Ex,bH l=true→ea l=true→(kq vs t l).1=0→bH (cu l)=true∧ea (cu l)=true∧(kq vs t (cu l)).1=0
 |[],_,_,_=>⟨rfl,rfl,rfl⟩
 |x::r,hf,hl,h=>by
  simp only[bH,ea,Bool.and_eq_true]at hf hl;obtain⟨h1,h2⟩:=bX.1 h;obtain⟨a1,a2,a3⟩:=rm hf.1 hl.1 h1;obtain⟨b1,b2,b3⟩:=HZ r hf.2 hl.2 h2;simp only[cu,bH,ea,Bool.and_eq_true];exact⟨⟨a1,b1⟩,⟨a2,b2⟩,bX.2 ⟨a3,b3⟩⟩
theorem MT{k line:Int}:∀(fs:List Tx)(xs:List Ex)(p:List Tx),xs.length=fs.length→bH xs=true→ea xs=true→(iz vs k line fs xs p).1=0→bH (cu xs)=true∧ea (cu xs)=true∧(iz vs k line fs (cu xs) p).1=0
 |[],[],p,_,_,_,_=>⟨rfl,rfl,rfl⟩
 |f::fs,x::xs,p,hlen,hf,hl,h=>by
  simp only[bH,ea,Bool.and_eq_true]at hf hl;unfold iz at h;simp only[cu,bH,ea,Bool.and_eq_true];unfold iz;cases hp:kJ k f with
  |none=>rw[hp]at h;simp at h
  |some q=>
   rw[hp]at h;simp only at h⊢;split at h
   ·simp at h
   ·rename_i h1;split at h
    ·simp at h
    ·rename_i h2;obtain⟨h3,h4⟩:=bX.1 h;obtain⟨a1,a2,a3⟩:=rm hf.1 hl.1 h3;obtain⟨b1,b2,b3⟩:=MT fs xs (p++[f]) (by simpa using hlen) hf.2 hl.2 h4;rw[if_neg h1,if_neg h2];exact⟨⟨a1,b1⟩,⟨a2,b2⟩,bX.2 ⟨a3,b3⟩⟩
 |[],_::_,_,hl,_,_,_=>by simp at hl
 |_::_,[],_,hl,_,_,_=>by simp at hl
theorem H0:∀l:List (List Sm),(gj l).length=l.length
 |[]=>rfl
 |b::r=>by simp[gj,H0 r]
theorem Vy(l:List Ex):(cu l).length=l.length:=by rw[lR];simp
theorem Vz{x:Ex}(h:bk x=true):dD x=false:=by
 obtain⟨op,n,name,field,sub,line⟩:=x;simp only[bk,Bool.and_eq_true,Bool.not_eq_true',decide_eq_false_iff_not]at h;have:op≠0:=by
  intro e;apply h.1;omega
 simp[dD,this]
theorem ah9{to val:Ex}{line:Int}(h3:bR to=3∨bR to=4)(f1:bk to=true)(f2:bk val=true)(l1:eE to=true)(l2:eE val=true)(h:(Cn vs to val line).1=0):
 (bk (cC to)=true∧bk (cC val)=true)∧(eE (cC to)=true∧eE (cC val)=true)∧(Cn vs (cC to) (cC val) line).1=0∧bR (cC to)=bR to:=by
 have cE:cC to=.mk (bR to) (gY to) (dA to) (fi to) (cu (cK to)) (jC to):=by
  obtain⟨op,n,name,field,sub,l⟩:=to;simp only[mQ]at h3;exact aeh (by omega)
 have ha:dA (cC to)=dA to:=by rw[cE];rfl
 have ho:bR (cC to)=bR to:=by rw[cE];rfl
 unfold Cn at h⊢;rw[ha];cases hv:bg vs (dA to)with
 |none=>rw[hv]at h;simp at h
 |some v=>
  rw[hv]at h;simp only at h⊢;split at h
  ·simp at h
  ·rename_i hs;rw[if_neg hs];obtain⟨q1,q2⟩:=bX.1 h;obtain⟨q2,q3⟩:=bX.1 q2;obtain⟨a1,a2,a3,_⟩:=Cx to f1 l1 q1;obtain⟨b1,b2,b3,_⟩:=Cx val f2 l2 q2;refine⟨⟨a1,b1⟩,⟨a2,b2⟩,?_,ho⟩;rw[a3,b3];exact h
end
section
variable {vs:List Vr}
mutual
theorem aei(loops:Bool):∀s:Sm,iZ s=true→oq s=true→(jS vs loops s).1=0→iZ (nD s)=true∧oq (nD s)=true∧(jS vs loops (nD s)).1=0
 | .mk op name to val conds labels fields blocks line,hf,hl,h=>by
  simp only[iZ,Bool.and_eq_true,decide_eq_true_eq]at hf;obtain⟨cS,eN,cE,cA,eK,bZ,uT,uU,eO⟩:=hf;simp only[oq,Bool.and_eq_true]at hl;obtain⟨lto,H2,H3,ZI,uV⟩:=hl
  --akM aq8 to be shown,from its parts
  have fin:(if op=1 then decide (bR (cC to)=3∨bR (cC to)=4)&&bk (cC to)else dD (cC to))=true→
   (if op=1∨op=3∨op=5∨op=6 then !dD (cC val)&&bk (cC val)else dD (cC val))=true→bH (cu conds)=true→cI (gj blocks)=true→
   eE (cC to)=true→eE (cC val)=true→ea (cu conds)=true→ia (gj blocks)=true→
   (jS vs loops (.mk op name (cC to) (cC val) (cu conds) labels fields (gj blocks) line)).1=0→
   iZ (nD (.mk op name to val conds labels fields blocks line))=true∧oq (nD (.mk op name to val conds labels fields blocks line))=true∧(jS vs loops (nD (.mk op name to val conds labels fields blocks line))).1=0:=by
   intro a1 a2 a3 a4 a5 a6 a7 a8 a9;simp only[nD,iZ,oq,Bool.and_eq_true,decide_eq_true_eq,Vy,H0];exact⟨⟨cS,eN,a1,a2,a3,bZ,uT,uU,a4⟩,⟨a5,a6,a7,ZI,a8⟩,a9⟩
  have tn:¬op=1→(if op=1 then decide (bR (cC to)=3∨bR (cC to)=4)&&bk (cC to)else dD (cC to))=true∧eE (cC to)=true:=by
   intro h1;rw[if_neg h1]at cE⊢;rw[MS cE];exact⟨cE,lto⟩
  have vn:¬(op=1∨op=3∨op=5∨op=6)→(if op=1∨op=3∨op=5∨op=6 then !dD (cC val)&&bk (cC val)else dD (cC val))=true∧eE (cC val)=true:=by
   intro h1;rw[if_neg h1]at cA⊢;rw[MS cA];exact⟨cA,H2⟩
  have vv:(op=1∨op=3∨op=5∨op=6)→bk (cC val)=true→(if op=1∨op=3∨op=5∨op=6 then !dD (cC val)&&bk (cC val)else dD (cC val))=true:=by
   intro h1 h2;rw[if_pos h1,Vz h2,h2];rfl
  have vf:(op=1∨op=3∨op=5∨op=6)→bk val=true:=by
   intro h1;rw[if_pos h1]at cA;simp only[Bool.and_eq_true]at cA;exact cA.2
  unfold jS at h;by_cases h1:op=1
  ·subst h1;rw[if_pos rfl]at h;have hs:cq 1 conds.length labels.length fields.length blocks.length=true:=bZ;simp[cq]at hs;obtain⟨rfl,_,_,rfl⟩:=hs;rw[if_pos rfl]at cE;simp only[Bool.and_eq_true,decide_eq_true_eq]at cE;obtain⟨⟨k1,k2⟩,⟨k3,k4⟩,k5,k6⟩:=ah9 cE.1 cE.2 (vf (.inl rfl)) lto H2 h;refine fin (by rw[if_pos rfl,k6,k1];simp[cE.1]) (vv (.inl rfl) k2) rfl rfl k3 k4 rfl rfl ?_;unfold jS;rw[if_pos rfl];exact k5
  ·rw[if_neg h1]at h;obtain⟨t1,t2⟩:=tn h1;by_cases h2:op=2
   ·subst h2;rw[if_pos rfl]at h;have hs:cq 2 conds.length labels.length fields.length blocks.length=true:=bZ;simp[cq]at hs;obtain⟨v1,v2⟩:=vn (by decide);obtain⟨c1,c2,b1,b2,cb⟩:=Cy loops conds blocks eK H3 eO uV (by omega) h;refine fin t1 v1 c1 b1 t2 v2 c2 b2 ?_;unfold jS;rw[if_neg h1,if_pos rfl];exact cb
   ·rw[if_neg h2]at h;by_cases h3:op=3
    ·subst h3;rw[if_pos rfl]at h;have hs:cq 3 conds.length labels.length fields.length blocks.length=true:=bZ;simp[cq]at hs;obtain⟨rfl,_⟩:=hs;obtain⟨q1,q2⟩:=bX.1 h;obtain⟨v1,v2,v3⟩:=rm (vf (.inr (.inl rfl))) H2 q1;obtain⟨c1,c2,b1,b2,cb⟩:=Cy loops [] blocks rfl rfl eO uV (by simp) q2;refine fin t1 (vv (.inr (.inl rfl)) v1) rfl b1 t2 v2 rfl b2 ?_;unfold jS;rw[if_neg h1,if_neg h2,if_pos rfl];exact bX.2 ⟨v3,cb⟩
    ·rw[if_neg h3]at h;by_cases h4:op=4
     ·subst h4;rw[if_pos rfl]at h;have hs:cq 4 conds.length labels.length fields.length blocks.length=true:=bZ;simp[cq]at hs;obtain⟨_,_,_,gx⟩:=hs;obtain⟨v1,v2⟩:=vn (by decide);cases hv:bg vs name with
      |none=>rw[hv]at h;simp at h
      |some v=>
       rw[hv]at h;simp only at h;split at h
       ·simp at h
       ·rename_i g1;split at h
        ·simp at h
        ·rename_i g2;obtain⟨q1,q2⟩:=bX.1 h;obtain⟨c1,c2,c3⟩:=HZ conds eK H3 q1;obtain⟨b1,b2,b3⟩:=H4 blocks eO uV gx q2;refine fin t1 v1 c1 b1 t2 v2 c2 b2 ?_;unfold jS;rw[if_neg h1,if_neg h2,if_neg h3,if_pos rfl,hv];simp only
         rw[if_neg g1,if_neg g2];exact bX.2 ⟨c3,b3⟩
     ·rw[if_neg h4]at h;by_cases h5:op=5
      ·subst h5;rw[if_pos rfl]at h;have hs:cq 5 conds.length labels.length fields.length blocks.length=true:=bZ;simp[cq]at hs;obtain⟨rfl,_,_,gx⟩:=hs;obtain⟨q1,q2⟩:=bX.1 h;obtain⟨v1,v2,v3⟩:=rm (vf (.inr (.inr (.inl rfl)))) H2 q1;obtain⟨b1,b2,b3⟩:=H4 blocks eO uV gx q2;refine fin t1 (vv (.inr (.inr (.inl rfl))) v1) rfl b1 t2 v2 rfl b2 ?_;unfold jS;rw[if_neg h1,if_neg h2,if_neg h3,if_neg h4,if_pos rfl];exact bX.2 ⟨v3,b3⟩
      ·rw[if_neg h5]at h;by_cases h6:op=6
       ·subst h6;rw[if_pos rfl]at h;have hs:cq 6 conds.length labels.length fields.length blocks.length=true:=bZ;simp[cq]at hs;obtain⟨rfl,_,_,gx⟩:=hs;obtain⟨q1,q2⟩:=bX.1 h;obtain⟨v1,v2,v3⟩:=rm (vf (.inr (.inr (.inr rfl)))) H2 q2;obtain⟨b1,b2,b3⟩:=H4 blocks eO uV gx q1;refine fin t1 (vv (.inr (.inr (.inr rfl))) v1) rfl b1 t2 v2 rfl b2 ?_;unfold jS;rw[if_neg h1,if_neg h2,if_neg h3,if_neg h4,if_neg h5,if_pos rfl];exact bX.2 ⟨b3,v3⟩
       ·rw[if_neg h6]at h;obtain⟨v1,v2⟩:=vn (by omega);by_cases h7:op=7
        ·subst h7;rw[if_pos rfl]at h;have hs:cq 7 conds.length labels.length fields.length blocks.length=true:=bZ;simp[cq]at hs;obtain⟨rfl,_,_,rfl⟩:=hs;refine fin t1 v1 rfl rfl t2 v2 rfl rfl ?_;unfold jS;rw[if_neg h1,if_neg h2,if_neg h3,if_neg h4,if_neg h5,if_neg h6,if_pos rfl];exact h
        ·rw[if_neg h7]at h;by_cases h9:op=9
         ·subst h9;rw[if_pos rfl]at h;have hs:cq 9 conds.length labels.length fields.length blocks.length=true:=bZ;simp[cq]at hs;obtain⟨hcf,_,rfl⟩:=hs;cases hv:bg vs name with
          |none=>rw[hv]at h;simp at h
          |some v=>
           rw[hv]at h;simp only at h;split at h
           ·simp at h
           ·rename_i g1;obtain⟨c1,c2,c3⟩:=MT fields conds [] hcf eK H3 h;refine fin t1 v1 c1 rfl t2 v2 c2 rfl ?_;unfold jS;rw[if_neg h1,if_neg h2,if_neg h3,if_neg h4,if_neg h5,if_neg h6,if_neg h7,if_pos rfl,hv];simp only
            rw[if_neg g1];exact c3
         ·have h8:op=8:=by omega
          subst h8;have hs:cq 8 conds.length labels.length fields.length blocks.length=true:=bZ;simp[cq]at hs;obtain⟨rfl,_,_,rfl⟩:=hs;refine fin t1 v1 rfl rfl t2 v2 rfl rfl ?_;unfold jS;simp
theorem pk(loops:Bool):∀l:List Sm,ej l=true→iM l=true→(eu vs loops l).1=0→ej (dh l)=true∧iM (dh l)=true∧(eu vs loops (dh l)).1=0
 |[],_,_,_=>⟨rfl,rfl,rfl⟩
 |x::r,hf,hl,h=>by
  simp only[ej,iM,Bool.and_eq_true]at hf hl;obtain⟨h1,h2⟩:=bX.1 h;obtain⟨a1,a2,a3⟩:=aei loops x hf.1 hl.1 h1;obtain⟨b1,b2,b3⟩:=pk loops r hf.2 hl.2 h2;simp only[dh,ej,iM,Bool.and_eq_true];exact⟨⟨a1,b1⟩,⟨a2,b2⟩,bX.2 ⟨a3,b3⟩⟩
theorem Cy(loops:Bool):∀(cs:List Ex)(l:List (List Sm)),bH cs=true→ea cs=true→cI l=true→ia l=true→cs.length≤l.length→(fq vs loops cs l).1=0→
 bH (cu cs)=true∧ea (cu cs)=true∧cI (gj l)=true∧ia (gj l)=true∧(fq vs loops (cu cs) (gj l)).1=0
 |[],[],_,_,_,_,_,_=>⟨rfl,rfl,rfl,rfl,rfl⟩
 |[],b::r,c1,c2,hf,hl,_,h=>by
  simp only[cI,ia,Bool.and_eq_true]at hf hl;obtain⟨h1,h2⟩:=bX.1 h;obtain⟨a1,a2,a3⟩:=pk loops b hf.1 hl.1 h1;obtain⟨_,_,b1,b2,b3⟩:=Cy loops [] r rfl rfl hf.2 hl.2 (by simp) h2;simp only[cu,gj,bH,ea,cI,ia,Bool.and_eq_true];exact⟨trivial,trivial,⟨a1,b1⟩,⟨a2,b2⟩,bX.2 ⟨a3,b3⟩⟩
 |c::cs,b::r,c1,c2,hf,hl,hlen,h=>by
  simp only[cI,ia,Bool.and_eq_true]at hf hl;simp only[bH,ea,Bool.and_eq_true]at c1 c2;obtain⟨h0,h3⟩:=bX.1 h;obtain⟨h1,h2⟩:=bX.1 h3;obtain⟨q1,q2,q3⟩:=rm c1.1 c2.1 h0;obtain⟨a1,a2,a3⟩:=pk loops b hf.1 hl.1 h1;obtain⟨d1,d2,b1,b2,b3⟩:=Cy loops cs r c1.2 c2.2 hf.2 hl.2 (by simpa using hlen) h2;simp only[cu,gj,bH,ea,cI,ia,Bool.and_eq_true];exact⟨⟨q1,d1⟩,⟨q2,d2⟩,⟨a1,b1⟩,⟨a2,b2⟩,bX.2 ⟨q3,bX.2 ⟨a3,b3⟩⟩⟩
 |_::_,[],_,_,_,_,hlen,_=>by simp at hlen
theorem H4:∀(l:List (List Sm)),cI l=true→ia l=true→l.length=1→(s4 vs l).1=0→cI (gj l)=true∧ia (gj l)=true∧(s4 vs (gj l)).1=0
 |[b],hf,hl,_,h=>by
  simp only[cI,ia,Bool.and_true]at hf hl;obtain⟨a1,a2,a3⟩:=pk true b hf hl h;simp only[gj,cI,ia,Bool.and_true];exact⟨a1,a2,a3⟩
 |[],_,_,hl,_=>by simp at hl
 |_::_::_,_,_,hl,_=>by simp at hl
end
end
inductive MC(vs:List Vr)(lp:Bool):Sm→Prop
 |asg {to val:Ex} {line:Int} {v:Vr} (cE:bR to=3∨bR to=4) (hv:bg vs (dA to)=some v) (hs:¬v.sec=1) (ft:bk to=true) (et:(aF vs to).e=0) (fv:bk val=true) (ev:(aF vs val).e=0) (h:(aF vs val).t=(aF vs to).t):MC vs lp (.mk 1 [] to val [] [] [] [] line)
 |cnd {to val:Ex} {conds:List Ex} {blocks:List (List Sm)} {line:Int} (cE:dD to=true) (cA:dD val=true) (fc:bH conds=true) (h1:1≤conds.length) (h2:conds.length≤blocks.length) (h3:blocks.length≤conds.length+1) (fb:cI blocks=true) (h:(fq vs lp conds blocks).1=0):MC vs lp (.mk 2 [] to val conds [] [] blocks line)
 |cas {to val:Ex} {labels:List (List Int)} {blocks:List (List Sm)} {line:Int} (cE:dD to=true) (fv:bk val=true) (wv:(dj vs val 1).1=0) (h2:labels.length≤blocks.length) (h3:blocks.length≤labels.length+1) (AW:labels.all pc=true) (fb:cI blocks=true) (h:(fq vs lp [] blocks).1=0):MC vs lp (.mk 3 [] to val [] labels [] blocks line)
 |cnt {name:Tx} {to val x y z:Ex} {b:List Sm} {line:Int} {v:Vr} (hn:cY name=true) (cE:dD to=true) (cA:dD val=true) (hv:bg vs name=some v) (hs:¬v.sec=1) (ha:v.arr=false) (ht:v.ty=1) (fx:bk x=true) (wx:(dj vs x 1).1=0) (fy:bk y=true) (wy:(dj vs y 1).1=0) (fz:bk z=true) (wz:(dj vs z 1).1=0) (fb:ej b=true) (h:(eu vs true b).1=0):MC vs lp (.mk 4 name to val [x,y,z] [] [] [b] line)
 |whl {to val:Ex} {b:List Sm} {line:Int} (cE:dD to=true) (fv:bk val=true) (wv:(dj vs val 2).1=0) (fb:ej b=true) (h:(eu vs true b).1=0):MC vs lp (.mk 5 [] to val [] [] [] [b] line)
 |rep {to val:Ex} {b:List Sm} {line:Int} (cE:dD to=true) (fv:bk val=true) (wv:(dj vs val 2).1=0) (fb:ej b=true) (h:(eu vs true b).1=0):MC vs lp (.mk 6 [] to val [] [] [] [b] line)
 |ext {to val:Ex} {line:Int} (cE:dD to=true) (cA:dD val=true) (h:lp=true):MC vs lp (.mk 7 [] to val [] [] [] [] line)
 |ret {to val:Ex} {line:Int} (cE:dD to=true) (cA:dD val=true):MC vs lp (.mk 8 [] to val [] [] [] [] line)
 |cal {name:Tx} {to val:Ex} {conds:List Ex} {fields:List Tx} {line:Int} {v:Vr} (hn:cY name=true) (cE:dD to=true) (cA:dD val=true) (hv:bg vs name=some v) (ht:2<v.ty) (fc:bH conds=true) (hl:conds.length=fields.length) (hf:fields.all cY=true) (h:(iz vs v.ty line fields conds []).1=0):MC vs lp (.mk 9 name to val conds [] fields [] line)
theorem sg{α:Type}{l:List α}(h:l.length=0):l=[]:=List.eq_nil_of_length_eq_zero h
theorem Ds{α:Type}{l:List α}(h:l.length=1):∃a,l=[a]:=by
 match l,h with
 |[a],_=>exact⟨a,rfl⟩
theorem ao0{α:Type}{l:List α}(h:l.length=3):∃a b c,l=[a,b,c]:=by
 match l,h with
 |[a,b,c],_=>exact⟨a,b,c,rfl⟩
theorem PY{vs:List Vr}{b:List Sm}(h:(s4 vs [b]).1=0):(eu vs true b).1=0:=by simpa [s4]using h
theorem MU{vs:List Vr}{lp:Bool}{x:Sm}(hf:iZ x=true)(h:(jS vs lp x).1=0):MC vs lp x:=by
 obtain⟨op,name,to,val,conds,labels,fields,blocks,line⟩:=x;simp only[iZ,Bool.and_eq_true]at hf;obtain⟨cS,eN,cE,cA,eK,bZ,uT,uU,eO⟩:=hf;simp only[decide_eq_true_eq]at cS;unfold jS at h;have hc:op=1∨op=2∨op=3∨op=4∨op=5∨op=6∨op=7∨op=8∨op=9:=by omega
 rcases hc with rfl|rfl|rfl|rfl|rfl|rfl|rfl|rfl|rfl
 ·simp[cq]at eN cE cA bZ h;obtain⟨rfl,rfl,rfl,rfl⟩:=bZ;subst eN;unfold Cn at h;cases hv:bg vs (dA to)with
  |none=>rw[hv]at h;simp at h
  |some v=>
   rw[hv]at h;simp only at h;by_cases hs:v.sec=1
   ·simp[hs]at h
   ·rw[if_neg hs]at h;obtain⟨h1,h2⟩:=bX.1 h;obtain⟨h2,h3⟩:=bX.1 h2;refine .asg cE.1 hv hs cE.2 h1 cA.2 h2 ?_;apply Classical.byContradiction;intro hh;rw[if_pos hh]at h3;simp at h3
 ·simp[cq]at eN cE cA bZ h;obtain⟨h1,h2,h3,h4,h5⟩:=bZ;subst eN h2 h3;exact .cnd cE cA eK (by omega) (by omega) (by omega) eO h
 ·simp[cq]at eN cE cA bZ h;obtain⟨h1,h3,h4,h5⟩:=bZ;subst eN h1 h3;obtain⟨g1,g2⟩:=bX.1 h;exact .cas cE cA.2 g1 (by omega) (by omega) uU eO g2
 ·simp[cq]at eN cE cA bZ h;obtain⟨h1,h2,h3,h4⟩:=bZ;obtain⟨x,y,z,rfl⟩:=ao0 h1;obtain⟨b,rfl⟩:=Ds h4;subst h2 h3;cases hv:bg vs name with
  |none=>rw[hv]at h;simp at h
  |some v=>
   rw[hv]at h;simp only at h;by_cases hs:v.sec=1
   ·simp[hs]at h
   ·rw[if_neg hs]at h;by_cases ha:v.arr=true∨¬v.ty=1
    ·rw[if_pos ha]at h;simp at h
    ·rw[if_neg ha]at h;simp only[not_or,Bool.not_eq_true,Classical.not_not]at ha;obtain⟨g1,g2⟩:=bX.1 h;simp only[kq]at g1;obtain⟨w1,g1⟩:=bX.1 g1;obtain⟨w2,g1⟩:=bX.1 g1;obtain⟨w3,g1⟩:=bX.1 g1;simp only[bH,Bool.and_eq_true]at eK;simp only[cI,Bool.and_eq_true]at eO;exact .cnt eN cE cA hv hs ha.1 ha.2 eK.1 w1 eK.2.1 w2 eK.2.2.1 w3 eO.1 (PY g2)
 ·simp[cq]at eN cE cA bZ h;obtain⟨h1,h2,h3,h4⟩:=bZ;obtain⟨b,rfl⟩:=Ds h4;subst eN h1 h2 h3;obtain⟨g1,g2⟩:=bX.1 h;simp only[cI,Bool.and_eq_true]at eO;exact .whl cE cA.2 g1 eO.1 (PY g2)
 ·simp[cq]at eN cE cA bZ h;obtain⟨h1,h2,h3,h4⟩:=bZ;obtain⟨b,rfl⟩:=Ds h4;subst eN h1 h2 h3;obtain⟨g1,g2⟩:=bX.1 h;simp only[cI,Bool.and_eq_true]at eO;exact .rep cE cA.2 g2 eO.1 (PY g1)
 ·simp[cq]at eN cE cA bZ h;obtain⟨h1,h2,h3,h4⟩:=bZ;subst eN h1 h2 h3 h4;refine .ext cE cA ?_;cases lp with
  |true=>rfl
  |false=>simp at h
 ·simp[cq]at eN cE cA bZ h;obtain⟨h1,h2,h3,h4⟩:=bZ;subst eN h1 h2 h3 h4;exact .ret cE cA
 ·simp[cq]at eN cE cA bZ h;obtain⟨h1,h2,h3⟩:=bZ;subst h2 h3;cases hv:bg vs name with
  |none=>rw[hv]at h;simp at h
  |some v=>
   rw[hv]at h;simp only at h;by_cases ht:v.ty≤2
   ·rw[if_pos ht]at h;simp at h
   ·rw[if_neg ht]at h;exact .cal eN cE cA hv (by omega) eK h1 (List.all_eq_true.2 (by simpa using uT)) h
end Go.Am
end
section
namespace Go.Am
def Bd(succ:Nat→List Nat):Nat→Nat→Prop
 |0,i=>succ i=[]
 |h+1,i=>∀j∈succ i,Bd succ h j
theorem Bd.succ{succ:Nat→List Nat}:∀{h i:Nat},Bd succ h i→Bd succ (h+1) i
 |0,i,hb=>fun j hj=>by rw[show succ i=[]from hb]at hj;simp at hj
 |h+1,i,hb=>fun j hj=>(hb j hj).succ
theorem Bd.le{succ:Nat→List Nat}{h h' i:Nat}(hb:Bd succ h i)(hl:h≤h'):Bd succ h' i:=by
 induction hl with
 |refl=>exact hb
 |step _ ih=>exact ih.succ
def gr(x:ar):Prop:=x.op=9∨x.op=10
instance (x:ar):Decidable (gr x):=inferInstanceAs (Decidable (_∨_))
structure Good(pins:Int→Nat)(cells:Int)(l:List ar)(r:Nat→Nat)(st:Nat→List Bool):Prop where
 len:1≤l.length∧l.length≤4096
 last:∀x,l[l.length-1]?=some x→x.op=15
 form:∀(i:Nat) x,l[i]?=some x→eS pins cells ((l.length:Int)-1) i x=true
 st0:st 0=[]
 mv:∀(i:Nat) x,l[i]?=some x→df x (st i)=some (st (i+1))
 led:∀(i:Nat) x,l[i]?=some x→gr x→st x.a.toNat=[]
 ayb:∀(i:Nat) x,l[i]?=some x→x.op≠11→∀j∈af4 l i,r j<r i
end Go.Am
end
section
namespace Go.Am
open Go
theorem H5{s:Tx}{v:Vr}:∀{l:List Vr}{n:Int},bg l s=some v→(oP l s n).2=v
 |x::r,n,h=>by
  unfold bg at h;unfold oP;split at h
  ·rename_i e;cases h;rw[if_pos e]
  ·rename_i e;rw[if_neg e];exact H5 h
theorem iB{vs:List Vr}{s:Tx}{v:Vr}(h:bg vs s=some v):(b9 vs s).2=v:=H5 h
theorem EI{s:Tx}{v:Vr}:∀{l:List Vr}{n:Int},(∀v∈l,0≤bK v)→bg l s=some v→n≤(oP l s n).1∧(oP l s n).1+bK v≤n+cd l
 |x::r,n,hc,h=>by
  have hx:=hc x (by simp);have hr:0≤cd r:=by
   have:∀l:List Vr,(∀v∈l,0≤bK v)→0≤cd l:=by
    intro l;induction l with
    |nil=>intro _;simp[cd]
    |cons y l ih=>intro h;have:=ih (fun v hv=>h v (by simp[hv]));have:=h y (by simp);simp only[cd];omega
   exact this r (fun v hv=>hc v (by simp[hv]))
  unfold bg at h;unfold oP;simp only[cd];split at h
  ·rename_i e;cases h;rw[if_pos e];simp only;omega
  ·rename_i e;rw[if_neg e];have:=EI (n:=n+bK x) (fun v hv=>hc v (by simp[hv])) h;omega
theorem ta{vs:List Vr}{s:Tx}{v:Vr}(hc:∀v∈vs,0≤bK v)(h:bg vs s=some v):0≤(b9 vs s).1∧(b9 vs s).1+bK v≤cd vs:=by
 have:=EI (n:=0) hc h;simp only[Int.zero_add]at this;exact this
theorem ZJ:∀x∈Hj,∀p∈x.2,p.ty=1∨p.ty=2:=by decide
theorem EJ{k:Int}{p:Pn}:∀{l:List (Int×List Pn)},p∈q8 l k→∃x∈l,p∈x.2
 |(a,q)::r,h=>by
  unfold q8 at h;split at h
  ·exact⟨(a,q),by simp,h⟩
  ·obtain⟨x,h1,h2⟩:=EJ h;exact⟨x,by simp[h1],h2⟩
theorem SV{k:Int}{p:Pn}(h:p∈bz k):p.ty=1∨p.ty=2:=by
 obtain⟨x,h1,h2⟩:=EJ h;exact ZJ x h1 p h2
theorem H6{f:Tx}{p:Pn}:∀{l:List Pn}{i:Nat},vW l f=some p→f≠[]∧p∈l∧∃j,yw l f i=some (j,p)∧i≤j∧j<i+l.length
 |q::r,i,h=>by
  unfold vW at h;unfold yw;split at h
  ·rename_i e;cases h;exact⟨e.2,by simp,i,by rw[if_pos e.1],by omega,by simp⟩
  ·rename_i e;obtain⟨h1,h2,j,h3,h4,h5⟩:=H6 (i:=i+1) h;exact⟨h1,by simp[h2],j,by rw[if_neg (fun e'=>e ⟨e',h1⟩)];exact h3,by omega,by simp;omega⟩
theorem uW{vs:List Vr}{s f:Tx}{v:Vr}{p:Pn}(hv:bg vs s=some v)(ht:2<v.ty)(hp:kJ v.ty f=some p):
 (ie vs s f).2=p∧p∈bz v.ty∧∃j:Nat,(ie vs s f).1=(b9 vs s).1+j∧j<(bz v.ty).length:=by
 obtain⟨h1,h2,j,h3,_,h5⟩:=H6 (i:=0) hp;have ha:=iB hv;unfold ie;rw[hv,ha,if_pos ⟨rfl,ht,h1⟩,h3];exact⟨rfl,h2,j,rfl,by omega⟩
def cO:List ar→List Bool→Option (List Bool)
 |[],S=>some S
 |x::r,S=>(df x S).bind (cO r)
theorem dG:∀(a b:List ar)(S:List Bool),cO (a++b) S=(cO a S).bind (cO b)
 |[],b,S=>rfl
 |x::a,b,S=>by
  simp only[List.cons_append,cO];cases df x S with
  |none=>rfl
  |some S'=>exact dG a b S'
theorem SW{f:ar→ar}(h:∀x,f x=x∨((x.op=9∨x.op=10)∧(f x).op=x.op))(x:ar)(S:List Bool):df (f x) S=df x S:=by
 rcases h x with e|⟨h1,h2⟩
 ·rw[e]
 ·rcases h1 with e|e
  ·have h2:(f x).op=9:=by rw[h2,e]
   simp[df,h2,e]
  ·have h2:(f x).op=10:=by rw[h2,e]
   simp[df,h2,e]
theorem wb{f:ar→ar}(h:∀x,f x=x∨((x.op=9∨x.op=10)∧(f x).op=x.op)):∀(l:List ar)(S:List Bool),cO (l.map f) S=cO l S
 |[],S=>rfl
 |x::r,S=>by
  simp only[List.map_cons,cO,SW h];cases df x S with
  |none=>rfl
  |some S'=>exact wb h r S'
theorem SX(k:Nat)(x:ar):mr k x=x∨((x.op=9∨x.op=10)∧(mr k x).op=x.op):=by
 unfold mr;split
 ·rename_i h;exact .inr ⟨h.1,rfl⟩
 ·exact .inl rfl
theorem H7(k:Int)(x:ar):se k x=x∨((x.op=9∨x.op=10)∧(se k x).op=x.op):=by
 unfold se;split
 ·rename_i h;exact .inr ⟨.inl h.1,rfl⟩
 ·exact .inl rfl
theorem Dt(k:Nat)(l:List ar)(S:List Bool):cO (ig k l) S=cO l S:=wb (SX k) l S
theorem ku{t:Bool}{S:List Bool}(h:S.length<64):m4 t S=some (S++[t]):=by unfold m4;rw[if_pos h]
theorem yy(S:List Bool)(f:Bool):mC 1 false (S++[f])=some S:=by
 unfold mC;rw[if_neg (by simp)];simp
theorem Cz(S:List Bool):mC 1 true (S++[true])=some S:=by
 unfold mC;rw[if_neg (by simp)];simp
theorem VA(S:List Bool)(f g:Bool):mC 2 false (S++[f]++[g])=some S:=by
 unfold mC;rw[if_neg (by simp)];simp
theorem YS(S:List Bool):mC 2 true (S++[true]++[true])=some S:=by
 unfold mC;rw[if_neg (by simp)];simp
inductive XC(vs:List Vr):Ex→Prop
 |num {n:Int} {line:Int} (h:0≤n):XC vs (.mk 1 n [] [] [] line)
 |qE {n:Int} {line:Int} (h:n=0∨n=1):XC vs (.mk 2 n [] [] [] line)
 |var {name:Tx} {line:Int} {v:Vr} (hv:bg vs name=some v) (ha:v.arr=false) (ht:v.ty≤2):XC vs (.mk 3 0 name [] [] line)
 |idx {name:Tx} {line:Int} {v:Vr} {y:Ex} (hv:bg vs name=some v) (ha:v.arr=true) (ht:v.ty≤2) (fy:bk y=true) (ey:(aF vs y).e=0) (ty:(aF vs y).t=1):XC vs (.mk 4 0 name [] [y] line)
 |YT {name field:Tx} {line:Int} {v:Vr} {q:Pn} (hv:bg vs name=some v) (ht:2<v.ty) (hq:kJ v.ty field=some q) (hf:cY field=true):XC vs (.mk 5 0 name field [] line)
 |one {op line:Int} {y:Ex} (ho:op=6∨op=7) (fy:bk y=true) (ey:(aF vs y).e=0) (ty:(aF vs y).t=fY op (aF vs y).t):XC vs (.mk op 0 [] [] [y] line)
 |two {op line:Int} {y z:Ex} (ho:8≤op∧op≤21) (fy:bk y=true) (ey:(aF vs y).e=0) (fz:bk z=true) (ez:(aF vs z).e=0) (ty:(aF vs y).t=fY op (aF vs y).t) (tz:(aF vs z).t=fY op (aF vs y).t):XC vs (.mk op 0 [] [] [y,z] line)
theorem Du{vs:List Vr}{x:Ex}(hf:bk x=true)(he:(aF vs x).e=0):XC vs x:=by
 obtain⟨op,n,name,field,sub,line⟩:=x;simp only[bk,Bool.and_eq_true,decide_eq_true_eq,Bool.not_eq_true',decide_eq_false_iff_not]at hf;obtain⟨h0,hlen,eN,lU,fQ⟩:=hf;simp only[not_or,not_and]at h0;obtain⟨n1,n2,n3,n4,n5⟩:=h0;unfold aF at he;by_cases o12:op=1∨op=2
 ·rw[if_neg (by omega)]at eN lU;simp only[decide_eq_true_eq]at eN lU;subst eN lU;have hs:sub=[]:=sg (by rw[hlen];unfold dC;rcases o12 with h|h<;>subst h<;>decide);subst hs;rcases o12 with h|h
  ·subst h;exact .num (by have:=n1 rfl;omega)
  ·subst h;have:=n2 rfl;exact .qE (by omega)
 ·rw[if_neg o12]at he;have hn:n=0:=by
   have:=n3 (by omega);simpa using this
  subst hn;by_cases VB:op=3∨op=4∨op=5
  ·rw[if_pos VB]at he;rw[if_pos VB]at eN;cases hv:bg vs name with
   |none=>rw[hv]at he;simp[cy]at he
   |some v=>
    rw[hv]at he;simp only at he;by_cases o5:op=5
    ·subst o5;rw[if_pos rfl]at he lU;by_cases ht:v.ty≤2
     ·rw[if_pos ht]at he;simp[cy]at he
     ·rw[if_neg ht]at he;have hs:sub=[]:=sg (by rw[hlen];decide);subst hs;cases hq:kJ v.ty field with
      |none=>rw[hq]at he;simp[cy]at he
      |some q=>exact .YT hv (by omega) hq lU
    ·rw[if_neg o5]at he lU;simp only[decide_eq_true_eq]at lU;subst lU;by_cases hc:v.arr≠decide (op=4)∨2<v.ty
     ·rw[if_pos hc]at he;simp[cy]at he
     ·rw[if_neg hc]at he;simp only[not_or,ne_eq,Classical.not_not]at hc;by_cases o4:op=4
      ·subst o4;rw[if_pos rfl]at he;obtain⟨y,rfl⟩:=Ds (l:=sub) (by rw[hlen];decide);simp only[bH,Bool.and_eq_true]at fQ;simp only[uL]at he;by_cases hy:(aF vs y).e=0
       ·rw[if_neg (by simpa using hy)]at he;by_cases hy2:(aF vs y).t=1
        ·exact .idx hv (by simpa using hc.1) (by omega) fQ.1 hy hy2
        ·rw[if_pos hy2]at he;simp[cy]at he
       ·rw[if_pos hy]at he;exact absurd he hy
      ·have o3:op=3:=by omega
       subst o3;have hs:sub=[]:=sg (by rw[hlen];decide);subst hs;exact .var hv (by simpa using hc.1) (by omega)
  ·rw[if_neg VB]at he eN;rw[if_neg (by omega)]at lU;simp only[decide_eq_true_eq]at eN lU;subst eN lU;by_cases o67:op=6∨op=7
   ·obtain⟨y,rfl⟩:=Ds (l:=sub) (by rw[hlen];unfold dC;rcases o67 with h|h<;>subst h<;>decide);simp only[bH,Bool.and_eq_true]at fQ;simp only[qH]at he;obtain⟨g1,g2,g3,g4,g5⟩:=gS he;exact .one o67 fQ.1 g1 g3
   ·have Ob:sub.length=2:=by rw[hlen];unfold dC;rw[if_neg (by omega),if_pos (by omega)]
    match sub,Ob with
    |[y,z],_=>
     simp only[bH,Bool.and_eq_true]at fQ;simp only[qH]at he;obtain⟨g1,g2,g3,g4,g5⟩:=gS he;exact .two (by omega) fQ.1 g1 fQ.2.1 g2 g3 g4
theorem jQ(vs:List Vr)(x:Ex):1≤(ak vs x).1.length:=by
 obtain⟨op,n,name,field,sub,line⟩:=x;unfold ak;split
 ·simp
 ·split
  ·simp
  ·split
   ·simp
   ·split
    ·simp
    ·simp
def jT(n:Nat)(x:ar):ar:=if x.op=9∨x.op=10 then {x with a:=if 0≤x.a then x.a+n else 0} else x
def cF(n:Nat)(l:List ar):List ar:=l.map (jT n)
theorem Fx{n:Nat}{a:Int}(h:0≤a):jT n (ins 9 a 0 0 0)=ins 9 (a+n) 0 0 0:=by simp[jT,ins,h]
theorem yz{n:Nat}{a:Int}(h:0≤a):jT n (ins 10 a 0 0 0)=ins 10 (a+n) 0 0 0:=by simp[jT,ins,h]
@[simp] theorem mh(n:Nat)(l:List ar):(cF n l).length=l.length:=by simp[cF]
theorem pn(n:Nat)(a b:List ar):cF n (a++b)=cF n a++cF n b:=by simp[cF]
@[simp] theorem uX(n:Nat):cF n []=[]:=rfl
theorem nh(n:Nat)(x:ar)(l:List ar):cF n (x::l)=jT n x::cF n l:=rfl
theorem aeq(n k:Nat)(x:ar):jT n (mr k x)=jT (n+k) x:=by
 obtain⟨op,a,b,c,d⟩:=x;unfold jT mr;by_cases h:op=9∨op=10
 ·by_cases h0:0≤a
  ·simp only[h,h0,and_self,if_true,ar.mk.injEq,true_and,and_true];rw[if_pos (by omega)];omega
  ·simp only[h,h0,and_false,if_false,if_true]
 ·simp only[h,false_and,if_false]
theorem yA(n k:Nat)(l:List ar):cF n (ig k l)=cF (n+k) l:=by
 unfold cF ig;rw[List.map_map];congr 1;funext x;exact aeq n k x
theorem H8(n:Nat)(a b:List ar):cF n (jn a b)=cF n a++cF (n+a.length) b:=by rw[jn,pn,yA]
def Flat(l:List ar):Prop:=∀x∈l,x.op≠9∧x.op≠10
theorem Flat.cF{l:List ar}(h:Flat l)(n:Nat):Am.cF n l=l:=by
 unfold Am.cF;conv=>rhs;rw[←List.map_id l]
 refine List.map_congr_left fun x hx=>?_;have:=h x hx;simp[jT,this.1,this.2]
theorem Flat.app{a b:List ar}(ha:Flat a)(hb:Flat b):Flat (a++b):=fun x hx=>(List.mem_append.1 hx).elim (ha x) (hb x)
theorem Flat.nil:Flat []:=fun _ h=>by simp at h
theorem Flat.one{x:ar}(h:x.op≠9∧x.op≠10):Flat [x]:=fun y hy=>by simp at hy;subst hy;exact h
theorem Flat.cons{x:ar}{l:List ar}(h:x.op≠9∧x.op≠10)(hl:Flat l):Flat (x::l):=fun y hy=>by
 rcases List.mem_cons.1 hy with rfl|hy
 ·exact h
 ·exact hl y hy
def cB(k:Int):Nat→List ar→List Int
 |_,[]=>[]
 |n,x::r=>if x.op=9∧x.a=k then (n:Int)::cB k (n+1) r else cB k (n+1) r
theorem jc(k:Int):∀(a b:List ar)(n:Nat),cB k n (a++b)=cB k n a++cB k (n+a.length) b
 |[],b,n=>by simp[cB]
 |x::a,b,n=>by
  simp only[List.cons_append,cB,jc k a b (n+1),List.length_cons];rw[show n+1+a.length=n+(a.length+1) by omega];split<;>simp
theorem po{k:Int}{l:List ar}(h:Flat l)(n:Nat):cB k n l=[]:=by
 induction l generalizing n with
 |nil=>rfl
 |cons x r ih=>
  simp only[cB];rw[if_neg (fun hh=>(h x (by simp)).1 hh.1)];exact ih (fun y hy=>h y (by simp[hy])) _
theorem H9{k:Int}{f:ar→ar}(h:∀x,((f x).op=9∧(f x).a=k)↔(x.op=9∧x.a=k)):∀(l:List ar)(n:Nat),cB k n (l.map f)=cB k n l
 |[],n=>rfl
 |x::r,n=>by
  simp only[List.map_cons,cB,H9 h r];by_cases hx:x.op=9∧x.a=k
  ·rw[if_pos hx,if_pos ((h x).2 hx)]
  ·rw[if_neg hx,if_neg (fun hh=>hx ((h x).1 hh))]
theorem Fy{k:Int}(hk:k<0)(j:Nat)(l:List ar)(n:Nat):cB k n (ig j l)=cB k n l:=by
 refine H9 (fun x=>?_) l n;unfold mr;split
 ·rename_i h;simp only;omega
 ·exact Iff.rfl
theorem Fz{k:Int}(hk:k<0)(a b:List ar)(n:Nat):cB k n (jn a b)=cB k n a++cB k (n+a.length) b:=by rw[jn,jc,Fy hk]
def kI(k to:Int)(x:ar):ar:=if x.op=9∧x.a=k then {x with a:=to} else x
theorem aer{k to:Int}(h:to≠k):∀(l:List ar)(n:Nat),cB k n (l.map (kI k to))=[]
 |[],n=>rfl
 |x::r,n=>by
  simp only[List.map_cons,cB,aer h r];rw[if_neg];unfold kI;split
  ·rintro ⟨_,hh⟩;exact h hh
  ·assumption
theorem PZ{k k2 to:Int}(h1:to≠k2)(h2:k≠k2)(l:List ar)(n:Nat):cB k2 n (l.map (kI k to))=cB k2 n l:=by
 refine H9 (fun x=>?_) l n;unfold kI;split
 ·rename_i h;simp only
  constructor
  ·rintro ⟨_,hh⟩;exact absurd hh h1
  ·rintro ⟨_,hh⟩;exact absurd (h.2.symm.trans hh) h2
 ·exact Iff.rfl
def setAt(l:List ar)(i:Int)(v:Int):List ar:=l.modify i.toNat fun x=>{x with a:=v}
def jd(l:List ar)(ps:List Int)(v:Int):List ar:=ps.foldl (fun l i=>setAt l i v) l
@[simp] theorem SY(l:List ar)(i v:Int):(setAt l i v).length=l.length:=by simp[setAt]
@[simp] theorem CA:∀(ps:List Int)(l:List ar)(v:Int),(jd l ps v).length=l.length
 |[],l,v=>rfl
 |i::r,l,v=>by
  show (jd (setAt l i v) r v).length=_;rw[CA r];simp
theorem qh(pre:List ar)(x:ar)(post:List ar)(v:Int):setAt (pre++x::post) pre.length v=pre++{x with a:=v}::post:=by
 unfold setAt;rw[Int.toNat_natCast];induction pre with
 |nil=>rfl
 |cons y r ih=>simp only[List.cons_append,List.length_cons,List.modify_succ_cons,ih]
theorem pM(l:List ar)(i:Int)(r:List Int)(v:Int):jd l (i::r) v=jd (setAt l i v) r v:=rfl
theorem aia{n:Nat}{k to:Int}{x:ar}(h:x.op=9∧x.a=k)(ht:0≤to)(hk:k<0):({jT n x with a:=to+n}:ar)=jT n (kI k to x):=by
 obtain⟨op,a,b,c,d⟩:=x;obtain⟨rfl,rfl⟩:=h;simp[jT,kI,ht]
theorem qi{k to:Int}(hk:k<0)(ht:0≤to)(base:Nat):∀(l pre post:List ar)(n:Nat),pre.length=n→jd (pre++cF base l++post) (cB k n l) (to+base)=pre++cF base (l.map (kI k to))++post
 |[],pre,post,n,h=>by simp[cB,jd]
 |x::r,pre,post,n,h=>by
  have ih:=qi hk ht base r;simp only[cB,List.map_cons,nh];split
  ·rename_i hx;rw[pM];have e:pre++jT base x::cF base r++post=pre++jT base x::(cF base r++post):=by simp
   rw[e,←h,qh,aia hx ht hk];have:=ih (pre++[jT base (kI k to x)]) post (pre.length+1) (by simp);simpa using this
  ·rename_i hx;have e2:kI k to x=x:=by unfold kI;rw[if_neg hx]
   rw[e2];have:=ih (pre++[jT base x]) post (n+1) (by simp[h]);simpa using this
def jE(E:Int):Nat→List (List ar)→List (List ar)→List ar
 |_,_,[]=>[]
 |n,[],b::r=>if r=[]then cF n b else cF n b++ins 9 E 0 0 0::jE E (n+b.length+1) [] r
 |n,t::ts,b::r=>
  if r=[]then t++ins 10 (n+t.length+1+b.length) 0 0 0::cF (n+t.length+1) b
  else t++ins 10 (n+t.length+2+b.length) 0 0 0::(cF (n+t.length+1) b++ins 9 E 0 0 0::jE E (n+t.length+2+b.length) ts r)
theorem uY(E:Int):∀(n:Nat)(ts bs:List (List ar)),(jE E n ts bs).length=(cR ts bs).length
 |_,_,[]=>by simp[jE,cR]
 |n,[],b::r=>by
  simp only[jE,cR];split
  ·simp
  ·simp[uY E _ [] r,dX];omega
 |n,t::ts,b::r=>by
  simp only[jE,cR];split
  ·rename_i h;subst h;simp[dX,cR]
  ·simp[uY E _ ts r,dX];omega
theorem Ia:∀(n:Nat)(ts bs:List (List ar)),(∀t∈ts,Flat t)→∀E:Int,E=n+(cR ts bs).length→jE E n ts bs=cF n (cR ts bs)
 |n,_,[],_,_,_=>by simp[jE,cR]
 |n,[],b::r,_,E,hE=>by
  simp only[jE,cR]at hE⊢;split
  ·rfl
  ·rename_i h;rw[if_neg h]at hE;rw[H8,pn];have e:E=((n+b.length+1:Nat):Int)+(cR [] r).length:=by rw[hE];simp[dX];omega
   rw[Ia (n+b.length+1) [] r (by simp) E e];have e3:jT n (ins 9 (b.length+1+(cR [] r).length) 0 0 0)=ins 9 E 0 0 0:=by
    rw[Fx (by omega)];congr 1;omega
   have e2:cF n [ins 9 (b.length+1+(cR [] r).length) 0 0 0]=[ins 9 E 0 0 0]:=by rw[nh,e3];rfl
   rw[e2];simp[Nat.add_assoc]
 |n,t::ts,b::r,hf,E,hE=>by
  have YU:Flat t:=hf t (by simp);simp only[jE,cR]at hE⊢;rw[H8];by_cases h:r=[]
  ·subst h;simp only[if_true,pn,yA,YU.cF,cR,uX,List.append_nil,nh];have e:jT n (ins 10 (t.length+1+b.length) 0 0 0)=ins 10 (n+t.length+1+b.length) 0 0 0:=by
    rw[yz (by omega)];congr 1;omega
   rw[e];simp[Nat.add_assoc]
  ·simp only[if_neg h]at hE⊢;have e:E=((n+t.length+2+b.length:Nat):Int)+(cR ts r).length:=by rw[hE];simp[dX];omega
   rw[Ia (n+t.length+2+b.length) ts r (fun t ht=>hf t (by simp[ht])) E e];simp only[pn,yA,YU.cF,nh,uX,List.length_append,List.length_cons,List.length_nil,kV];have e1:jT n (ins 10 (t.length+1+(b.length+(0+1):Nat)) 0 0 0)=ins 10 (n+t.length+2+b.length) 0 0 0:=by
    rw[yz (by omega)];congr 1;omega
   have e2:jT (n+(t.length+1)) (ins 9 (b.length+1+(cR ts r).length) 0 0 0)=ins 9 E 0 0 0:=by
    rw[Fx (by omega)];congr 1;omega
   rw[e1,e2,show n+(t.length+(0+1)+(b.length+(0+1)))=n+t.length+2+b.length by omega];simp[Nat.add_assoc]
theorem ao1{k to:Int}(hk:k<0)(ht:0≤to)(j:Nat)(x:ar):kI k (to+j) (mr j x)=mr j (kI k to x):=by
 obtain⟨op,a,b,c,d⟩:=x;unfold kI mr;by_cases h:op=9∧a=k
 ·obtain⟨rfl,rfl⟩:=h;have h0:¬0≤a:=by omega
  simp[h0,ht]
 ·by_cases h2:(op=9∨op=10)∧0≤a
  ·have:¬(op=9∧a+(j:Int)=k):=by omega
   simp[h,h2,this]
  ·simp[h,h2]
theorem YV{k to:Int}(hk:k<0)(ht:0≤to)(j:Nat)(l:List ar):(ig j l).map (kI k (to+j))=ig j (l.map (kI k to)):=by
 unfold ig;rw[List.map_map,List.map_map];congr 1;funext x;exact ao1 hk ht j x
theorem SZ{l:List ar}(h:Flat l)(k to:Int):l.map (kI k to)=l:=by
 conv=>rhs;rw[←List.map_id l]
 refine List.map_congr_left fun x hx=>?_;have:=h x hx;simp[kI,this.1]
theorem tc{k to:Int}{x:ar}(h:x.op=9→x.a≠k):kI k to x=x:=by
 unfold kI;rw[if_neg];exact fun hh=>h hh.1 hh.2
theorem rn(l:List ar):ph l=l.map (kI (-1) l.length):=rfl
theorem AX{n:Nat}{x:ar}(h:x.op≠9∧x.op≠10):jT n x=x:=by simp[jT,h.1,h.2]
theorem P0{out t b:List ar}(ht:Flat t){n:Nat}(hn:out.length=n){H:Int}(hH:H=n+t.length+3+b.length):
 jd (out++(ins 11 0 0 0 0::t++(ins 10 H 0 0 0::cF (n+t.length+2) b++[ins 9 n 0 0 0]))) (cB (-1) (n+t.length+2) b) H=out++cF n (ij t b):=by
 have h1:=qi (k:= -1) (to:=b.length+1) (by decide) (by omega) (n+t.length+2) b (out++(ins 11 0 0 0 0::t++[ins 10 H 0 0 0])) [ins 9 n 0 0 0] (n+t.length+2) (by simp;omega);have e0:((b.length:Int)+1)+((n+t.length+2:Nat):Int)=H:=by rw[hH];omega
 rw[e0]at h1;have e1:out++(ins 11 0 0 0 0::t++(ins 10 H 0 0 0::cF (n+t.length+2) b++[ins 9 n 0 0 0]))=out++(ins 11 0 0 0 0::t++[ins 10 H 0 0 0])++cF (n+t.length+2) b++[ins 9 n 0 0 0]:=by simp
 rw[e1,h1];unfold ij;rw[rn];have hl:((ins 11 0 0 0 0::t++[ins 10 (t.length+3+b.length) 0 0 0]++ig (t.length+2) b++[ins 9 0 0 0 0]).length:Int)=((b.length:Int)+1)+((t.length+2:Nat):Int):=by simp;omega
 rw[hl];simp only[List.map_append,List.map_cons,List.map_nil,SZ ht,YV (show (-1:Int)<0 by decide) (show 0≤(b.length:Int)+1 by omega),pn,nh,uX,ht.cF,yA];rw[tc (by simp[ins]),tc (by simp[ins]),tc (by simp[ins]),AX (by simp[ins]),yz (by omega),Fx (by omega)];have e2:ins 10 (t.length+3+b.length+n) 0 0 0=ins 10 H 0 0 0:=by congr 1;omega
 rw[e2,show n+(t.length+2)=n+t.length+2 by omega];simp
theorem S5{k:Int}(hk:k<0)(gn:k≠ -1){t b:List ar}(ht:Flat t)(n:Nat):cB k n (ij t b)=cB k (n+t.length+2) b:=by
 unfold ij;rw[rn,PZ (by omega) (by omega)];have e0:ins 11 0 0 0 0::t++[ins 10 (t.length+3+b.length) 0 0 0]++ig (t.length+2) b++[ins 9 0 0 0 0]=[ins 11 0 0 0 0]++(t++([ins 10 (t.length+3+b.length) 0 0 0]++(ig (t.length+2) b++[ins 9 0 0 0 0]))):=by simp
 rw[e0,jc];rw[po (Flat.one (by simp[ins])),jc,po ht,jc,jc,Fy hk];have e:∀m,cB k m [ins 10 (t.length+3+b.length) 0 0 0]=[]:=fun m=>by simp[cB,ins]
 have e2:∀m,cB k m [ins 9 0 0 0 0]=[]:=fun m=>by simp[cB,ins];omega
 rw[e,e2];simp only[List.nil_append,List.append_nil,List.length_cons,List.length_nil];congr 1;omega
theorem Ib(l:List ar)(n:Nat):cB (-1) n (ph l)=[]:=aer (by omega) l n
theorem VC{out t b:List ar}(ht:Flat t){n:Nat}(hn:out.length=n){H:Int}(hH:H=n+b.length+t.length+2):
 jd (out++(cF n b++(ins 11 0 0 0 0::t++[ins 10 n 0 0 0]))) (cB (-1) n b) H=out++cF n (lS t b):=by
 have h1:=qi (k:= -1) (to:=b.length+t.length+2) (by decide) (by omega) n b out (ins 11 0 0 0 0::t++[ins 10 n 0 0 0]) n hn;have e0:((b.length:Int)+t.length+2)+(n:Int)=H:=by rw[hH];omega
 rw[e0]at h1;rw[←List.append_assoc,h1];unfold lS;rw[rn];have hl:((b++ins 11 0 0 0 0::t++[ins 10 0 0 0 0]).length:Int)=(b.length:Int)+t.length+2:=by simp;omega
 rw[hl];simp only[List.map_append,List.map_cons,List.map_nil,SZ ht,pn,nh,uX,ht.cF];rw[tc (by simp[ins]),tc (by simp[ins]),AX (by simp[ins]),yz (by omega)];simp
theorem ZK{k:Int}(hk:k<0)(gn:k≠ -1){t b:List ar}(ht:Flat t)(n:Nat):cB k n (lS t b)=cB k n b:=by
 unfold lS;rw[rn,PZ (by omega) (by omega)];have e0:b++ins 11 0 0 0 0::t++[ins 10 0 0 0 0]=b++([ins 11 0 0 0 0]++(t++[ins 10 0 0 0 0])):=by simp
 rw[e0,jc,jc];rw[po (Flat.one (by simp[ins])),jc,po ht];have e:∀m,cB k m [ins 10 0 0 0 0]=[]:=fun m=>by simp[cB,ins]
 rw[e];simp
theorem VD{out b:List ar}{at_ cell:Int}{n:Nat}(hn:out.length=n){H:Int}(hH:H=n+b.length+8):
 jd (out++(ins 11 0 0 0 0::ins 13 at_ cell 0 0::ins 10 H 0 0 0::cF (n+3) b++[ins 2 at_ 0 0 0,ins 2 (cell+1) 0 0 0,ins 8 0 8 0 0,ins 6 at_ 0 0 0,ins 9 n 0 0 0])) (cB (-1) (n+3) b) H=out++cF n (kL at_ cell b):=by
 have h1:=qi (k:= -1) (to:=b.length+5) (by decide) (by omega) (n+3) b (out++[ins 11 0 0 0 0,ins 13 at_ cell 0 0,ins 10 H 0 0 0]) [ins 2 at_ 0 0 0,ins 2 (cell+1) 0 0 0,ins 8 0 8 0 0,ins 6 at_ 0 0 0,ins 9 n 0 0 0] (n+3) (by simp[hn]);have e0:((b.length:Int)+5)+((n+3:Nat):Int)=H:=by rw[hH];omega
 rw[e0]at h1;have e1:out++(ins 11 0 0 0 0::ins 13 at_ cell 0 0::ins 10 H 0 0 0::cF (n+3) b++[ins 2 at_ 0 0 0,ins 2 (cell+1) 0 0 0,ins 8 0 8 0 0,ins 6 at_ 0 0 0,ins 9 n 0 0 0])=out++[ins 11 0 0 0 0,ins 13 at_ cell 0 0,ins 10 H 0 0 0]++cF (n+3) b++[ins 2 at_ 0 0 0,ins 2 (cell+1) 0 0 0,ins 8 0 8 0 0,ins 6 at_ 0 0 0,ins 9 n 0 0 0]:=by simp
 rw[e1,h1];unfold kL;rw[rn];have hl:(([ins 11 0 0 0 0,ins 13 at_ cell 0 0,ins 10 (b.length+8) 0 0 0]++ig 3 b++[ins 2 at_ 0 0 0,ins 2 (cell+1) 0 0 0,ins 8 0 8 0 0,ins 6 at_ 0 0 0,ins 9 0 0 0 0]).length:Int)=((b.length:Int)+5)+((3:Nat):Int):=by simp;omega
 rw[hl];simp only[List.map_append,List.map_cons,List.map_nil,YV (show (-1:Int)<0 by decide) (show 0≤(b.length:Int)+5 by omega),pn,nh,uX,yA];have e3:∀x:ar,(x.op≠9∧x.op≠10)→∀to,jT n (kI (-1) to x)=x:=fun x h to=>by rw[tc (fun hh=>absurd hh h.1),AX h]
 have e4:kI (-1) (b.length+5+((3:Nat):Int)) (ins 10 (b.length+8) 0 0 0)=ins 10 (b.length+8) 0 0 0:=tc (by simp[ins]);have e5:kI (-1) (b.length+5+((3:Nat):Int)) (ins 9 0 0 0 0)=ins 9 0 0 0 0:=tc (by simp[ins]);rw[e4,e5,e3 _ (by simp[ins]),e3 (ins 13 at_ cell 0 0) (by simp[ins]),e3 (ins 2 at_ 0 0 0) (by simp[ins]),e3 (ins 2 (cell+1) 0 0 0) (by simp[ins]),e3 (ins 8 0 8 0 0) (by simp[ins]),e3 (ins 6 at_ 0 0 0) (by simp[ins]),yz (by omega),Fx (by omega)];have e2:ins 10 (b.length+8+n) 0 0 0=ins 10 H 0 0 0:=by congr 1;omega
 rw[e2];simp
theorem ZL{k:Int}(hk:k<0)(gn:k≠ -1){b:List ar}{at_ cell:Int}(n:Nat):cB k n (kL at_ cell b)=cB k (n+3) b:=by
 unfold kL;rw[rn,PZ (by omega) (by omega)];rw[jc,jc,Fy hk];have e:∀m,cB k m [ins 11 0 0 0 0,ins 13 at_ cell 0 0,ins 10 (b.length+8) 0 0 0]=[]:=fun m=>by simp[cB,ins]
 have e2:∀m,cB k m [ins 2 at_ 0 0 0,ins 2 (cell+1) 0 0 0,ins 8 0 8 0 0,ins 6 at_ 0 0 0,ins 9 0 0 0 0]=[]:=fun m=>by simp[cB,ins];omega
 rw[e,e2];simp
def fu:Nat→List (List ar)→List (List ar)→List Int
 |_,_,[]=>[]
 |n,[],b::r=>if r=[]then []else ((n+b.length:Nat):Int)::fu (n+b.length+1) [] r
 |n,t::ts,b::r=>if r=[]then []else ((n+t.length+1+b.length:Nat):Int)::fu (n+t.length+2+b.length) ts r
def te(k:Int):Nat→List (List ar)→List (List ar)→List Int
 |_,_,[]=>[]
 |n,[],b::r=>cB k n b++(if r=[]then []else te k (n+b.length+1) [] r)
 |n,t::ts,b::r=>cB k (n+t.length+1) b++(if r=[]then []else te k (n+t.length+2+b.length) ts r)
theorem Dv(E:Int):∀(n:Nat)(ts bs:List (List ar))(pre:List ar),pre.length=n→jd (pre++jE 0 n ts bs) (fu n ts bs) E=pre++jE E n ts bs
 |n,_,[],pre,hn=>by simp[jE,fu,jd]
 |n,[],b::r,pre,hn=>by
  simp only[jE,fu];split
  ·rfl
  ·rw[pM];have e1:pre++(cF n b++ins 9 0 0 0 0::jE 0 (n+b.length+1) [] r)=(pre++cF n b)++ins 9 0 0 0 0::jE 0 (n+b.length+1) [] r:=by simp
   have e2:((n+b.length:Nat):Int)=((pre++cF n b).length:Int):=by simp;omega
   rw[e1,e2,qh];have ih:=Dv E (n+b.length+1) [] r (pre++cF n b++[ins 9 E 0 0 0]) (by simp;omega);simp only[List.append_assoc,List.singleton_append]at ih⊢;exact ih
 |n,t::ts,b::r,pre,hn=>by
  simp only[jE,fu];split
  ·rfl
  ·rw[pM];have e1:pre++(t++ins 10 (n+t.length+2+b.length) 0 0 0::(cF (n+t.length+1) b++ins 9 0 0 0 0::jE 0 (n+t.length+2+b.length) ts r))=(pre++(t++ins 10 (n+t.length+2+b.length) 0 0 0::cF (n+t.length+1) b))++ins 9 0 0 0 0::jE 0 (n+t.length+2+b.length) ts r:=by simp
   have e2:((n+t.length+1+b.length:Nat):Int)=((pre++(t++ins 10 (n+t.length+2+b.length) 0 0 0::cF (n+t.length+1) b)).length:Int):=by simp;omega
   rw[e1,e2,qh];have ih:=Dv E (n+t.length+2+b.length) ts r (pre++(t++ins 10 (n+t.length+2+b.length) 0 0 0::cF (n+t.length+1) b)++[ins 9 E 0 0 0]) (by simp;omega);simp only[List.append_assoc,List.cons_append,List.singleton_append]at ih⊢;exact ih
theorem CB{k:Int}(hk:k<0):∀(n:Nat)(ts bs:List (List ar)),(∀t∈ts,Flat t)→cB k n (cR ts bs)=te k n ts bs
 |n,_,[],_=>by simp[cR,te,cB]
 |n,[],b::r,hf=>by
  simp only[cR,te];split
  ·simp
  ·rw[Fz hk,jc,CB hk _ [] r (by simp)];have e:∀m,cB k m [ins 9 (b.length+1+(cR [] r).length) 0 0 0]=[]:=fun m=>by simp[cB,ins];omega
   rw[e];simp[Nat.add_assoc]
 |n,t::ts,b::r,hf=>by
  have YU:Flat t:=hf t (by simp);simp only[cR,te];rw[Fz hk,jc,jc,po YU,Fy hk,CB hk _ ts r (fun t ht=>hf t (by simp[ht]))];have e:∀m a,cB k m [ins 10 a 0 0 0]=[]:=fun m a=>by simp[cB,ins]
  rw[e];by_cases h:r=[]
  ·subst h;simp[te,Nat.add_assoc]
  ·simp only[if_neg h,jc];have e2:∀m,cB k m [ins 9 (b.length+1+(cR ts r).length) 0 0 0]=[]:=fun m=>by simp[cB,ins];omega
   rw[e2];simp only[List.nil_append,List.append_nil,List.length_append,List.length_cons,List.length_nil,kV];rw[show n+(t.length+(0+1))=n+t.length+1 by omega,show n+(t.length+(0+1)+(b.length+(0+1)))=n+t.length+2+b.length by omega]
theorem ZM{pre:List ar}{n:Nat}(hn:pre.length=n){ts bs:List (List ar)}(hf:∀t∈ts,Flat t):jd (pre++jE 0 n ts bs) (fu n ts bs) (n+(cR ts bs).length)=pre++cF n (cR ts bs):=by
 rw[Dv _ n ts bs pre hn,Ia n ts bs hf _ rfl]
def Rm(u:Bool)(a a':EL):Prop:=a.1=0→a'.1=if u=true then 9 else 0
theorem Rm.or{u1 u2:Bool}{a a' b b':EL}(h1:Rm u1 a a')(h2:Rm u2 b b'):Rm (u1||u2) (eU a b) (eU a' b'):=by
 intro h;unfold eU at h⊢;by_cases ha:a.1=0
 ·rw[if_neg (fun h=>h ha)]at h;have h1:=h1 ha;have h2:=h2 h;cases u1 with
  |true=>simp at h1;rw[if_pos (by rw[h1];decide),h1];simp
  |false=>simp at h1;rw[if_neg (fun h=>h h1)];simpa using h2
 ·rw[if_pos ha]at h;exact absurd h ha
theorem Rm.zero:Rm false (0,0) (0,0):=fun _=>rfl
theorem Rm.same{u:Bool}{a a':EL}(hu:u=false)(h:a'=a):Rm u a a':=by
 subst hu h;intro h;simpa using h
section
variable {vs Wy:List Vr} {nm:Tx} (bE:nm≠[]) (hf:∀s,bg Wy s=if s=nm then none else bg vs s)
include bE hf
end
section
variable {vs Wy:List Vr} {nm:Tx} (bE:nm≠[]) (hf:∀s,bg Wy s=if s=nm then none else bg vs s)
include bE hf
end
theorem nF{v:Vr}(h:dr v=true):0≤bK v:=by
 simp only[dr,Bool.and_eq_true]at h;obtain⟨_,_,h,_⟩:=h;unfold bK;split
 ·rename_i ha;rw[if_pos ha]at h;have:=of_decide_eq_true h;omega
 ·split<;>omega
def pnN(k:Int):Nat:=(bz k).length
def tf(cells:Int)(x:ar):Prop:=1≤x.op∧x.op≤8∧eS pnN cells 0 0 x=true
theorem je{cells a n:Int}(h1:0≤a)(h2:0≤n)(h3:a+n≤cells):gE cells a n=true:=by
 unfold gE;simp only[Bool.and_eq_true,decide_eq_true_eq];omega
theorem Ic{op n:Int}{name field:Tx}{sub:List Ex}{line:Int}(h:bk (.mk op n name field sub line)=true):1≤op∧op≤21:=by
 simp only[bk,Bool.and_eq_true,Bool.not_eq_true',decide_eq_false_iff_not]at h;have:=h.1;omega
section
variable {vs:List Vr} {cells:Int} (ee:∀v∈vs,dr v=true) (hc:cd vs≤cells)
include ee hc
theorem nG:∀(x:Ex)(S:List Bool),bk x=true→(aF vs x).e=0→aL S.length x≤64→
 (∃f,cO (ak vs x).1 S=some (S++[f])∧((aF vs x).t=2→f=true))∧(ak vs x).2=decide ((aF vs x).t=2)∧((aF vs x).t=1∨(aF vs x).t=2)∧∀y∈(ak vs x).1,tf cells y
 | .mk op n name field sub line,S,hf,he,ht=>by
  obtain⟨hlen,fQ⟩:=zn hf;have cS:=Ic hf;have MR:=Dr hf he;have zU:∀v∈vs,0≤bK v:=fun v hv=>nF (ee v hv);have ih:∀y∈sub,∀S:List Bool,aL S.length y≤64→_:=fun y hy S ht=>nG y S ((iO sub).1 fQ y hy) (MR y hy) ht;unfold aL at ht;unfold ak;have mm:aF vs (.mk op n name field sub line)=aF vs (.mk op n name field sub line):=rfl;conv at mm=>rhs;unfold aF
  rw[mm]at he⊢;clear mm;by_cases kR:op=1∨op=2
  ·have hh:S.length<64:=by
    rw[if_pos (by omega)]at ht;omega
   simp only[if_pos kR];refine⟨⟨decide (n=0)||decide (n=1),?_,?_⟩,rfl,by simp[eJ];exact kR,?_⟩
   ·simp[cO,df,ins,ku hh];rfl
   ·intro h2;have h2:op=2:=h2;subst h2;simp[bk]at hf;simp only[Bool.or_eq_true,decide_eq_true_eq];omega
   ·intro y hy;simp at hy;subst hy;simp[tf,ins,eS]
  ·simp only[if_neg kR]at he⊢;by_cases sf:op=3∨op=4∨op=5
   ·simp only[if_pos sf]at he⊢;cases hv:bg vs name with
    |none=>rw[hv]at he;simp[cy]at he
    |some v=>
     rw[hv]at he;simp only at he⊢;have gM:=iB hv;have gp:=ee v (s6 hv).1;have aO:=ta zU hv;have Ay:=gp;simp only[dr,Bool.and_eq_true]at Ay;by_cases h5:op=5
     ·subst h5;have hh:S.length<64:=by
       rw[if_pos (by omega)]at ht;omega
      simp only[if_pos]at he⊢;by_cases qe:v.ty≤2
      ·rw[if_pos qe]at he;simp[cy]at he
      ·rw[if_neg qe]at he⊢;cases hp:kJ v.ty field with
       |none=>rw[hp]at he;simp[cy]at he
       |some p=>
        obtain⟨q1,q2,j,q3,q4⟩:=uW hv (by omega) hp;have hpt:=SV q2;have mH:bK v=(bz v.ty).length:=by
         unfold bK;have gi:¬v.arr=true:=by
          intro ha;have h4:=Ay.2.2.1;rw[if_pos ha]at h4;have:=of_decide_eq_true h4;omega
         rw[if_neg gi,if_pos (by omega)]
        simp only[show ¬((5:Int)=3) by decide,if_false,q1];have qK:gE cells (ie vs name field).1 1=true:=je (by rw[q3];omega) (by omega) (by rw[q3];omega);rcases hpt with e|e
        ·refine⟨⟨false,?_,fun h=>by simp[eJ,e]at h⟩,decide_eq_decide.2 Iff.rfl,.inl e,?_⟩
         ·simp[cO,df,ins,e,ku hh]
         ·intro y hy;simp at hy;subst hy;simp[tf,ins,eS,e,qK]
        ·refine⟨⟨true,?_,fun _=>rfl⟩,decide_eq_decide.2 Iff.rfl,.inr e,?_⟩
         ·simp[cO,df,ins,e,ku hh]
         ·intro y hy;simp at hy;subst hy;simp[tf,ins,eS,e,qK]
     ·simp only[if_neg h5]at he⊢;by_cases EK:v.arr≠decide (op=4)∨2<v.ty
      ·rw[if_pos EK]at he;simp[cy]at he
      ·simp only[if_neg EK]at he⊢;have xr:v.arr=decide (op=4):=by
        cases hq:v.arr<;>cases hq2:decide (op=4)<;>simp_all
       have ao2:¬2<v.ty:=fun h=>EK (.inr h);have htv:v.ty=1∨v.ty=2:=by
        rcases Mw gp with h|h
        ·exact h
        ·omega
       by_cases h4:op=4
       ·subst h4;simp only[if_pos,show ¬((4:Int)=3) by decide,if_false]at he⊢;obtain⟨z,rfl⟩:∃z,sub=[z]:=by
         match sub,hlen with
         |[z],_=>exact⟨z,rfl⟩
         |[],h=>simp[dC]at h
         |_::_::_,h=>simp[dC]at h
        rw[if_neg (by omega)]at ht;simp only[fC]at ht;obtain⟨⟨f,i1,_⟩,_,_,i4⟩:=ih z (by simp) S (by omega);have hze:=MR z (by simp);have mm:uL vs v.ty [z]=eJ v.ty:=by
         simp only[uL]at he⊢;rw[if_neg (by simpa using hze)]at he⊢;split at he
         ·simp[cy]at he
         ·rename_i hz;rw[if_neg hz]
        rw[mm];have gi:v.arr=true:=by simpa using xr
        have hb:=Ay.2.2.1;rw[if_pos gi]at hb;have hb:=of_decide_eq_true hb;have mH:bK v=v.hi-v.lo+1:=by unfold bK;rw[if_pos gi]
        have qK:gE cells (b9 vs name).1 (v.hi-v.lo+1)=true:=je (by omega) (by omega) (by omega);have hh:S.length<64:=by omega
        simp only[oo,gM];rcases htv with e|e
        ·refine⟨⟨false,?_,fun h=>by simp[eJ,e]at h⟩,decide_eq_decide.2 Iff.rfl,.inl e,?_⟩
         ·rw[dG,i1];simp[cO,df,ins,e,yy,ku hh]
         ·intro y hy;rcases List.mem_append.1 hy with hy|hy
          ·exact i4 y hy
          ·simp at hy;subst hy;simp[tf,ins,eS,Hf,e,qK];omega
        ·refine⟨⟨true,?_,fun _=>rfl⟩,decide_eq_decide.2 Iff.rfl,.inr e,?_⟩
         ·rw[dG,i1];simp[cO,df,ins,e,yy,ku hh]
         ·intro y hy;rcases List.mem_append.1 hy with hy|hy
          ·exact i4 y hy
          ·simp at hy;subst hy;simp[tf,ins,eS,Hf,e,qK];omega
       ·have h3:op=3:=by omega
        subst h3;have hh:S.length<64:=by
         rw[if_pos (by omega)]at ht;omega
        simp only[if_pos,if_neg h4,gM]at he⊢;have gi:¬v.arr=true:=by simp[xr]
        have mH:bK v=1:=by unfold bK;rw[if_neg gi,if_neg (by omega)]
        have qK:gE cells (b9 vs name).1 1=true:=je (by omega) (by omega) (by omega);rcases htv with e|e
        ·refine⟨⟨false,?_,fun h=>by simp[eJ,e]at h⟩,decide_eq_decide.2 Iff.rfl,.inl e,?_⟩
         ·simp[cO,df,ins,e,ku hh]
         ·intro y hy;simp at hy;subst hy;simp[tf,ins,eS,e,qK]
        ·refine⟨⟨true,?_,fun _=>rfl⟩,decide_eq_decide.2 Iff.rfl,.inr e,?_⟩
         ·simp[cO,df,ins,e,ku hh]
         ·intro y hy;simp at hy;subst hy;simp[tf,ins,eS,e,qK]
   ·have h3:¬op=3:=fun h=>sf (.inl h);have h4:¬op=4:=fun h=>sf (.inr (.inl h));have h5:¬op=5:=fun h=>sf (.inr (.inr h));simp only[if_neg sf,if_neg h3,if_neg h4,if_neg h5]at he⊢;rw[if_neg (by omega)]at ht;have hh:S.length<64:=by omega
    match sub,hlen,ih,he,ht with
    |[a],hlen,ih,he,ht=>
     have YW:op=6∨op=7:=by
      simp only[dC]at hlen;split at hlen
      ·omega
      ·split at hlen<;>simp at hlen
     simp only[fC]at ht;obtain⟨⟨f,i1,i2⟩,i3,i4,i5⟩:=ih a (by simp) S (by omega);obtain⟨_,_,q3,_,q5⟩:=gS he;simp only[qH]at he⊢;simp only[q5,hZ];rcases YW with e|e
     ·subst e;have B1:(aF vs a).t=1:=by rw[q3];rfl
      have hg:(ak vs a).2=false:=by rw[i3,B1];rfl
      simp only[hg,Bool.false_eq_true,if_false,if_true];refine⟨⟨false,?_,fun h=>by simp[eJ,gF]at h⟩,rfl,.inl rfl,?_⟩
      ·rw[dG,i1];simp[cO,df,ins,yy,ku hh]
      ·intro y hy;rcases List.mem_append.1 hy with hy|hy
       ·exact i5 y hy
       ·simp at hy;subst hy;simp[tf,ins,eS,vQ]
     ·subst e;have B1:(aF vs a).t=2:=by rw[q3];rfl
      have hg:(ak vs a).2=true:=by rw[i3,B1];rfl
      obtain rfl:=i2 B1;simp only[hg,Bool.false_eq_true,if_false,if_true];refine⟨⟨true,?_,fun _=>rfl⟩,rfl,.inr rfl,?_⟩
      ·rw[dG,i1];simp[cO,df,ins,Cz,ku hh]
      ·intro y hy;rcases List.mem_append.1 hy with hy|hy
       ·exact i5 y hy
       ·simp at hy;subst hy;simp[tf,ins,eS,vQ]
    |[a,b],hlen,ih,he,ht=>
     have h8:8≤op:=by
      simp only[dC]at hlen;split at hlen
      ·simp at hlen
      ·split at hlen
       ·omega
       ·simp at hlen
     simp only[fC]at ht;obtain⟨⟨f,i1,i2⟩,i3,i4,i5⟩:=ih a (by simp) S (by omega);have Qs:((S++[f]).length:Int)=S.length+1:=by simp
     obtain⟨⟨g,j1,j2⟩,j3,j4,j5⟩:=ih b (by simp) (S++[f]) (by rw[Qs];omega);obtain⟨_,_,q3,q4,q5⟩:=gS he;simp only[qH]at he⊢;simp only[q5,hZ];have dP:∀y∈(ak vs a).1++(ak vs b).1,tf cells y:=by
      intro y hy;rcases List.mem_append.1 hy with hy|hy
      ·exact i5 y hy
      ·exact j5 y hy
     have bL:cO ((ak vs a).1++(ak vs b).1) S=some (S++[f]++[g]):=by rw[dG,i1];exact j1
     have P1:(eJ (gF op)).t=if op≤12 then 1 else 2:=by
      simp only[eJ,gF];by_cases h:op≤12
      ·rw[if_pos (by omega),if_pos h]
      ·rw[if_neg (by omega),if_neg h]
     have aet:decide (op=7∨12<op)=decide ((eJ (gF op)).t=2):=by
      rw[P1];by_cases h:op≤12
      ·rw[if_pos h];simp;omega
      ·rw[if_neg h];simp;omega
     have kE:(eJ (gF op)).t=1∨(eJ (gF op)).t=2:=by
      rw[P1];split<;>simp
     have iC:(eJ (gF op)).t=2→(decide (op=7)||decide (13≤op))=true:=by
      rw[P1];split
      ·simp
      ·intro _;simp;omega
     rcases j4 with e|e
     ·have hg:(ak vs b).2=false:=by rw[j3,e];rfl
      have hT:fY op (aF vs a).t=1:=by rw[←q4];exact e
      have h18:op≤18:=by
       by_cases h:op≤18
       ·exact h
       ·exfalso;unfold fY at hT;rw[if_neg (by omega),if_neg (by omega)]at hT;omega
      simp only[hg,Bool.false_eq_true,if_false,if_true];refine⟨⟨decide (op=7)||decide (13≤op),?_,iC⟩,aet,kE,?_⟩
      ·rw[dG,bL];have hb:¬(op=6∨op=7):=by omega
       simp only[Option.bind_some,cO,df,ins,Bool.false_eq_true,if_false];simp only[show ¬((8:Int)=1) by decide,show ¬((8:Int)=2) by decide,show ¬((8:Int)=3∨(8:Int)=13∨(8:Int)=14) by decide,show ¬((8:Int)=4) by decide,show ¬((8:Int)=5) by decide,show ¬((8:Int)=6) by decide,show ¬((8:Int)=7) by decide,if_false,if_true,hb,show decide ((0:Int)=1)=false by decide];change (((mC 2 false (S++[f]++[g])).bind _).bind _)=_
       rw[VA];simp only[Option.bind_some,ku hh];rfl
      ·intro y hy;rcases List.mem_append.1 hy with hy|hy
       ·exact dP y hy
       ·simp at hy;subst hy;simp[tf,ins,eS,vQ];exact .inr ⟨decide_eq_true (by omega),decide_eq_true (by omega)⟩
     ·have hg:(ak vs b).2=true:=by rw[j3,e];rfl
      have hT:fY op (aF vs a).t=2:=by rw[←q4];exact e
      have B1:(aF vs a).t=2:=by rw[q3];exact hT
      obtain rfl:=i2 B1;obtain rfl:=j2 e;have ao3:op=13∨op=14∨19≤op:=by
       unfold fY at hT;split at hT
       ·omega
       ·omega
      simp only[hg,Bool.false_eq_true,if_false,if_true];refine⟨⟨decide (op=7)||decide (13≤op),?_,iC⟩,aet,kE,?_⟩
      ·rw[dG,bL];have hb:¬(op=6∨op=7):=by omega
       simp only[Option.bind_some,cO,df,ins,if_true];simp only[show ¬((8:Int)=1) by decide,show ¬((8:Int)=2) by decide,show ¬((8:Int)=3∨(8:Int)=13∨(8:Int)=14) by decide,show ¬((8:Int)=4) by decide,show ¬((8:Int)=5) by decide,show ¬((8:Int)=6) by decide,show ¬((8:Int)=7) by decide,if_false,if_true,hb,show decide ((1:Int)=1)=true by decide];change (((mC 2 true (S++[true]++[true])).bind _).bind _)=_
       rw[YS];simp only[Option.bind_some,ku hh];rfl
      ·intro y hy;rcases List.mem_append.1 hy with hy|hy
       ·exact dP y hy
       ·simp at hy;subst hy;simp[tf,ins,eS,vQ];rcases ao3 with h|h|h
        ·exact .inl (.inl (.inr (decide_eq_true h)))
        ·exact .inl (.inr (decide_eq_true h))
        ·exact .inr ⟨decide_eq_true h,decide_eq_true (by omega)⟩
    |[],hlen,_,_,_=>
     exfalso;simp only[dC,List.length_nil]at hlen;split at hlen
     ·simp at hlen
     ·split at hlen
      ·simp at hlen
      ·omega
    |a::b::c::d,hlen,_,_,_=>
     exfalso;simp only[dC]at hlen;split at hlen
     ·simp at hlen
     ·split at hlen<;>simp at hlen
termination_by x=>SizeOf.sizeOf x
decreasing_by all_goals (simp_wf;have:=List.sizeOf_lt_of_mem hy;omega)
end
def uZ(cells:Int)(x:ar):Prop:=gr x∨(eS pnN cells 0 0 x=true∧x.op≠15)
structure gf(cells:Int)(ex:Bool)(e:Nat)(l:List ar):Prop where
 le:l.length≤e
 run:cO l []=some []
 ok:∀x∈l,uZ cells x
 jmp:∀(i:Nat) x,l[i]?=some x→gr x→0≤x.a→x.a.toNat=e∨(x.a.toNat≤l.length∧cO (l.take x.a.toNat) []=some []∧(i<x.a.toNat∨∃y,l[x.a.toNat]?=some y∧y.op=11))
 out:∀x∈l,gr x→x.a<0→x.op=9∧(x.a= -2∨(ex=true∧x.a= -1))
def Fg(cells:Int)(ex:Bool)(l:List ar):Prop:=gf cells ex l.length l
section
variable {cells:Int} {ex:Bool}
theorem Ie{k:Nat}{x:ar}:gr (mr k x)↔gr x:=by unfold gr;rw[HY]
theorem aeu{k:Nat}{x:ar}(h:uZ cells x):uZ cells (mr k x):=by
 rcases SX k x with e|⟨e,_⟩
 ·rw[e];exact h
 ·exact .inl (Ie.2 e)
theorem S6{k:Nat}{x:ar}(hj:gr x)(h:0≤x.a):(mr k x).a=x.a+k:=by
 unfold mr;rw[if_pos ⟨hj,h⟩]
theorem S7{k:Nat}{x:ar}(h:x.a<0):(mr k x).a=x.a:=by
 unfold mr;rw[if_neg (by rintro ⟨_,h'⟩;omega)]
theorem VE(k j:Nat)(l:List ar):(ig k l).take j=ig k (l.take j):=by simp[ig]
theorem MV(k i:Nat)(l:List ar):(ig k l)[i]?=(l[i]?).map (mr k):=by simp[ig]
theorem gf.wk{e e':Nat}{l:List ar}(h:gf cells ex e l)(he:e=l.length)(h':l.length≤e'):gf cells ex e' l:=by
 subst he;refine⟨h',h.run,h.ok,fun i x hx hj ha=>?_,h.out⟩;rcases h.jmp i x hx hj ha with h1|h1
 ·right;have hi:=(List.getElem?_eq_some_iff.1 hx).1;exact⟨by omega,by rw[h1,List.take_length];exact h.run,.inl (by omega)⟩
 ·exact .inr h1
theorem gf.plain{l:List ar}(hr:cO l []=some [])(ho:∀x∈l,uZ cells x)(hj:∀x∈l,¬gr x){e:Nat}(he:l.length≤e):gf cells ex e l:=
 ⟨he,hr,ho,fun _ x hx nu=>absurd nu (hj x (List.mem_of_getElem? hx)),fun x hx nu=>absurd nu (hj x hx)⟩
theorem gf.app{e e':Nat}{A B:List ar}(hB:gf cells ex e' B)(he:e=A.length+e')(hr:cO A []=some [])(ho:∀x∈A,uZ cells x)
 (hj:∀(i:Nat) x,A[i]?=some x→gr x→0≤x.a→x.a.toNat=e∨(x.a.toNat≤A.length+B.length∧cO ((A++ig A.length B).take x.a.toNat) []=some []∧(i<x.a.toNat∨∃y,(A++ig A.length B)[x.a.toNat]?=some y∧y.op=11)))
 (hn:∀x∈A,gr x→x.a<0→x.op=9∧(x.a= -2∨(ex=true∧x.a= -1))):gf cells ex e (A++ig A.length B):=by
 have hle:=hB.le;refine⟨by simp;omega,?_,?_,?_,?_⟩
 ·rw[dG,hr];show cO (ig _ B) []=_;rw[Dt];exact hB.run
 ·intro x hx;rcases List.mem_append.1 hx with hx|hx
  ·exact ho x hx
  ·obtain⟨y,hy,rfl⟩:=List.mem_map.1 hx;exact aeu (hB.ok y hy)
 ·intro i x hx S8 ha;by_cases hi:i<A.length
  ·rw[List.getElem?_append_left hi]at hx;rcases hj i x hx S8 ha with h|h
   ·exact .inl h
   ·refine .inr ⟨by simp;omega,h.2⟩
  ·rw[List.getElem?_append_right (by omega),MV]at hx;obtain⟨y,hy,rfl⟩:=Option.map_eq_some_iff.1 hx;have EM:=Ie.1 S8;have S9:0≤y.a:=by
    by_cases h:0≤y.a
    ·exact h
    ·rw[S7 (by omega)]at ha;exact ha
   rw[S6 EM S9];have et:(y.a+(A.length:Int)).toNat=A.length+y.a.toNat:=by omega
   rw[et];rcases hB.jmp _ y hy EM S9 with h|⟨h1,h2,h3⟩
   ·exact .inl (by omega)
   ·refine .inr ⟨by simp;omega,?_,?_⟩
    ·rw[List.take_append,List.take_of_length_le (by omega),dG,hr];show cO ((ig _ B).take _) []=_;rw[VE,Dt,Nat.add_sub_cancel_left];exact h2
    ·rcases h3 with h3|⟨z,hz,sG⟩
     ·exact .inl (by omega)
     ·refine .inr ⟨mr A.length z,?_,by rw[HY];exact sG⟩;rw[List.getElem?_append_right (by omega),MV,Nat.add_sub_cancel_left,hz];rfl
 ·intro x hx S8 ha;rcases List.mem_append.1 hx with hx|hx
  ·exact hn x hx S8 ha
  ·obtain⟨y,hy,rfl⟩:=List.mem_map.1 hx;have EM:=Ie.1 S8;have S9:y.a<0:=by
    by_cases h:0≤y.a
    ·rw[S6 EM h]at ha;omega
    ·omega
   rw[S7 S9,HY];exact hB.out y hy EM S9
theorem gf.jn{e e':Nat}{a b:List ar}(ha:gf cells ex e a)(hb:gf cells ex e' b)(he:e=a.length+e'):gf cells ex e (jn a b):=by
 refine hb.app he ha.run ha.ok ?_ ha.out;intro i x hx hj h0;rcases ha.jmp i x hx hj h0 with h|⟨h1,h2,h3⟩
 ·exact .inl h
 ·refine .inr ⟨by omega,?_,?_⟩
  ·rw[List.take_append_of_le_length h1];exact h2
  ·rcases h3 with h3|⟨y,hy,nO⟩
   ·exact .inl h3
   ·exact .inr ⟨y,by rw[List.getElem?_append_left (List.getElem?_eq_some_iff.1 hy).1];exact hy,nO⟩
theorem Fg.jn{a b:List ar}(ha:Fg cells ex a)(hb:Fg cells ex b):Fg cells ex (jn a b):=by
 unfold Fg;rw[dX];exact gf.jn (ha.wk rfl (by omega)) hb rfl
theorem gf.tail{e e0:Nat}{l q:List ar}(h:gf cells ex e0 l)(h0:e0=e)(hr:cO q []=some [])(ho:∀x∈q,uZ cells x)(hq:∀x∈q,gr x→x.a=0)
 (ht:∃y,(l++q)[0]?=some y∧y.op=11) (hl:(l++q).length≤e):gf cells ex e (l++q):=by
 subst h0;refine⟨hl,?_,?_,?_,?_⟩
 ·rw[dG,h.run];exact hr
 ·intro x hx;rcases List.mem_append.1 hx with hx|hx
  ·exact h.ok x hx
  ·exact ho x hx
 ·intro i x hx hj h0;by_cases hi:i<l.length
  ·rw[List.getElem?_append_left hi]at hx;rcases h.jmp i x hx hj h0 with h|⟨h1,h2,h3⟩
   ·exact .inl h
   ·refine .inr ⟨by simp;omega,by rw[List.take_append_of_le_length h1];exact h2,?_⟩;rcases h3 with h3|⟨y,hy,nO⟩
    ·exact .inl h3
    ·exact .inr ⟨y,by rw[List.getElem?_append_left (List.getElem?_eq_some_iff.1 hy).1];exact hy,nO⟩
  ·rw[List.getElem?_append_right (by omega)]at hx;have:=hq x (List.mem_of_getElem? hx) hj;rw[this];exact .inr ⟨by simp,rfl,.inr ht⟩
 ·intro x hx hj h0;rcases List.mem_append.1 hx with hx|hx
  ·exact h.out x hx hj h0
  ·have:=hq x hx hj;omega
theorem aev{k:Int}{x:ar}(hk:0≤k):(se k x).a<0→x.a<0∧¬(x.op=9∧x.a= -1)∧se k x=x:=by
 unfold se;split
 ·rename_i h;intro h';simp only at h';omega
 ·rename_i h;exact fun h'=>⟨h',h,rfl⟩
theorem Fg.P2{l:List ar}(h:Fg cells true l):Fg cells ex (ph l):=by
 have hJ:∀x,gr (se l.length x)↔gr x:=fun x=>by unfold gr;rw[SQ]
 unfold Fg;rw[ng];refine⟨by simp,?_,?_,?_,?_⟩
 ·rw[ph,wb (H7 _)];exact h.run
 ·intro x hx;obtain⟨y,hy,rfl⟩:=List.mem_map.1 hx;rcases H7 (l.length:Int) y with e|⟨e,_⟩
  ·rw[e];exact h.ok y hy
  ·exact .inl ((hJ y).2 e)
 ·intro i x hx hj h0;unfold ph at hx;rw[List.getElem?_map]at hx;obtain⟨y,hy,rfl⟩:=Option.map_eq_some_iff.1 hx;by_cases DO:y.op=9∧y.a= -1
  ·left;unfold se;rw[if_pos DO];simp
  ·have e:se l.length y=y:=by unfold se;rw[if_neg DO]
   rw[e]at h0⊢;rcases h.jmp i y hy ((hJ y).1 hj) h0 with h1|⟨h1,h2,h3⟩
   ·exact .inl h1
   ·refine .inr ⟨by simpa using h1,?_,?_⟩
    ·unfold ph;rw[←List.map_take,wb (H7 _)];exact h2
    ·rcases h3 with h3|⟨z,hz,sG⟩
     ·exact .inl h3
     ·refine .inr ⟨se l.length z,?_,by rw[SQ];exact sG⟩;unfold ph;rw[List.getElem?_map,hz];rfl
 ·intro x hx hj h0;obtain⟨y,hy,rfl⟩:=List.mem_map.1 hx;obtain⟨h1,h2,h3⟩:=aev (by omega) h0;rw[h3]at h0⊢;obtain⟨q1,q2⟩:=h.out y hy ((hJ y).1 hj) h1;refine⟨q1,?_⟩;rcases q2 with q2|⟨_,q2⟩
  ·exact .inl q2
  ·exact absurd ⟨q1,q2⟩ h2
end
section
variable {cells:Int} {ex:Bool}
theorem sh{x:ar}(h:tf cells x):uZ cells x∧¬gr x:=by
 obtain⟨h1,h2,h3⟩:=h;exact⟨.inr ⟨h3,by omega⟩,by unfold gr;omega⟩
def Ig(cells:Int)(t:List ar):Prop:=cO t []=some [true]∧∀x∈t,uZ cells x∧¬gr x
theorem MW{e:Nat}(h:1≤e):gf cells ex e [ins 9 (e:Int) 0 0 0]:=by
 refine⟨by simpa using h,by simp[cO,df,ins,ko],?_,?_,?_⟩
 ·intro x hx;simp at hx;subst hx;exact .inl (.inl rfl)
 ·intro i x hx hj h0;cases i with
  |zero=>simp at hx;subst hx;exact .inl (by simp[ins])
  |succ i=>simp at hx
 ·intro x hx hj h0;simp at hx;subst hx;simp only[ins]at h0;omega
theorem MX{e:Nat}{t p:List ar}(ht:Ig cells t)(hp:gf cells ex e p):gf cells ex (t.length+1+e) (t++[ins 10 ((t.length:Int)+1+p.length) 0 0 0]++ig (t.length+1) p):=by
 have hr:cO (t++[ins 10 ((t.length:Int)+1+p.length) 0 0 0]) []=some []:=by
  rw[dG,ht.1];have:=Cz [];simp only[List.nil_append]at this;simp[cO,df,ins,this,ko]
 have hl:(t++[ins 10 ((t.length:Int)+1+p.length) 0 0 0]).length=t.length+1:=by simp
 have:=hp.app (e:=t.length+1+e) (A:=t++[ins 10 ((t.length:Int)+1+p.length) 0 0 0]) (by rw[hl]) hr ?_ ?_ ?_
 ·rw[hl]at this;exact this
 ·intro x hx;rcases List.mem_append.1 hx with hx|hx
  ·exact (ht.2 x hx).1
  ·simp at hx;subst hx;exact .inl (.inr rfl)
 ·intro i x hx hj h0;by_cases hi:i<t.length
  ·rw[List.getElem?_append_left hi]at hx;exact absurd hj (ht.2 x (List.mem_of_getElem? hx)).2
  ·rw[List.getElem?_append_right (by omega)]at hx;have:i-t.length=0:=by
    have:=(List.getElem?_eq_some_iff.1 hx).1;simp at this;omega
   rw[this]at hx;simp at hx;subst hx;have e1:((ins 10 ((t.length:Int)+1+p.length) 0 0 0).a).toNat=t.length+1+p.length:=by simp only[ins];omega
   rw[e1];refine .inr ⟨by simp,?_,.inl (by omega)⟩;rw[List.take_of_length_le (by simp;omega)];rw[dG,hr];show cO (ig _ p) []=_;rw[Dt];exact hp.run
 ·intro x hx hj h0;rcases List.mem_append.1 hx with hx|hx
  ·exact absurd hj (ht.2 x hx).2
  ·simp at hx;subst hx;simp only[ins]at h0;omega
theorem Dw(b:List ar)(r:List (List ar)):cR [] (b::r)=if r=[]then b else jn (b++[ins 9 ((b.length:Int)+1+(cR [] r).length) 0 0 0]) (cR [] r):=by rw[cR]
theorem MY(b:List ar)(n:Nat):b++[ins 9 ((b.length:Int)+1+n) 0 0 0]=jn b [ins 9 (((1+n:Nat)):Int) 0 0 0]:=by
 simp only[jn,ig,List.map_cons,List.map_nil];congr 2;unfold mr;rw[if_pos ⟨.inl rfl,by simp only[ins];omega⟩];simp only[ins,ar.mk.injEq,true_and,and_true];omega
theorem FA:∀(ts bs:List (List ar)),(∀t∈ts,Ig cells t)→(∀b∈bs,Fg cells ex b)→Fg cells ex (cR ts bs)
 |[],[],_,_=>by
  rw[cR];exact gf.plain rfl (by simp) (by simp) (by simp)
 |_::_,[],_,_=>by
  rw[cR];exact gf.plain rfl (by simp) (by simp) (by simp)
 |[],b::r,ht,hb=>by
  have FR:=hb b (by simp);have ih:=FA [] r ht (fun x hx=>hb x (by simp[hx]));rw[Dw];split
  ·exact FR
  ·generalize cR [] r=out at ih⊢;rw[MY];have h1:gf cells ex (b.length+(1+out.length)) (jn b [ins 9 (((1+out.length:Nat)):Int) 0 0 0]):=gf.jn (FR.wk rfl (by omega)) (MW (by omega)) rfl;unfold Fg;rw[dX];have e:(jn b [ins 9 (((1+out.length:Nat)):Int) 0 0 0]).length=b.length+1:=by rw[dX];rfl
   rw[e];have:=gf.jn (e:=b.length+1+out.length) (b:=out) (e':=out.length) (by rw[show b.length+1+out.length=b.length+(1+out.length) by omega];exact h1) ih (by rw[e]);exact this
 |t::ts,b::r,ht,hb=>by
  have FR:=hb b (by simp);have DJ:=ht t (by simp);have ih:=FA ts r (fun x hx=>ht x (by simp[hx])) (fun x hx=>hb x (by simp[hx]));rw[cR];generalize cR ts r=out at ih⊢;split
  ·have h1:=MX DJ FR;have hl:(t++[ins 10 ((t.length:Int)+1+b.length) 0 0 0]++ig (t.length+1) b).length=t.length+1+b.length:=by simp;omega
   unfold Fg;rw[dX,hl];refine gf.jn (e':=out.length) ?_ ih (by rw[hl]);exact (show gf cells ex (t.length+1+b.length) _ from h1).wk hl.symm (by rw[hl];omega)
  ·rw[MY];have h1:gf cells ex (b.length+(1+out.length)) (jn b [ins 9 (((1+out.length:Nat)):Int) 0 0 0]):=gf.jn (FR.wk rfl (by omega)) (MW (by omega)) rfl;have h2:=MX DJ h1;have e:(jn b [ins 9 (((1+out.length:Nat)):Int) 0 0 0]).length=b.length+1:=by rw[dX];rfl
   generalize jn b [ins 9 (((1+out.length:Nat)):Int) 0 0 0]=part at h2 e⊢;have hl:(t++[ins 10 ((t.length:Int)+1+part.length) 0 0 0]++ig (t.length+1) part).length=t.length+1+(b.length+1):=by simp[e];omega
   unfold Fg;rw[dX,hl];refine gf.jn (e':=out.length) ?_ ih (by rw[hl]);rw[show t.length+1+(b.length+1)+out.length=t.length+1+(b.length+(1+out.length)) by omega];exact h2
theorem nH:uZ cells (ins 11 0 0 0 0)∧¬gr (ins 11 0 0 0 0):=⟨.inr ⟨by simp[eS,ins],by simp[ins]⟩,by simp[gr,ins]⟩
theorem AY(S:List ar):cO (ins 11 0 0 0 0::S) []=cO S []:=by simp[cO,df,ins,ko]
theorem VF{t b:List ar}(ht:Ig cells t)(hb:Fg cells true b):Fg cells ex (ij t b):=by
 unfold ij;refine Fg.P2 ?_;have hl:(ins 11 0 0 0 0::t).length=t.length+1:=by simp
 have qe:Ig cells (ins 11 0 0 0 0::t):=⟨by rw[AY];exact ht.1,fun x hx=>by
  rcases List.mem_cons.1 hx with rfl|hx
  ·exact nH
  ·exact ht.2 x hx⟩
 --zC test leads behind zC jump back
 have hr:cO (ins 11 0 0 0 0::t++[ins 10 ((t.length:Int)+3+b.length) 0 0 0]) []=some []:=by
  rw[dG,qe.1];have:=Cz [];simp only[List.nil_append]at this;simp[cO,df,ins,this,ko]
 have hA:(ins 11 0 0 0 0::t++[ins 10 ((t.length:Int)+3+b.length) 0 0 0]).length=t.length+2:=by simp
 have hBw:gf cells true (b.length+1) b:=gf.wk hb rfl (by omega);have h1:=hBw.app (e:=t.length+3+b.length) (A:=ins 11 0 0 0 0::t++[ins 10 ((t.length:Int)+3+b.length) 0 0 0]) (by rw[hA];omega) hr ?_ ?_ ?_
 ·rw[hA]at h1;unfold Fg;have e:(ins 11 0 0 0 0::t++[ins 10 ((t.length:Int)+3+b.length) 0 0 0]++ig (t.length+2) b++[ins 9 0 0 0 0]).length=t.length+3+b.length:=by simp;omega
  have h3:=gf.tail h1 (e:=t.length+3+b.length) rfl (q:=[ins 9 0 0 0 0]) (by simp[cO,df,ins,ko]) (by
   intro x hx;simp at hx;subst hx;exact .inl (.inl rfl)) (by
   intro x hx _;simp at hx;subst hx;rfl) ⟨ins 11 0 0 0 0,by simp,rfl⟩ (by rw[e];omega)
  rw[e];exact h3
 ·intro x hx;rcases List.mem_append.1 hx with hx|hx
  ·exact (qe.2 x hx).1
  ·simp at hx;subst hx;exact .inl (.inr rfl)
 ·intro i x hx hj h0;by_cases hi:i<(ins 11 0 0 0 0::t).length
  ·rw[List.getElem?_append_left hi]at hx;exact absurd hj (qe.2 x (List.mem_of_getElem? hx)).2
  ·rw[List.getElem?_append_right (by omega)]at hx;have:i-(ins 11 0 0 0 0::t).length=0:=by
    have:=(List.getElem?_eq_some_iff.1 hx).1;simp at this⊢;omega
   rw[this]at hx;simp at hx;subst hx;left;simp only[ins];omega
 ·intro x hx hj h0;rcases List.mem_append.1 hx with hx|hx
  ·exact absurd hj (qe.2 x hx).2
  ·simp at hx;subst hx;simp only[ins]at h0;omega
theorem aex{t b:List ar}(ht:Ig cells t)(hb:Fg cells true b)(hh:b=[]∨∃y,b[0]?=some y∧y.op=11):Fg cells ex (lS t b):=by
 unfold lS;refine Fg.P2 ?_;unfold Fg;have e:b++ins 11 0 0 0 0::t++[ins 10 0 0 0 0]=b++(ins 11 0 0 0 0::t++[ins 10 0 0 0 0]):=by simp
 rw[e];refine gf.tail (gf.wk hb rfl (by simp)) rfl ?_ ?_ ?_ ?_ (Nat.le_refl _)
 ·rw[dG,AY,ht.1];have:=Cz [];simp only[List.nil_append]at this;simp[cO,df,ins,this,ko]
 ·intro x hx;rcases List.mem_append.1 hx with hx|hx
  ·rcases List.mem_cons.1 hx with rfl|hx
   ·exact (nH (cells:=cells)).1
   ·exact (ht.2 x hx).1
  ·simp at hx;subst hx;exact .inl (.inr rfl)
 ·intro x hx hj;rcases List.mem_append.1 hx with hx|hx
  ·rcases List.mem_cons.1 hx with rfl|hx
   ·exact absurd hj (nH (cells:=cells)).2
   ·exact absurd hj (ht.2 x hx).2
  ·simp at hx;subst hx;rfl
 ·rcases hh with rfl|⟨y,hy,nO⟩
  ·exact⟨ins 11 0 0 0 0,by simp,rfl⟩
  ·exact⟨y,by rw[List.getElem?_append_left (List.getElem?_eq_some_iff.1 hy).1];exact hy,nO⟩
theorem aey{a c:Int}{b:List ar}(ha:gE cells a 1=true)(hc:gE cells c 2=true)(sx:gE cells (c+1) 1=true)(hb:Fg cells true b):Fg cells ex (kL a c b):=by
 unfold kL;refine Fg.P2 ?_;have hr:cO [ins 11 0 0 0 0,ins 13 a c 0 0,ins 10 ((b.length:Int)+8) 0 0 0] []=some []:=by
  have:=Cz [];simp only[List.nil_append]at this;simp[cO,df,ins,this,ko,m4]
 have hBw:gf cells true (b.length+5) b:=gf.wk hb rfl (by omega);have h1:=hBw.app (e:=b.length+8) (A:=[ins 11 0 0 0 0,ins 13 a c 0 0,ins 10 ((b.length:Int)+8) 0 0 0]) (by simp;omega) hr ?_ ?_ ?_
 ·unfold Fg;have e:([ins 11 0 0 0 0,ins 13 a c 0 0,ins 10 ((b.length:Int)+8) 0 0 0]++ig 3 b++[ins 2 a 0 0 0,ins 2 (c+1) 0 0 0,ins 8 0 8 0 0,ins 6 a 0 0 0,ins 9 0 0 0 0]).length=b.length+8:=by simp
  have h3:=gf.tail h1 (e:=b.length+8) rfl (q:=[ins 2 a 0 0 0,ins 2 (c+1) 0 0 0,ins 8 0 8 0 0,ins 6 a 0 0 0,ins 9 0 0 0 0]) (by
   have h2:=VA [] false false;have h1:=yy [] false;simp only[List.nil_append,List.cons_append]at h1 h2;simp[cO,df,ins,ko,m4,h1,h2]) (by
   intro x hx;simp at hx;rcases hx with rfl|rfl|rfl|rfl|rfl
   ·exact .inr ⟨by simp[eS,ins,ha],by simp[ins]⟩
   ·exact .inr ⟨by simp[eS,ins,sx],by simp[ins]⟩
   ·exact .inr ⟨by simp[eS,ins,vQ],by simp[ins]⟩
   ·exact .inr ⟨by simp[eS,ins,ha],by simp[ins]⟩
   ·exact .inl (.inl rfl)) (by
   intro x hx hj;simp at hx;rcases hx with rfl|rfl|rfl|rfl|rfl
   ·simp[gr,ins]at hj
   ·simp[gr,ins]at hj
   ·simp[gr,ins]at hj
   ·simp[gr,ins]at hj
   ·rfl) ⟨ins 11 0 0 0 0,rfl,rfl⟩ (by rw[←e];exact Nat.le_refl _)
  rw[e];exact h3
 ·intro x hx;simp at hx;rcases hx with rfl|rfl|rfl
  ·exact (nH (cells:=cells)).1
  ·exact .inr ⟨by simp[eS,ins,ha,hc],by simp[ins]⟩
  ·exact .inl (.inr rfl)
 ·intro i x hx hj h0;match i,hx with
  |0,hx=>simp at hx;subst hx;exact absurd hj (nH (cells:=cells)).2
  |1,hx=>simp at hx;subst hx;simp[gr,ins]at hj
  |2,hx=>
   simp at hx;subst hx;left;simp only[ins];omega
  |i+3,hx=>simp at hx
 ·intro x hx hj h0;simp at hx;rcases hx with rfl|rfl|rfl
  ·exact absurd hj (nH (cells:=cells)).2
  ·simp[gr,ins]at hj
  ·simp only[ins]at h0;omega
end
section
variable {vs:List Vr}
mutual
theorem yB:∀(s:Sm)(c:Int),c≤(cV vs s c).2
 | .mk op name to val conds labels fields blocks line,c=>by
  have h1:=ot blocks;have h2:=EN blocks;unfold cV;split
  ·exact Int.le_refl _
  ·split
   ·exact h1 c
   ·split
    ·have:=h1 (c+1);simp only;omega
    ·split
     ·have:=h2 (c+2);simp only;omega
     ·split
      ·exact h2 c
      ·split
       ·exact h2 c
       ·split
        ·exact Int.le_refl _
        ·split<;>exact Int.le_refl _
theorem gG:∀(l:List Sm)(c:Int),c≤(ag vs l c).2
 |[],c=>Int.le_refl _
 |x::r,c=>by
  have h1:=yB x c;have h2:=gG r (cV vs x c).2;simp only[ag];omega
theorem ot:∀(l:List (List Sm))(c:Int),c≤(au vs l c).2
 |[],c=>Int.le_refl _
 |b::r,c=>by
  have h1:=gG b c;have h2:=ot r (ag vs b c).2;simp only[au];omega
theorem EN:∀(l:List (List Sm))(c:Int),c≤(lj vs l c).2
 |[],c=>Int.le_refl _
 |b::r,c=>gG b c
end
end
theorem P3(vs:List Vr):∀(l:List Sm)(c:Int),(ag vs l c).1=[]∨∃y,(ag vs l c).1[0]?=some y∧y.op=11
 |[],c=>.inl rfl
 |x::r,c=>.inr ⟨ins 11 0 0 0 0,by simp[ag,jn],rfl⟩
theorem MZ{h:Int}:∀{l:List Ex},jP l≤h→∀x∈l,aL 0 x≤h
 |y::r,ht,x,hx=>by
  simp only[jP]at ht;rcases List.mem_cons.1 hx with rfl|hx
  ·omega
  ·exact MZ (by omega) x hx
section
variable {vs:List Vr} {cells:Int} (ee:∀v∈vs,dr v=true) (hc:cd vs≤cells)
include ee hc
theorem Ih{x:Ex}(hf:bk x=true)(hw:(dj vs x 2).1=0)(ht:aL 0 x≤64):Ig cells (ak vs x).1:=by
 obtain⟨h1,h2⟩:=nE.1 hw;obtain⟨⟨f,i1,i2⟩,_,_,i4⟩:=nG ee hc x [] hf h1 (by simpa using ht);obtain rfl:=i2 h2;exact⟨i1,fun y hy=>sh (i4 y hy)⟩
theorem Ii{ex:Bool}{x:Ex}{a:Int}(hf:bk x=true)(he:(aF vs x).e=0)(ht:aL 0 x≤64)(ha:gE cells a 1=true):cO ((ak vs x).1++[ins 6 a 0 0 0]) []=some []∧∀y∈(ak vs x).1++[ins 6 a 0 0 0],uZ cells y∧¬gr y:=by
 obtain⟨⟨f,i1,i2⟩,_,_,i4⟩:=nG ee hc x [] hf he (by simpa using ht);constructor
 ·rw[dG,i1];have:=yy [] f;simp only[List.nil_append]at this;simp[cO,df,ins,this]
 ·intro y hy;rcases List.mem_append.1 hy with hy|hy
  ·exact sh (i4 y hy)
  ·simp at hy;subst hy;exact⟨.inr ⟨by simp[eS,ins,ha],by simp[ins]⟩,by simp[gr,ins]⟩
theorem si{ex:Bool}{l:List ar}(h:cO l []=some []∧∀y∈l,uZ cells y∧¬gr y):Fg cells ex l:=
 gf.plain h.1 (fun x hx=>(h.2 x hx).1) (fun x hx=>(h.2 x hx).2) (Nat.le_refl _)
omit ee in
theorem ZN{c:Int}(h:gE cells c 1=true)(l:List Int):Ig cells (ins 1 0 0 0 0::dZ c l):=by
 have key:∀(n:Nat)(l:List Int),l.length≤n→cO (dZ c l) [true]=some [true]∧∀x∈dZ c l,uZ cells x∧¬gr x:=by
  intro n;induction n with
  |zero=>
   intro l hl;obtain rfl:l=[]:=List.eq_nil_of_length_eq_zero (by omega);exact⟨rfl,by simp[dZ]⟩
  |succ n ih=>
   intro l hl;match l,hl with
   |[],_=>exact⟨rfl,by simp[dZ]⟩
   |[a],_=>exact⟨rfl,by simp[dZ]⟩
   |a::b::r,hl=>
    obtain⟨i1,i2⟩:=ih r (by simp at hl;omega);constructor
    ·have:=YS [];simp only[List.nil_append,List.cons_append]at this;simp[dZ,cO,df,ins,m4,this,i1]
    ·intro x hx;simp only[dZ,List.mem_cons]at hx;rcases hx with rfl|rfl|hx
     ·exact⟨.inr ⟨by simp[eS,ins,h],by simp[ins]⟩,by simp[gr,ins]⟩
     ·exact⟨.inr ⟨by simp[eS,ins,vQ],by simp[ins]⟩,by simp[gr,ins]⟩
     ·exact i2 x hx
 obtain⟨i1,i2⟩:=key l.length l (Nat.le_refl _);refine⟨by simp[cO,df,ins,m4,i1],fun x hx=>?_⟩;rcases List.mem_cons.1 hx with rfl|hx
 ·exact⟨.inr ⟨by simp[eS,ins],by simp[ins]⟩,by simp[gr,ins]⟩
 ·exact i2 x hx
theorem Ij{s:Tx}{v:Vr}(h:bg vs s=some v)(ha:¬v.arr=true)(ht:v.ty≤2):gE cells (b9 vs s).1 1=true:=by
 have zU:∀v∈vs,0≤bK v:=fun v hv=>nF (ee v hv);have aO:=ta zU h;have mH:bK v=1:=by unfold bK;rw[if_neg ha,if_neg (by omega)]
 exact je (by omega) (by omega) (by omega)
theorem ZO{s:Tx}{v:Vr}(h:bg vs s=some v)(ha:v.arr=true):Hf cells (ins 7 (b9 vs s).1 0 v.lo v.hi)=true:=by
 have zU:∀v∈vs,0≤bK v:=fun v hv=>nF (ee v hv);have aO:=ta zU h;have gp:=ee v (s6 h).1;simp only[dr,Bool.and_eq_true]at gp;have hb:=gp.2.2.1;rw[if_pos ha]at hb;have hb:=of_decide_eq_true hb;have mH:bK v=v.hi-v.lo+1:=by unfold bK;rw[if_pos ha]
 have qK:gE cells (b9 vs s).1 (v.hi-v.lo+1)=true:=je (by omega) (by omega) (by omega);unfold Hf;simp only[Bool.and_eq_true];exact⟨⟨⟨decide_eq_true (show (0:Int)≤v.lo by omega),decide_eq_true (show v.lo≤v.hi by omega)⟩,decide_eq_true (show v.hi≤255 by omega)⟩,qK⟩
theorem EO{s:Tx}{v:Vr}(h:bg vs s=some v)(ht:2<v.ty):0≤(b9 vs s).1∧(b9 vs s).1+(bz v.ty).length≤cells∧0<(bz v.ty).length:=by
 have zU:∀v∈vs,0≤bK v:=fun v hv=>nF (ee v hv);have aO:=ta zU h;have gp:=ee v (s6 h).1;have hk:ob v.ty=true:=by
  rcases Mw gp with h|h
  ·omega
  ·exact h.2.2
 simp only[dr,Bool.and_eq_true]at gp;have gi:¬v.arr=true:=by
  intro ha;have hb:=gp.2.2.1;rw[if_pos ha]at hb;have hb:=of_decide_eq_true hb;omega
 have mH:bK v=(bz v.ty).length:=by unfold bK;rw[if_neg gi,if_pos ht]
 refine⟨by omega,by omega,?_⟩;unfold ob at hk;have:=of_decide_eq_true hk;omega
theorem aib{ex:Bool}{to val:Ex}{line:Int}(h3:bR to=3∨bR to=4)(f1:bk to=true)(f2:bk val=true)(h:(Cn vs to val line).1=0)(ht:(if bR to=3 then aL 0 val else max (fC 0 (cK to)) (aL 1 val))≤64):
 Fg cells ex (if bR to=3 then (ak vs val).1++[ins 6 (b9 vs (dA to)).1 0 0 0]else oo vs (cK to)++((ak vs val).1++[ins 7 (b9 vs (dA to)).1 0 (b9 vs (dA to)).2.lo (b9 vs (dA to)).2.hi])):=by
 obtain⟨op,n,name,field,sub,l⟩:=to;simp only[mQ,yn,mR]at h3 ht⊢;unfold Cn at h;simp only[yn]at h;cases hv:bg vs name with
 |none=>rw[hv]at h;simp at h
 |some v=>
  rw[hv]at h;simp only at h;split at h
  ·simp at h
  ·obtain⟨q1,q2'⟩:=bX.1 h;obtain⟨ao4,_⟩:=bX.1 q2';have q1:(aF vs (.mk op n name field sub l)).e=0:=q1;have q2:(aF vs val).e=0:=ao4;have MR:=Dr f1 q1;obtain⟨hlen,fQ⟩:=zn f1;have gM:=iB hv;unfold aF at q1;rw[if_neg (by omega),if_pos (by omega),hv]at q1;simp only at q1;rw[if_neg (by omega)]at q1;by_cases EK:v.arr≠decide (op=4)∨2<v.ty
   ·rw[if_pos EK]at q1;simp[cy]at q1
   ·have xr:v.arr=decide (op=4):=by
     cases hq:v.arr<;>cases hq2:decide (op=4)<;>simp_all
    have ao2:¬2<v.ty:=fun h=>EK (.inr h);by_cases ho:op=3
    ·subst ho;have ht:aL 0 val≤64:=ht;have gi:¬v.arr=true:=by rw[xr];decide
     exact si (l:=(ak vs val).1++[ins 6 (b9 vs name).1 0 0 0]) ee hc (Ii (ex:=ex) ee hc f2 q2 ht (Ij ee hc hv gi (by omega)))
    ·have ho4:op=4:=by omega
     subst ho4;have ht:max (fC 0 sub) (aL 1 val)≤64:=ht;obtain⟨z,rfl⟩:∃z,sub=[z]:=by
      match sub,hlen with
      |[z],_=>exact⟨z,rfl⟩
      |[],h=>simp[dC]at h
      |_::_::_,h=>simp[dC]at h
     simp only[fC]at ht;have hz:=(iO _).1 fQ z (by simp);obtain⟨⟨f,i1,_⟩,_,_,i4⟩:=nG ee hc z [] hz (MR z (by simp)) (by simp;omega);obtain⟨⟨g,j1,_⟩,_,_,j4⟩:=nG ee hc val [f] f2 q2 (by simp;omega);have gi:v.arr=true:=by rw[xr];decide
     have hb:=ZO ee hc hv gi;simp only[oo,gM];refine si (l:=(ak vs z).1++((ak vs val).1++[ins 7 (b9 vs name).1 0 v.lo v.hi])) ee hc ⟨?_,?_⟩
     ·rw[dG,i1];simp only[List.nil_append,Option.bind_some];rw[dG,j1];have:=VA [] f g;simp only[List.nil_append,List.cons_append]at this;simp[cO,df,ins,this]
     ·intro y hy;rcases List.mem_append.1 hy with hy|hy
      ·exact sh (i4 y hy)
      ·rcases List.mem_append.1 hy with hy|hy
       ·exact sh (j4 y hy)
       ·simp at hy;subst hy;refine⟨.inr ⟨?_,by simp[ins]⟩,by simp[gr,ins]⟩;unfold eS;simp only[ins]at hb⊢;simpa using hb
theorem M0{name:Tx}{v:Vr}{line:Int}(hv:bg vs name=some v)(ht:2<v.ty):∀(fs:List Tx)(xs:List Ex)(p:List Tx),xs.length=fs.length→bH xs=true→(iz vs v.ty line fs xs p).1=0→jP xs≤64→
 cO (dK vs name fs xs) []=some []∧∀y∈dK vs name fs xs,uZ cells y∧¬gr y
 |[],[],p,_,_,_,_=>⟨rfl,by simp[dK]⟩
 |f::fs,x::xs,p,hl,hf,h,Bo=>by
  simp only[bH,Bool.and_eq_true]at hf;simp only[jP]at Bo;unfold iz at h;cases hp:kJ v.ty f with
  |none=>rw[hp]at h;simp at h
  |some q=>
   rw[hp]at h;simp only at h;split at h
   ·simp at h
   ·split at h
    ·simp at h
    ·obtain⟨h3,h4⟩:=bX.1 h;obtain⟨i1,i2⟩:=M0 hv ht fs xs (p++[f]) (by simpa using hl) hf.2 h4 (by omega);obtain⟨_,q2,j,q3,q4⟩:=uW hv ht hp;obtain⟨b1,b2,b3⟩:=EO ee hc hv ht;have qK:gE cells (ie vs name f).1 1=true:=je (by rw[q3];omega) (by omega) (by rw[q3];omega);obtain⟨j1,j2⟩:=Ii (ex:=false) ee hc hf.1 (nE.1 h3).1 (by omega) qK;have e:dK vs name (f::fs) (x::xs)=((ak vs x).1++[ins 6 (ie vs name f).1 0 0 0])++dK vs name fs xs:=by simp[dK]
     rw[e];constructor
     ·rw[dG,j1];exact i1
     ·intro y hy;rcases List.mem_append.1 hy with hy|hy
      ·exact j2 y hy
      ·exact i2 y hy
 |[],_::_,_,hl,_,_,_=>by simp at hl
 |_::_,[],_,hl,_,_,_=>by simp at hl
end
theorem tg{vs:List Vr}{loops:Bool}:∀{cs:List Ex}{l:List (List Sm)},cs.length≤l.length→(fq vs loops cs l).1=0→∀x∈cs,(dj vs x 2).1=0
 |c::cs,b::r,hl,h,x,hx=>by
  obtain⟨h1,h2⟩:=bX.1 h;obtain⟨_,h3⟩:=bX.1 h2;rcases List.mem_cons.1 hx with rfl|hx
  ·exact h1
  ·exact tg (by simpa using hl) h3 x hx
 |_::_,[],hl,_,_,_=>by simp at hl
section
variable {vs:List Vr} {cells:Int} (ee:∀v∈vs,dr v=true) (hc:cd vs≤cells)
include ee hc
mutual
theorem ZP(loops:Bool):∀(s:Sm)(c:Int),iZ s=true→(jS vs loops s).1=0→gk s≤64→0≤c→(cV vs s c).2≤cells→Fg cells loops (cV vs s c).1
 | .mk op name to val conds labels fields blocks line,c,hf,h,ht,gO,eQ=>by
  simp only[iZ,Bool.and_eq_true,decide_eq_true_eq]at hf;obtain⟨cS,eN,cE,cA,eK,bZ,uT,uU,eO⟩:=hf;have vf:(op=1∨op=3∨op=5∨op=6)→bk val=true:=by
   intro h1;rw[if_pos h1]at cA;simp only[Bool.and_eq_true]at cA;exact cA.2
  unfold jS at h;unfold gk at ht;unfold cV at eQ⊢;by_cases h1:op=1
  ·subst h1;rw[if_pos rfl]at h;rw[if_pos rfl]at cE;simp only[Bool.and_eq_true,decide_eq_true_eq]at cE;simp only[if_true]at ht⊢;exact aib ee hc cE.1 cE.2 (vf (.inl rfl)) h ht
  ·rw[if_neg h1]at h ht;simp only[if_neg h1]at eQ⊢;by_cases h2:op=2
   ·subst h2;rw[if_pos rfl]at h ht;simp only[if_true]at eQ⊢;have hs:cq 2 conds.length labels.length fields.length blocks.length=true:=bZ;simp[cq]at hs;refine FA _ _ ?_ (wc loops conds blocks c eO h (by omega) gO eQ);intro t DJ;obtain⟨x,hx,rfl⟩:=List.mem_map.1 DJ;exact Ih ee hc ((iO _).1 eK x hx) (tg (by omega) h x hx) (MZ (by omega) x hx)
   ·rw[if_neg h2]at h ht;simp only[if_neg h2]at eQ⊢;by_cases h3:op=3
    ·subst h3;rw[if_pos rfl]at h ht;simp only[if_true]at eQ⊢;obtain⟨q1,q2⟩:=bX.1 h;have hm:=ot (vs:=vs) blocks (c+1);have nN:gE cells c 1=true:=je gO (by omega) (by omega);refine Fg.jn (si ee hc (Ii (ex:=loops) ee hc (vf (.inr (.inl rfl))) (nE.1 q1).1 (by omega) nN)) ?_;refine FA _ _ ?_ (wc loops [] blocks (c+1) eO q2 (by omega) (by omega) eQ);intro t DJ;obtain⟨l,hl,rfl⟩:=List.mem_map.1 DJ;exact ZN hc nN l
    ·rw[if_neg h3]at h ht;simp only[if_neg h3]at eQ⊢;by_cases h4:op=4
     ·subst h4;rw[if_pos rfl]at h ht;simp only[if_true]at eQ⊢;have hs:cq 4 conds.length labels.length fields.length blocks.length=true:=bZ;simp[cq]at hs;obtain⟨aO,_,_,gx⟩:=hs;cases hv:bg vs name with
      |none=>rw[hv]at h;simp at h
      |some v=>
       rw[hv]at h;simp only at h;split at h
       ·simp at h
       ·split at h
        ·simp at h
        ·rename_i g2;obtain⟨q1,q2⟩:=bX.1 h;have hm:=EN (vs:=vs) blocks (c+2);have oH:=Ij ee hc hv (fun e=>g2 (.inl e)) (by omega);have c1:gE cells c 1=true:=je gO (by omega) (by omega);have c2:gE cells (c+1) 1=true:=je (by omega) (by omega) (by omega);have c3:gE cells c 2=true:=je gO (by omega) (by omega);refine Fg.jn ?_ (aey oH c3 c2 (Dx blocks (c+2) eO q2 gx (by omega) (by omega) eQ));obtain⟨x,y,z,rfl⟩:∃x y z,conds=[x,y,z]:=by
          match conds,aO with
          |[x,y,z],_=>exact⟨x,y,z,rfl⟩
         obtain⟨w1,w2⟩:=bX.1 q1;obtain⟨w2,w3⟩:=bX.1 w2;obtain⟨w3,_⟩:=bX.1 w3;simp only[bH,Bool.and_eq_true]at eK;simp only[fC,Int.zero_add,Int.reduceAdd]at ht;obtain⟨⟨f,i1,_⟩,_,_,i4⟩:=nG ee hc x [] eK.1 (nE.1 w1).1 (by simp;omega);obtain⟨⟨g,j1,_⟩,_,_,j4⟩:=nG ee hc y [f] eK.2.1 (nE.1 w2).1 (by simp;omega);obtain⟨⟨k,k1,_⟩,_,_,k4⟩:=nG ee hc z [f,g] eK.2.2.1 (nE.1 w3).1 (by simp;omega);refine si ee hc ⟨?_,?_⟩
         ·simp only[hZ];rw[dG,dG,i1];simp only[List.nil_append,Option.bind_some];rw[dG,j1];simp only[List.cons_append,List.nil_append,Option.bind_some];rw[k1];have t1:=yy [f,g] k;have t2:=yy [f] g;have t3:=yy [] f;simp only[List.cons_append,List.nil_append]at t1 t2 t3;simp[cO,df,ins,t1,t2,t3]
         ·intro a ha;simp only[hZ,List.mem_append,List.mem_cons,List.not_mem_nil,or_false]at ha;rcases ha with (ha|ha|ha)|rfl|rfl|rfl
          ·exact sh (i4 a ha)
          ·exact sh (j4 a ha)
          ·exact sh (k4 a ha)
          ·exact⟨.inr ⟨by simp[eS,ins,c2],by simp[ins]⟩,by simp[gr,ins]⟩
          ·exact⟨.inr ⟨by simp[eS,ins,c1],by simp[ins]⟩,by simp[gr,ins]⟩
          ·exact⟨.inr ⟨by simp[eS,ins,oH],by simp[ins]⟩,by simp[gr,ins]⟩
     ·rw[if_neg h4]at h ht;simp only[if_neg h4]at eQ⊢;by_cases h5:op=5
      ·subst h5;rw[if_pos rfl]at h;rw[if_pos (.inl rfl)]at ht;simp only[if_true]at eQ⊢;have hs:cq 5 conds.length labels.length fields.length blocks.length=true:=bZ;simp[cq]at hs;obtain⟨q1,q2⟩:=bX.1 h;exact VF (Ih ee hc (vf (.inr (.inr (.inl rfl)))) q1 (by omega)) (Dx blocks c eO q2 hs.2.2.2 (by omega) gO eQ)
      ·rw[if_neg h5]at h;simp only[if_neg h5]at eQ⊢;by_cases h6:op=6
       ·subst h6;rw[if_pos rfl]at h;rw[if_pos (.inr rfl)]at ht;simp only[if_true]at eQ⊢;have hs:cq 6 conds.length labels.length fields.length blocks.length=true:=bZ;simp[cq]at hs;obtain⟨q1,q2⟩:=bX.1 h;refine aex (Ih ee hc (vf (.inr (.inr (.inr rfl)))) q2 (by omega)) (Dx blocks c eO q1 hs.2.2.2 (by omega) gO eQ) ?_;match blocks,hs.2.2.2 with
        |[b],_=>exact P3 vs b c
       ·rw[if_neg h6]at h;rw[if_neg (by omega)]at ht;simp only[if_neg h6]at eQ⊢;by_cases h7:op=7
        ·subst h7;rw[if_pos rfl]at h;simp only[if_true]at⊢;split at h
         ·rename_i cP;subst cP;refine⟨Nat.le_refl _,by simp[cO,df,ins,ko],?_,?_,?_⟩
          ·intro x hx;simp at hx;subst hx;exact .inl (.inl rfl)
          ·intro i x hx hj h0;cases i with
           |zero=>simp at hx;subst hx;simp[ins]at h0
           |succ i=>simp at hx
          ·intro x hx hj h0;simp at hx;subst hx;exact⟨rfl,.inr ⟨rfl,rfl⟩⟩
         ·simp at h
        ·rw[if_neg h7]at h;simp only[if_neg h7]at⊢;by_cases h8:op=8
         ·subst h8;simp only[if_true];refine⟨Nat.le_refl _,by simp[cO,df,ins,ko],?_,?_,?_⟩
          ·intro x hx;simp at hx;subst hx;exact .inl (.inl rfl)
          ·intro i x hx hj h0;cases i with
           |zero=>simp at hx;subst hx;simp[ins]at h0
           |succ i=>simp at hx
          ·intro x hx hj h0;simp at hx;subst hx;exact⟨rfl,.inl rfl⟩
         ·have h9:op=9:=by omega
          subst h9;rw[if_pos rfl]at h;rw[if_neg (by omega)]at ht;simp only[if_neg h8];have hs:cq 9 conds.length labels.length fields.length blocks.length=true:=bZ;simp[cq]at hs;cases hv:bg vs name with
          |none=>rw[hv]at h;simp at h
          |some v=>
           rw[hv]at h;simp only at h;split at h
           ·simp at h
           ·rename_i g1;have gM:=iB hv;obtain⟨i1,i2⟩:=M0 ee hc hv (by omega) fields conds [] hs.1 eK h ht;obtain⟨b1,b2,b3⟩:=EO ee hc hv (by omega);refine si ee hc ⟨?_,?_⟩
            ·rw[dG,i1];simp[cO,df,ins,ko]
            ·intro y hy;rcases List.mem_append.1 hy with hy|hy
             ·exact i2 y hy
             ·simp at hy;subst hy;refine⟨.inr ⟨?_,by simp[ins]⟩,by simp[gr,ins]⟩;rw[gM];have qK:gE cells (b9 vs name).1 (bz v.ty).length=true:=je b1 (by omega) b2;simp[eS,ins,pnN,qK];exact decide_eq_true b3
theorem sj(loops:Bool):∀(l:List Sm)(c:Int),ej l=true→(eu vs loops l).1=0→bf l≤64→0≤c→(ag vs l c).2≤cells→Fg cells loops (ag vs l c).1
 |[],c,_,_,_,_,_=>gf.plain rfl (by simp[ag]) (by simp[ag]) (Nat.le_refl _)
 |x::r,c,hf,h,ht,gO,eQ=>by
  simp only[ej,Bool.and_eq_true]at hf;simp only[bf]at ht;obtain⟨h1,h2⟩:=bX.1 h;simp only[ag]at eQ⊢;have m1:=yB (vs:=vs) x c;have m2:=gG (vs:=vs) r (cV vs x c).2;have i1:=ZP loops x c hf.1 h1 (by omega) gO (by omega);have i2:=sj loops r (cV vs x c).2 hf.2 h2 (by omega) (by omega) eQ;have tk:Fg cells loops [ins 11 0 0 0 0]:=gf.plain (by rw[AY];rfl) (fun x hx=>by simp at hx;subst hx;exact nH.1) (fun x hx=>by simp at hx;subst hx;exact (nH (cells:=cells)).2) (Nat.le_refl _);exact Fg.jn (Fg.jn tk i1) i2
theorem wc(loops:Bool):∀(cs:List Ex)(l:List (List Sm))(c:Int),cI l=true→(fq vs loops cs l).1=0→bW l≤64→0≤c→(au vs l c).2≤cells→∀b∈(au vs l c).1,Fg cells loops b
 |_,[],c,_,_,_,_,_,b,hb=>by simp[au]at hb
 |[],x::r,c,hf,h,ht,gO,eQ,b,hb=>by
  simp only[cI,Bool.and_eq_true]at hf;simp only[bW]at ht;obtain⟨h1,h2⟩:=bX.1 h;simp only[au]at eQ hb;have m1:=gG (vs:=vs) x c;have m2:=ot (vs:=vs) r (ag vs x c).2;have i1:=sj loops x c hf.1 h1 (by omega) gO (by omega);have i2:=wc loops [] r (ag vs x c).2 hf.2 h2 (by omega) (by omega) eQ;rcases List.mem_cons.1 hb with rfl|hb
  ·exact i1
  ·exact i2 b hb
 |_::cs,x::r,c,hf,h,ht,gO,eQ,b,hb=>by
  simp only[cI,Bool.and_eq_true]at hf;simp only[bW]at ht;obtain⟨_,h⟩:=bX.1 h;obtain⟨h1,h2⟩:=bX.1 h;simp only[au]at eQ hb;have m1:=gG (vs:=vs) x c;have m2:=ot (vs:=vs) r (ag vs x c).2;have i1:=sj loops x c hf.1 h1 (by omega) gO (by omega);have i2:=wc loops cs r (ag vs x c).2 hf.2 h2 (by omega) (by omega) eQ;rcases List.mem_cons.1 hb with rfl|hb
  ·exact i1
  ·exact i2 b hb
theorem Dx:∀(l:List (List Sm))(c:Int),cI l=true→(s4 vs l).1=0→l.length=1→bW l≤64→0≤c→(lj vs l c).2≤cells→Fg cells true (lj vs l c).1
 |[b],c,hf,h,_,ht,gO,eQ=>by
  simp only[cI,Bool.and_true]at hf;simp only[bW]at ht;exact sj true b c hf h (by omega) gO eQ
 |[],_,_,_,hl,_,_,_=>by simp at hl
 |_::_::_,_,_,_,hl,_,_,_=>by simp at hl
end
end
theorem sk{op a b n m:Int}(h:op<9∨10<op):Flat [ins op a b n m]:=Flat.one (by simp[ins];omega)
section
variable {vs:List Vr}
mutual
theorem lA:∀x:Ex,bk x=true→(aF vs x).e=0→Flat (ak vs x).1
 | .mk op n name field sub line,hf,h=>by
  have cS:=Ic hf;simp only[bk,Bool.and_eq_true,decide_eq_true_eq]at hf;obtain⟨_,hlen,_,_,fQ⟩:=hf;unfold aF at h;unfold ak;by_cases kR:op=1∨op=2
  ·simp only[if_pos kR];exact sk (by omega)
  ·rw[if_neg kR]at h⊢;by_cases sf:op=3∨op=4∨op=5
   ·rw[if_pos sf]at h;cases hv:bg vs name with
    |none=>rw[hv]at h;simp[cy]at h
    |some v=>
     rw[hv]at h;simp only at h;have gM:(b9 vs name).2=v:=iB hv;by_cases h5:op=5
     ·rw[if_pos h5]at h;rw[if_neg (by omega),if_pos h5];split at h
      ·simp[cy]at h
      ·rename_i mm;cases hp:kJ v.ty field with
       |none=>rw[hp]at h;simp[cy]at h
       |some p=>
        obtain⟨_,hm,j,hj,_⟩:=H6 (i:=0) hp;have hpa:=uW hv (by omega) hp;have hpt:=SV hm;have:(ie vs name field).2=p:=by
         obtain⟨_,_,_,_⟩:=hpa;simp_all
        simp only[this];exact sk (by omega)
     ·rw[if_neg h5]at h;split at h
      ·simp[cy]at h
      ·rename_i EK;simp only[not_or,Int.not_lt]at EK;by_cases h4:op=4
       ·rw[if_pos h4]at h;rw[if_neg (by omega),if_neg h5,if_pos h4];simp only[gM];refine Flat.app (aic sub v.ty fQ h) (sk (by omega))
       ·rw[if_pos (by omega)];simp only[gM];exact sk (by omega)
   ·rw[if_neg sf]at h;rw[if_neg (by omega),if_neg (by omega),if_neg (by omega)];exact Flat.app (aid sub op line fQ h (by rw[hlen];unfold dC;split<;>(try split)<;>omega)) (sk (by omega))
theorem aic:∀(l:List Ex)(t:Int),bH l=true→(uL vs t l).e=0→Flat (oo vs l)
 |[],t,_,_=>by unfold oo;exact Flat.nil
 |x::r,t,hf,h=>by
  simp only[bH,Bool.and_eq_true]at hf;unfold oo;unfold uL at h;split at h
  ·rename_i he;exact absurd h he
  ·rename_i he;exact lA x hf.1 (by simpa using he)
theorem aid:∀(l:List Ex)(op line:Int),bH l=true→(qH vs op line l).e=0→l.length≤2→Flat (hZ vs l).1
 |[],_,_,_,_,_=>by unfold hZ;exact Flat.nil
 |[x],op,line,hf,h,_=>by
  simp only[bH,Bool.and_true]at hf;unfold qH at h;unfold hZ;exact lA x hf (gS h).1
 |[x,y],op,line,hf,h,_=>by
  simp only[bH,Bool.and_true,Bool.and_eq_true]at hf;unfold qH at h;obtain⟨h1,h2,_⟩:=gS h;unfold hZ hZ;exact Flat.app (lA x hf.1 h1) (lA y hf.2 h2)
 |x::y::z::r,_,_,_,_,hl=>by simp at hl
end
theorem jF{x:Ex}{t:Int}(h:(dj vs x t).1=0):(aF vs x).e=0∧(aF vs x).t=t:=by
 unfold dj at h;split at h
 ·rename_i he;exact absurd h he
 ·rename_i he;split at h
  ·simp at h
  ·rename_i ht;exact⟨by simpa using he,by simpa using ht⟩
theorem YX(c:Int):∀l:List Int,Flat (dZ c l)
 |[]=>by unfold dZ;exact Flat.nil
 |[_]=>by unfold dZ;exact Flat.nil
 |a::b::r=>by
  unfold dZ;exact Flat.cons (by simp[ins]) (Flat.cons (by simp[ins]) (YX c r))
end
def jf(ex:Bool)(x:ar):Prop:=(x.op=10→0≤x.a)∧(x.op=9→0≤x.a∨x.a= -2∨(ex=true∧x.a= -1))
def Jf(ex:Bool)(l:List ar):Prop:=∀x∈l,jf ex x
section
variable {ex:Bool}
theorem Flat.jf{l:List ar}(h:Flat l):Jf ex l:=fun x hx=>⟨fun h9=>absurd h9 (h x hx).2,fun h9=>absurd h9 (h x hx).1⟩
theorem Jf.app{a b:List ar}(ha:Jf ex a)(hb:Jf ex b):Jf ex (a++b):=fun x hx=>(List.mem_append.1 hx).elim (ha x) (hb x)
theorem Jf.nil:Jf ex []:=fun _ h=>by simp at h
theorem Jf.one{x:ar}(h:Am.jf ex x):Jf ex [x]:=fun y hy=>by simp at hy;subst hy;exact h
theorem Jf.mv{l:List ar}(h:Jf ex l)(k:Nat):Jf ex (ig k l):=by
 intro x hx;obtain⟨y,hy,rfl⟩:=List.mem_map.1 hx;have:=h y hy;unfold Am.jf mr at*;split
 ·rename_i hc;exact⟨fun _=>by simp only;omega,fun _=>.inl (by simp only;omega)⟩
 ·exact this
theorem Jf.jn{a b:List ar}(ha:Jf ex a)(hb:Jf ex b):Jf ex (jn a b):=ha.app (hb.mv _)
theorem Jf.out{l:List ar}(h:Jf true l):Jf ex (ph l):=by
 intro x hx;obtain⟨y,hy,rfl⟩:=List.mem_map.1 hx;have:=h y hy;unfold Am.jf se at*;split
 ·exact⟨fun _=>by simp only;omega,fun _=>.inl (by simp only;omega)⟩
 ·rename_i hc;refine⟨this.1,fun h9=>?_⟩;rcases this.2 h9 with h|h|h
  ·exact .inl h
  ·exact .inr (.inl h)
  ·exact absurd ⟨h9,h.2⟩ hc
end
theorem Ik{vs:List Vr}{name:Tx}:∀(fs:List Tx)(xs:List Ex),bH xs=true→(∀x∈xs,(aF vs x).e=0)→Flat (dK vs name fs xs)
 |[],xs,_,_=>by cases xs<;>simp only[dK]<;>exact Flat.nil
 |_::_,[],_,_=>by simp only[dK];exact Flat.nil
 |f::fs,x::xs,hf,h=>by
  simp only[bH,Bool.and_eq_true]at hf;simp only[dK];exact Flat.app (lA x hf.1 (h x (by simp))) (Flat.cons (by simp[ins]) (Ik fs xs hf.2 (fun y hy=>h y (by simp[hy]))))
end Go.Am
end
section
namespace Go.Am
open Go Go.Proofs
variable [Inhabited bV]
set_option maxRecDepth 20000
@[simp] def da(x:ar):D:=.agg [.int .i64 x.op,.int .i64 x.a,.int .i64 x.b,.int .i64 x.n,.int .i64 x.m]
@[simp] def ayc(ins:List ar)(vars cells:Int)(x y:AV):aE:=.box [.d (.list (ins.map da)),.d (.int .i64 vars),.d (.int .i64 cells),x,y]
@[simp] def bD(l:List Bool):List D:=l.map .bool
section
variable (ins:List ar) (vars cells:Int) (s1 o1 n1 s2 o2 n2:Nat) (S T:List D)
end
structure Mk where
 out:List ar
 cells:Int
 most:Int
 ex:List (List Int)
 lv:List Int
@[simp] def dw(n:Int):D:=.int .i64 n
@[simp] def fI(l:List Int):List D:=l.map dw
@[simp] def mkB(p:Pg)(m:Mk)(h:Int):aE:=.box [.d (.str p.name),.d (.list (p.vars.map bF)),.d (.list (p.body.map b5)),.vec 1 0 0 m.out.length,.d (.int .i64 m.cells),.d (.int .i64 h),.d (.int .i64 m.most),.vec 2 0 0 m.ex.length,.vec 3 0 0 m.lv.length]
@[simp] def fJ(p:Pg)(m:Mk)(h:Int):List aE:=[mkB p m h,.vec 5 (m.out.map da),.vv (m.ex.map fI) none,.vec 1 (m.lv.map dw)]
@[simp] def Na(p:Pg)(m:Mk)(h:Int)(v1 v2 v3:Nat):List (Nat×aE):=[(0,.box [.d (.str p.name),.d (.list (p.vars.map bF)),.d (.list (p.body.map b5)),.vec 1 v1 0 m.out.length,.d (.int .i64 m.cells),.d (.int .i64 h),.d (.int .i64 m.most),.vec 2 v2 0 m.ex.length,.vec 3 v3 0 m.lv.length]),(v1,.vec 5 (m.out.map da)),(v2,.vv (m.ex.map fI) none),(v3,.vec 1 (m.lv.map dw))]
@[simp] def gH(p:Pg)(m:Mk)(h:Int)(a b c va vb vc:Nat):aE:=.box [.d (.str p.name),.d (.list (p.vars.map bF)),.d (.list (p.body.map b5)),.vec a va 0 m.out.length,.d (.int .i64 m.cells),.d (.int .i64 h),.d (.int .i64 m.most),.vec b vb 0 m.ex.length,.vec c vc 0 m.lv.length]
def fK(p:Pg)(m:Mk)(h:Int)(o:Out)(r:bP):Prop:=∃v1 v2 v3,r=some (o,Na p m h v1 v2 v3)
def Mk.put(m:Mk)(x:ar)(t:Int):Mk:={m with out:=m.out++[x],most:=max m.most t}
theorem mxI(a b:Int):(if a<b then b else a)=max a b:=by
 rw[Int.max_def];by_cases h:a<b
 ·rw[if_pos h,if_pos (by omega)]
 ·by_cases h2:a=b
  ·subst h2;simp
  ·rw[if_neg h,if_neg (by omega)]
theorem CC(p:Pg)(m:Mk)(h:Int):ai ctx 143 [.ptr 0 0 0] (fJ p m h)=some (.ret (.d (.int .i64 m.out.length)),Na p m h 0 0 0):=by
 rw[acG (by simp)];simp[Tryz.f143]
theorem jg(p:Pg)(m:Mk)(h ib:Int)(x:ar)(hl:m.out.length<100000000)(hw:IntKind.i64.wrap (h+ib)=h+ib):fK p (m.put x (h+ib)) (h+ib) (.ret (.d (.int .i64 m.out.length))) (ai ctx 53 [.ptr 0 0 0,.d (da x),.d (.int .i64 ib)] (fJ p m h)):=by
 have w0:IntKind.i64.wrap (m.out.length:Int)=m.out.length:=aw (by unfold aY;omega);have w3:m.out.length≤4611686018427387903:=by omega
 have w4:(m.out.length+1)*40≤140737488355328:=by omega
 rw[PI (by simp)];simp[Tryz.f53,aq,hw,w0,w3,w4,mxI];exact⟨1,0,0,by simp[Mk.put]⟩
theorem Ta(p:Pg)(m:Mk)(h n:Int)(hw:IntKind.i64.wrap (m.cells+n)=m.cells+n):fK p {m with cells:=m.cells+n} h (.ret (.d (.int .i64 m.cells))) (ai ctx 207 [.ptr 0 0 0,.d (.int .i64 n)] (fJ p m h)):=by
 rw[acX (by simp)];simp[Tryz.f207,hw];exact⟨_,_,_,rfl⟩
theorem pq(p:Pg)(m:Mk)(h at_:Int)(hl:m.out.length<100000000)(hw:IntKind.i64.wrap (h+ -1)=h+ -1):fK p (m.put (ins 6 at_ 0 0 0) (h+ -1)) (h+ -1) (.ret (.aU [])) (ai ctx 203 [.ptr 0 0 0,.d (.int .i64 at_)] (fJ p m h)):=by
 obtain⟨v1,v2,v3,ha⟩:=jg p m h (-1) (ins 6 at_ 0 0 0) hl hw;generalize m.put (ins 6 at_ 0 0 0) (h+ -1)=M at*;rw[acT (by simp)];simp[ins]at ha;simp[Tryz.f203,ha];exact⟨_,_,_,rfl⟩
theorem lV(p:Pg)(m:Mk)(h:Int)(hl:m.out.length<100000000)(hw:IntKind.i64.wrap h=h):fK p (m.put (ins 11 0 0 0 0) h) h (.ret (.aU [])) (ai ctx 133 [.ptr 0 0 0] (fJ p m h)):=by
 obtain⟨v1,v2,v3,ha⟩:=jg p m h 0 (ins 11 0 0 0 0) hl (by simpa using hw);rw[show h+0=h by omega]at ha;generalize m.put (ins 11 0 0 0 0) h=M at*;rw[acB (by simp)];simp[ins]at ha;simp[Tryz.f133,ha];exact⟨_,_,_,rfl⟩
theorem we(p:Pg)(m:Mk)(h to:Int)(hl:m.out.length<100000000)(hw:IntKind.i64.wrap (h+ -1)=h+ -1):fK p (m.put (ins 10 to 0 0 0) (h+ -1)) (h+ -1) (.ret (.d (.int .i64 m.out.length))) (ai ctx 204 [.ptr 0 0 0,.d (.int .i64 to)] (fJ p m h)):=by
 obtain⟨v1,v2,v3,ha⟩:=jg p m h (-1) (ins 10 to 0 0 0) hl hw;generalize m.put (ins 10 to 0 0 0) (h+ -1)=M at*;rw[acU (by simp)];simp[ins]at ha;simp[Tryz.f204,ha];exact⟨_,_,_,rfl⟩
theorem CD(p:Pg)(m:Mk)(h to:Int)(hl:m.out.length<100000000)(hw:IntKind.i64.wrap h=h):fK p (m.put (ins 9 to 0 0 0) h) h (.ret (.d (.int .i64 m.out.length))) (ai ctx 141 [.ptr 0 0 0,.d (.int .i64 to)] (fJ p m h)):=by
 obtain⟨v1,v2,v3,ha⟩:=jg p m h 0 (ins 9 to 0 0 0) hl (by simpa using hw);rw[show h+0=h by omega]at ha;generalize m.put (ins 9 to 0 0 0) h=M at*;rw[Hl (by simp)];simp[ins]at ha;simp[Tryz.f141,ha];exact⟨_,_,_,rfl⟩
theorem CE(p:Pg)(m:Mk)(h at_ t:Int)(hl:m.out.length<100000000)(hw:IntKind.i64.wrap (h+1)=h+1):fK p (m.put (ins (if t=2 then 3 else 2) at_ 0 0 0) (h+1)) (h+1) (.ret (.aU [])) (ai ctx 205 [.ptr 0 0 0,.d (.int .i64 at_),.d (.int .i64 t)] (fJ p m h)):=by
 obtain⟨v1,v2,v3,ha⟩:=jg p m h 1 (ins (if t=2 then 3 else 2) at_ 0 0 0) hl hw;generalize m.put (ins (if t=2 then 3 else 2) at_ 0 0 0) (h+1)=M at*;rw[acV (by simp)];by_cases ht:t=2
 ·simp[ins,ht]at ha;simp[Tryz.f205,ht,ha];exact⟨_,_,_,rfl⟩
 ·simp[ins,ht]at ha;simp[Tryz.f205,ht,ha];exact⟨_,_,_,rfl⟩
def Mk.lead(m:Mk)(at_:Int):Mk:={m with out:=setAt m.out at_ m.out.length}
theorem Tb:∀(l:List ar)(i:Nat)(v:Int)(hi:i<l.length),(l.map da).set i (.agg [.int .i64 l[i].op,.int .i64 v,.int .i64 l[i].b,.int .i64 l[i].n,.int .i64 l[i].m])=(setAt l i v).map da
 |x::l,0,v,hi=>by simp[setAt]
 |x::l,i+1,v,hi=>by
  have ih:=Tb l i v (by simpa using hi);simp only[setAt,Int.toNat_natCast]at ih⊢;have e:((i+1:Nat):Int).toNat=i+1:=by omega
  try rw[e]
  simp only[List.map_cons,List.set_cons_succ,List.getElem_cons_succ,List.modify_succ_cons];rw[ih]
theorem qj(p:Pg)(m:Mk)(h:Int)(i:Nat)(hi:i<m.out.length)(hl:m.out.length<100000000):ai ctx 92 [.ptr 0 0 0,.d (.int .i64 i)] (fJ p m h)=some (.ret (.aU []),Na p (m.lead i) h 0 0 0):=by
 have ha:=CC p m h;have hs:=Tb m.out i m.out.length hi;rw[ahV (by simp)];simp at ha hs;simp[Tryz.f92,ha,hi,Dd,Fm,Fl,vN,yg,yT,lJ,mZ,n6,qT,BN,BO,BP,BQ,eV,qR,tJ,C6,sK,At,JN,QW,GB,dU,dstep,kF,pG,aS.app];simp[hs,Mk.lead]
def Mk.cx(m:Mk)(ps:List Int):Mk:={m with out:=jd m.out ps m.out.length}
theorem sl(m:Mk)(i:Int)(ps:List Int):m.cx (i::ps)=(m.lead i).cx ps:=by
 unfold Mk.cx Mk.lead;simp only[pM,SY]
@[simp] theorem AZ(m:Mk)(i:Int):(m.lead i).out.length=m.out.length:=by simp[Mk.lead]
def Pl(n:Nat)(ps:List Int):Prop:=∀i∈ps,∃k:Nat,i=k∧k<n
theorem yC(p:Pg)(h:Int)(l:List Int)(bm:l.length<100000000)(k:Kt)(R:bP):∀(rest pre:List Int)(m:Mk),l=pre++rest→m.out.length<100000000→Pl m.out.length rest→
 (∀Y:Env,k (.exit 0) ⟨16,aC,Y,[⟨0,0,gH p (m.cx rest) h 2 3 4 0 0 0⟩,⟨1,0,.vec 1 (l.map dw)⟩,⟨2,0,.vec 5 ((m.cx rest).out.map da)⟩,⟨3,0,.vv (m.ex.map fI) none⟩,⟨4,0,.vec 1 (m.lv.map dw)⟩]⟩=R)→
 aI ctx 52 (.loop (Code.at (aX Tryz.f52) [1,0,0])) ⟨16,aC,[(0,true,.ptr 0 0 0),(6,true,.vec 1 0 0 l.length),(7,true,.d (.int .i64 l.length)),(8,true,.d (.int .i64 pre.length))],[⟨0,0,gH p m h 2 3 4 0 0 0⟩,⟨1,0,.vec 1 (l.map dw)⟩,⟨2,0,.vec 5 (m.out.map da)⟩,⟨3,0,.vv (m.ex.map fI) none⟩,⟨4,0,.vec 1 (m.lv.map dw)⟩]⟩ k=R
 |[],pre,m,hd,hl,hp,hx=>by
  have cm:pre.length=l.length:=by rw[hd];simp
  have e:m.cx []=m:=rfl;rw[e]at hx;simp at hx;rw[cm,ah];simp[Tryz.f52,hx]
 |i::rest,pre,m,hd,hl,hp,hx=>by
  obtain⟨j,rfl,hj⟩:=hp i (by simp);have aV:pre.length<l.length:=by rw[hd];simp
  have aW:l[pre.length]=(j:Int):=by simp[hd]
  have hle:=qj p m h j hj hl;have w1:IntKind.i64.wrap ((pre.length:Int)+1)=(pre.length:Int)+1:=aw (by unfold aY;omega);have ih:=yC p h l bm k R rest (pre++[(j:Int)]) (m.lead j) (by simp[hd]) (by simpa using hl) (fun i hi=>by simpa using hp i (by simp[hi])) (fun Y=>by have:=hx Y;rw[sl]at this;exact this);clear hx;generalize m.lead j=M at*;rw[ah];simp[Tryz.f52]at ih hle⊢;simp[aV,aW,hle,w1,ih]
theorem th(p:Pg)(m:Mk)(h:Int)(l:List Int)(bm:l.length<100000000)(hl:m.out.length<100000000)(hp:Pl m.out.length l):ai ctx 52 [.ptr 0 0 0,.vec 1 0 0 l.length] [gH p m h 2 3 4 0 0 0,.vec 1 (l.map dw),.vec 5 (m.out.map da),.vv (m.ex.map fI) none,.vec 1 (m.lv.map dw)]=
 some (.ret (.aU []),[(0,gH p (m.cx l) h 2 3 4 0 0 0),(0,.vec 1 (l.map dw)),(0,.vec 5 ((m.cx l).out.map da)),(0,.vv (m.ex.map fI) none),(0,.vec 1 (m.lv.map dw))]):=by
 have cP:=fun k R hx=>yC p h l bm k R l [] m rfl hl hp hx;rw[YF (by simp)];simp[Tryz.f52]at cP⊢;have e1:(m.cx l).ex=m.ex:=rfl;have e2:(m.cx l).lv=m.lv:=rfl;rw[cP _ (some (.ret (.aU []),[(0,gH p (m.cx l) h 2 3 4 0 0 0),(0,.vec 1 (l.map dw)),(0,.vec 5 ((m.cx l).out.map da)),(0,.vv (m.ex.map fI) none),(0,.vec 1 (m.lv.map dw))])) (fun Y=>by simp[e1,e2])];simp
theorem z7(p:Pg)(h:Int)(l:List Int)(bm:l.length<100000000)(k:Kt)(R:bP):∀(rest pre:List Int)(m:Mk),l=m.lv→l=pre++rest→m.out.length<100000000→Pl m.out.length rest→
 (∀Y:Env,k (.exit 0) ⟨16,aC,Y,[⟨0,0,gH p (m.cx rest) h 2 3 1 0 0 0⟩,⟨1,0,.vec 1 (m.lv.map dw)⟩,⟨2,0,.vec 5 ((m.cx rest).out.map da)⟩,⟨3,0,.vv (m.ex.map fI) none⟩]⟩=R)→
 aI ctx 52 (.loop (Code.at (aX Tryz.f52) [1,0,0])) ⟨16,aC,[(0,true,.ptr 0 0 0),(6,true,.vec 1 0 0 l.length),(7,true,.d (.int .i64 l.length)),(8,true,.d (.int .i64 pre.length))],[⟨0,0,gH p m h 2 3 1 0 0 0⟩,⟨1,0,.vec 1 (m.lv.map dw)⟩,⟨2,0,.vec 5 (m.out.map da)⟩,⟨3,0,.vv (m.ex.map fI) none⟩]⟩ k=R
 |[],pre,m,nt,hd,hl,hp,hx=>by
  have cm:pre.length=l.length:=by rw[hd];simp
  have e:m.cx []=m:=rfl;rw[e]at hx;simp at hx;rw[cm,ah];simp[Tryz.f52,hx]
 |i::rest,pre,m,nt,hd,hl,hp,hx=>by
  obtain⟨j,rfl,hj⟩:=hp i (by simp);have aV:pre.length<m.lv.length:=by rw[←nt,hd];simp
  have aW:m.lv[pre.length]=(j:Int):=by
   have:l[pre.length]?=some (j:Int):=by rw[hd];simp
   rw[nt]at this;exact (List.getElem?_eq_some_iff.1 this).2
  have tj:l.length=m.lv.length:=by rw[nt]
  have hle:=qj p m h j hj hl;have w1:IntKind.i64.wrap ((pre.length:Int)+1)=(pre.length:Int)+1:=aw (by unfold aY;omega);have ih:=z7 p h l bm k R rest (pre++[(j:Int)]) (m.lead j) nt (by simp[hd]) (by simpa using hl) (fun i hi=>by simpa using hp i (by simp[hi])) (fun Y=>by have:=hx Y;rw[sl]at this;exact this);have e2:(m.lead j).lv=m.lv:=rfl;clear hx;generalize m.lead j=M at*;rw[ah];simp[Tryz.f52]at ih hle⊢;rw[e2]at ih hle;simp[aV,aW,tj,hle,w1,ih];simp[tj]at ih;exact ih
theorem VG(p:Pg)(m:Mk)(h:Int)(bm:m.lv.length<100000000)(hl:m.out.length<100000000)(hp:Pl m.out.length m.lv):ai ctx 52 [.ptr 0 0 0,.vec 1 0 0 m.lv.length] [gH p m h 2 3 1 0 0 0,.vec 1 (m.lv.map dw),.vec 5 (m.out.map da),.vv (m.ex.map fI) none]=
 some (.ret (.aU []),[(0,gH p (m.cx m.lv) h 2 3 1 0 0 0),(0,.vec 1 (m.lv.map dw)),(0,.vec 5 ((m.cx m.lv).out.map da)),(0,.vv (m.ex.map fI) none)]):=by
 have cP:=fun k R hx=>z7 p h m.lv bm k R m.lv [] m rfl rfl hl hp hx;rw[YF (by simp)];simp[Tryz.f52]at cP⊢;have e1:(m.cx m.lv).ex=m.ex:=rfl;have e2:(m.cx m.lv).lv=m.lv:=rfl;rw[cP _ (some (.ret (.aU []),[(0,gH p (m.cx m.lv) h 2 3 1 0 0 0),(0,.vec 1 (m.lv.map dw)),(0,.vec 5 ((m.cx m.lv).out.map da)),(0,.vv (m.ex.map fI) none)])) (fun Y=>by simp[e1,e2])];simp
theorem Nb(l:List Vr)(bm:l.length≤1000)(hf:∀v∈l,dr v=true)(s:Tx)(E:cH)(hE:E.key=200)(k:Kt)(R:bP)(RP:Int→Vr→bP)
 (hr:∀(n:Int)(w:Vr) v1 v2 X2,k .ret ⟨29,aC,[(4,true,.d (.int .i64 n)),(5,true,.ptr 350 v1 0),(6,true,.d (.bool true))],[E,⟨350,v1,gZ w⟩,⟨550,v2,X2⟩]⟩=RP n w)
 (hx:∀(Y:Env) v1 v2 X2,k (.exit 0) ⟨29,aC,(1,true,.d (.str s))::(5,true,.ptr 350 v1 0)::Y,[E,⟨350,v1,gZ z6⟩,⟨550,v2,X2⟩]⟩=R):∀(rest pre:List Vr)(n:Int)(v1 v2:Nat)(X2:aE),l=pre++rest→0≤n→n≤1000*pre.length→
 aI ctx 202 (.loop (Code.at (aX Tryz.f202) [1,1,0,1,0,0])) ⟨29,aC,[(1,true,.d (.str s)),(5,true,.ptr 350 v1 0),(7,true,.d (.int .i64 n)),(11,true,.d (.list (l.map bF))),(12,true,.d (.int .i64 l.length)),(13,true,.d (.int .i64 pre.length))],[E,⟨350,v1,gZ z6⟩,⟨550,v2,X2⟩]⟩ k=if (bg rest s).isSome=true then RP (oP rest s n).1 (oP rest s n).2 else R
 |[],pre,n,v1,v2,X2,hd,h0,hn=>by
  have cm:pre.length=l.length:=by rw[hd];simp
  simp[gZ,z6]at hx;rw[cm,ah];simp[Tryz.f202,gZ,z6,bg];exact hx _ _ _ _
 |w::rest,pre,n,v1,v2,X2,hd,h0,hn=>by
  have aV:pre.length<l.length:=by rw[hd];simp
  have aW:l[pre.length]=w:=by simp[hd]
  have hc:=Hm (hf w (by rw[hd];simp));have kO:=pK (hf w (by rw[hd];simp));have ih:=fun v2 X2=>Nb l bm hf s E hE k R RP hr hx rest (pre++[w]) (n+bK w) v1 v2 X2 (by simp[hd]) (by omega) (by simp;omega);have w1:IntKind.i64.wrap ((pre.length:Int)+1)=(pre.length:Int)+1:=aw (by unfold aY;omega);have w2:IntKind.i64.wrap (n+bK w)=n+bK w:=aw (by unfold aY;omega);rw[ah];simp only[bg,oP];by_cases hs:w.name=s
  ·simp[Tryz.f202];have:=hr n w v1 (v2+1);simp[gZ,hs]at this;simp[aV,aW,hE,bF,ep,hs,aq,this]
  ·simp[Tryz.f202,bF,ep]at ih hc⊢;simp[aV,aW,hE,bF,ep,hs,hc,w1,w2,ih]
abbrev mS(p:Pg):D:=.agg [.str p.name,.list (p.vars.map bF),.list (p.body.map b5)]
theorem pr(p:Pg)(bm:p.vars.length≤1000)(hf:∀v∈p.vars,dr v=true)(s:Tx):ai ctx 202 [.d (mS p),.d (.str s)] []=some (.ret (.aU [.d (.int .i64 (b9 p.vars s).1),.d (bF (b9 p.vars s).2),.d (.bool (bg p.vars s).isSome)]),[]):=by
 have cP:=fun E hE k R RP hr hx v1 v2 X2=>Nb p.vars bm hf s E hE k R RP hr hx p.vars [] 0 v1 v2 X2 rfl (by omega) (by simp);have key:(if (bg p.vars s).isSome=true then some (.ret (.aU [.d (.int .i64 (oP p.vars s 0).1),.d (bF (oP p.vars s 0).2),.d (.bool true)]),([]:List (Nat×aE)))else some (.ret (.aU [.d (.int .i64 0),.d (bF z6),.d (.bool false)]),[]))=some (Out.ret (.aU [.d (.int .i64 (b9 p.vars s).1),.d (bF (b9 p.vars s).2),.d (.bool (bg p.vars s).isSome)]),([]:List (Nat×aE))):=by
  unfold b9;cases h:(bg p.vars s).isSome with
  |true=>simp
  |false=>
   have h0:∀(l:List Vr) n,(bg l s).isSome=false→oP l s n=(0,z6):=by
    intro l;induction l with
    |nil=>intro n _;rfl
    |cons v r ih=>
     intro n hn;simp only[bg,oP]at hn⊢;split at hn
     ·cases hn
     ·rename_i bE;rw[if_neg bE];exact ih _ hn
   simp[h0 _ _ h]
 rw[acS (by simp)];simp[Tryz.f202,gZ,z6]at cP⊢;rw[cP _ rfl _ (some (.ret (.aU [.d (.int .i64 0),.d (bF z6),.d (.bool false)]),[])) (fun n w=>some (.ret (.aU [.d (.int .i64 n),.d (bF w),.d (.bool true)]),[]))]
 ·exact key
 ·intro n w v1 v2 X2;simp[bF,ep]
 ·intro Y v1 v2 X2;simp[bF,ep,z6,aq]
theorem ZQ(s:Tx)(q:Pn):ai ctx 263 [.d (cU q),.ptr 0 0 0] [.box [.d (.str s)]]=some (.ret (.d (.bool (decide (q.name=s)))),[(0,.box [.d (.str s)])]):=by
 rw[ade (by simp)];simp[Tryz.f263,cU]
theorem EP(s:Tx):∀(rest pre:List Pn),(pre++rest).length<1000000→∀k:Kt,
 aI ctx 262 (.loop (Code.at (aX Tryz.f262) [1,0,1,0,0])) ⟨19,aC,[(0,true,.d (.list ((pre++rest).map cU))),(1,true,.fn 263 [.ptr 0 0 0]),(7,true,.d (.int .i64 (pre++rest).length)),(8,true,.d (.int .i64 pre.length))],[⟨0,0,.box [.d (.str s)]⟩]⟩ k=
  if oc (fun q:Pn=>decide (q.name=s)) rest pre.length<0 then k (.exit 0) ⟨19,aC,[(0,true,.d (.list ((pre++rest).map cU))),(1,true,.fn 263 [.ptr 0 0 0]),(7,true,.d (.int .i64 (pre++rest).length)),(8,true,.d (.int .i64 (pre++rest).length)),(9,true,.d (.bool false))],[⟨0,0,.box [.d (.str s)]⟩]⟩
  else k .ret ⟨19,aC,[(4,true,.d (.int .i64 (oc (fun q:Pn=>decide (q.name=s)) rest pre.length)))],[⟨0,0,.box [.d (.str s)]⟩]⟩
 |[],pre,hl,k=>by
  rw[ah];simp[Tryz.f262,oc]
 |x::rest,pre,hl,k=>by
  obtain⟨b,hb⟩:∃b,b=(fun q:Pn=>decide (q.name=s)) x:=⟨_,rfl⟩;have hs:ai ctx 263 [.d (cU x),.ptr 0 0 0] [.box [.d (.str s)]]=some (.ret (.d (.bool b)),[(0,.box [.d (.str s)])]):=by rw[hb];exact ZQ s x
  have key:oc (fun q:Pn=>decide (q.name=s)) (x::rest) pre.length=if b=true then (pre.length:Int)else oc (fun q:Pn=>decide (q.name=s)) rest (pre.length+1):=by rw[hb];rfl
  have ih:=EP s rest (pre++[x]) (by simpa using hl) k;have h1:(pre.length:Int)<pre.length+(rest.length+1):=by omega
  have h2:IntKind.i64.wrap ((pre.length:Int)+1)=pre.length+1:=aw (by unfold aY;simp at hl;omega);have h3:¬((pre.length:Int)<0):=by omega
  try simp[cU]at hs
  rw[ah,key];clear hb key;cases b with
  |true=>simp[Tryz.f262,h1,h2,h3,hs,cU]
  |false=>
   simp[Tryz.f262,cU]at ih⊢;simp[h1,h2,hs,ih,cU]
theorem ZR(s:Tx)(l:List Pn)(hl:l.length<1000000):ai ctx 262 [.d (.list (l.map cU)),.fn 263 [.ptr 0 0 0]] [.box [.d (.str s)]]=some (.ret (.d (.int .i64 (oc (fun q:Pn=>decide (q.name=s)) l 0))),[(0,.box [.d (.str s)])]):=by
 have h:=fun k=>EP s l [] (by simpa using hl) k;rw[adb (by simp)];simp[Tryz.f262]at h⊢;simp[h];intro h;rcases Co (fun q:Pn=>decide (q.name=s)) l 0 with h1|h1
 ·exact h1.symm
 ·omega
theorem Il(s:Tx):∀(l:List Pn)(n:Nat),(match yw l s n with
 |some (i,q)=>oc (fun q:Pn=>decide (q.name=s)) l n=i∧n≤i∧l[i-n]?=some q
 |none=>oc (fun q:Pn=>decide (q.name=s)) l n= -1)
 |[],n=>rfl
 |q::l,n=>by
  have ih:=Il s l (n+1);simp only[yw,oc];by_cases h:q.name=s
  ·rw[if_pos h];simp[h]
  ·rw[if_neg h];simp only[h,decide_false,Bool.false_eq_true,if_false];cases hp:yw l s (n+1)with
   |none=>rw[hp]at ih;exact ih
   |some x=>
    obtain⟨i,w⟩:=x;rw[hp]at ih;obtain⟨h1,h2,h3⟩:=ih;refine⟨h1,by omega,?_⟩;rw[show i-n=(i-(n+1))+1 by omega];simpa using h3
theorem Im(p:Pg)(bm:p.vars.length≤1000)(hf:∀v∈p.vars,dr v=true)(s f:Tx):∃b,ai ctx 206 [.d (mS p),.d (.str s),.d (.str f)] []=some (.ret (.aU [.d (.int .i64 (ie p.vars s f).1),.d (cU (ie p.vars s f).2),.d (.bool b)]),[]):=by
 have ha:=pr p bm hf s;have gM:0≤(b9 p.vars s).1∧(b9 p.vars s).1≤1000*1000:=by
  have key:∀(l:List Vr)(n:Int),(∀v∈l,dr v=true)→0≤n→(oP l s n).1=0∨(n≤(oP l s n).1∧(oP l s n).1≤n+1000*l.length):=by
   intro l;induction l with
   |nil=>intro n _ _;exact .inl rfl
   |cons v r ih=>
    intro n hv hn;have hc:=pK (hv v (by simp));simp only[oP];split
    ·exact .inr ⟨by omega,by simp;omega⟩
    ·rcases ih (n+bK v) (fun w hw=>hv w (by simp[hw])) (by omega)with h|h
     ·exact .inl h
     ·exact .inr ⟨by omega,by simp;omega⟩
  unfold b9;rcases key p.vars 0 hf (by omega)with h|h<;>omega
 have hsp:=Mt (b9 p.vars s).2.ty;have dz:=yo (b9 p.vars s).2.ty;have YY:=ZR f (bz (b9 p.vars s).2.ty) (by omega);have jv:=Il f (bz (b9 p.vars s).2.ty) 0;unfold ie;generalize (b9 p.vars s)=A at*;obtain⟨n,w⟩:=A;simp only at*;rw[acW (by simp)];cases hv:bg p.vars s with
 |none=>
  rw[hv]at ha;exact⟨_,by simp[Tryz.f206,ha,bF,ep,Dp,cU];rfl⟩
 |some v=>
  rw[hv]at ha;by_cases ht:2<w.ty
  ·by_cases YZ:f=[]
   ·exact⟨_,by simp[Tryz.f206,ha,bF,ep,Dp,cU,ht,YZ];rfl⟩
   ·cases hp:yw (bz w.ty) f 0 with
    |none=>
     rw[hp]at jv;simp only at jv;rw[jv]at YY;refine⟨false,?_⟩;simp[Tryz.f206,ha,bF,ep,Dp,cU,ht,YZ,hsp,YY]
    |some x=>
     obtain⟨i,q⟩:=x;rw[hp]at jv;obtain⟨g1,g2,g3⟩:=jv;refine⟨true,?_⟩;rw[g1]at YY;have hi:i<(bz w.ty).length:=by
      have:=(List.getElem?_eq_some_iff.1 g3).1;simpa using this
     have hq:(bz w.ty)[i]=q:=by
      have:=(List.getElem?_eq_some_iff.1 g3).2;simpa using this
     have w1:IntKind.i64.wrap (n+i)=n+i:=aw (by unfold aY;omega);have w2:¬((i:Int)<0):=by omega
     simp[Tryz.f206,ha,bF,ep,ht,YZ,hsp,YY,aq,w1,w2,hi,hq,cU]
  ·have qe:w.ty≤2:=by omega
   exact⟨_,by simp[Tryz.f206,ha,bF,ep,Dp,cU,ht,qe];rfl⟩
def Mk.az(m:Mk)(l:List ar)(t:Int):Mk:={m with out:=m.out++l,most:=max m.most t}
def KE(p:Pg)(x:Ex):Prop:=∀(m:Mk)(h:Int),0≤h→h≤m.out.length→0≤m.most→m.out.length+(ak p.vars x).1.length<100000000→
 fK p (m.az (ak p.vars x).1 (aL h x)) (h+1) (.ret (.d (.bool (ak p.vars x).2))) (ai ctx 137 [.ptr 0 0 0,.d (.agg [.int .i64 (bR x),.int .i64 (gY x),.str (dA x),.str (fi x),.list ((cK x).map bJ),.int .i64 (jC x)])] (fJ p m h))
theorem ZS{k:Int}{q:Pn}(h:q∈bz k):q.ty=1∨q.ty=2:=by
 by_cases hb:k∈iG
 ·have all:∀q∈bz k,q.ty=1∨q.ty=2:=by
   simp only[iG,List.mem_cons,List.not_mem_nil,or_false]at hb;rcases hb with rfl|rfl|rfl|rfl|rfl|rfl|rfl|rfl|rfl|rfl|rfl|rfl|rfl|rfl|rfl|rfl|rfl|rfl|rfl|rfl|rfl<;>decide
  exact all q h
 ·rw[q9 hb]at h;simp at h
section
variable {p:Pg} (bm:p.vars.length≤1000) (hf:∀v∈p.vars,dr v=true)
theorem aeA{n line:Int}:KE p (.mk 1 n [] [] [] line):=by
 intro m h h0 hh hm hl;simp[ak]at hl;obtain⟨v1,v2,v3,ha⟩:=jg p m h 1 (ins 1 0 0 n 0) (by omega) (aw (by unfold aY;omega));have e:m.az (ak p.vars (.mk 1 n [] [] [] line)).1 (aL h (.mk 1 n [] [] [] line))=m.put (ins 1 0 0 n 0) (h+1):=by simp[ak,aL,Mk.az,Mk.put]
 rw[e];generalize m.put (ins 1 0 0 n 0) (h+1)=M at*;simp[ins]at ha;rw[r6 (by simp)];simp[Tryz.f137,ha,ak];exact⟨_,_,_,rfl⟩
theorem aeB{n line:Int}:KE p (.mk 2 n [] [] [] line):=by
 intro m h h0 hh hm hl;simp[ak]at hl;obtain⟨v1,v2,v3,ha⟩:=jg p m h 1 (ins 1 0 0 n 0) (by omega) (aw (by unfold aY;omega));have e:m.az (ak p.vars (.mk 2 n [] [] [] line)).1 (aL h (.mk 2 n [] [] [] line))=m.put (ins 1 0 0 n 0) (h+1):=by simp[ak,aL,Mk.az,Mk.put]
 rw[e];generalize m.put (ins 1 0 0 n 0) (h+1)=M at*;simp[ins]at ha;rw[r6 (by simp)];simp[Tryz.f137,ha,ak];exact⟨_,_,_,rfl⟩
include bm hf
theorem aeC{s:Tx}{v:Vr}(hv:bg p.vars s=some v)(ht:v.ty≤2):v.ty=1∨v.ty=2:=by
 have hm:v∈p.vars:=by
  have key:∀l:List Vr,bg l s=some v→v∈l:=by
   intro l;induction l with
   |nil=>intro h;simp[bg]at h
   |cons w r ih=>
    intro h;simp only[bg]at h;split at h
    ·cases h;simp
    ·exact List.mem_cons_of_mem _ (ih h)
  exact key _ hv
 have:=hf v hm;simp only[dr,Bool.and_eq_true,Bool.or_eq_true,decide_eq_true_eq]at this;rcases this.2.1.2 with h|h
 ·exact h
 ·have:v.ty∉iG∨v.ty∈iG:=by by_cases h:v.ty∈iG<;>simp[h]
  rcases this with h2|h2
  ·unfold ob at h;rw[q9 h2]at h;simp at h
  ·simp only[iG,List.mem_cons,List.not_mem_nil,or_false]at h2;omega
theorem aeD{name:Tx}{line:Int}{v:Vr}(hv:bg p.vars name=some v)(ht:v.ty≤2):KE p (.mk 3 0 name [] [] line):=by
 intro m h h0 hh hm hl;simp[ak]at hl;have gM:=pr p bm hf name;have e2:=iB hv;rw[hv]at gM;have kR:=aeC bm hf hv ht;obtain⟨v1,v2,v3,ha⟩:=CE p m h (b9 p.vars name).1 v.ty (by omega) (aw (by unfold aY;omega));have e3:(if v.ty=2 then (3:Int)else 2)=1+v.ty:=by rcases kR with h|h<;>rw[h]<;>rfl
 rw[e3]at ha;have e:m.az (ak p.vars (.mk 3 0 name [] [] line)).1 (aL h (.mk 3 0 name [] [] line))=m.put (ins (1+v.ty) (b9 p.vars name).1 0 0 0) (h+1):=by simp[ak,aL,Mk.az,Mk.put,e2]
 have e4:(ak p.vars (.mk 3 0 name [] [] line)).2=decide (v.ty=2):=by simp[ak,e2]
 rw[e,e4];rw[e2]at gM;generalize m.put (ins (1+v.ty) (b9 p.vars name).1 0 0 0) (h+1)=M at*;simp at ha;rw[r6 (by simp)];simp[Tryz.f137,gM,bF,ep,ha,aq];exact⟨_,_,_,rfl⟩
theorem aeE{name field:Tx}{line:Int}{v:Vr}{q:Pn}(hv:bg p.vars name=some v)(ht:2<v.ty)(hq:kJ v.ty field=some q)(wE:cY field=true):KE p (.mk 5 0 name field [] line):=by
 intro m h h0 hh hm hl;simp[ak]at hl;obtain⟨b,gM⟩:=Im p bm hf name field;have e2:(ie p.vars name field).2=q:=(uW hv ht hq).1;have kR:q.ty=1∨q.ty=2:=ZS (uW hv ht hq).2.1;obtain⟨v1,v2,v3,ha⟩:=CE p m h (ie p.vars name field).1 q.ty (by omega) (aw (by unfold aY;omega));have e3:(if q.ty=2 then (3:Int)else 2)=1+q.ty:=by rcases kR with h|h<;>rw[h]<;>rfl
 rw[e3]at ha;have e:m.az (ak p.vars (.mk 5 0 name field [] line)).1 (aL h (.mk 5 0 name field [] line))=m.put (ins (1+q.ty) (ie p.vars name field).1 0 0 0) (h+1):=by simp[ak,aL,Mk.az,Mk.put,e2]
 have e4:(ak p.vars (.mk 5 0 name field [] line)).2=decide (q.ty=2):=by simp[ak,e2]
 rw[e,e4];rw[e2]at gM;generalize m.put (ins (1+q.ty) (ie p.vars name field).1 0 0 0) (h+1)=M at*;simp at ha;simp[cU]at gM;rw[r6 (by simp)];simp[Tryz.f137,gM,ha,aq];exact⟨_,_,_,rfl⟩
theorem aeF{name:Tx}{line:Int}{v:Vr}{y:Ex}(hv:bg p.vars name=some v)(ht:v.ty≤2)(hy:KE p y):KE p (.mk 4 0 name [] [y] line):=by
 intro m h h0 hh hm hl;have e2:=iB hv;have eg:(ak p.vars (.mk 4 0 name [] [y] line))=((ak p.vars y).1++[ins (3+v.ty) (b9 p.vars name).1 0 v.lo v.hi],decide (v.ty=2)):=by simp[ak,oo,e2]
 rw[eg]at hl;simp at hl;have gM:=pr p bm hf name;rw[hv,e2]at gM;have kR:=aeC bm hf hv ht;obtain⟨v1,v2,v3,hk⟩:=hy m h h0 hh hm (by omega);have m8:=jQ p.vars y;obtain⟨u1,u2,u3,ha⟩:=jg p (m.az (ak p.vars y).1 (aL h y)) (h+1) 0 (ins (3+v.ty) (b9 p.vars name).1 0 v.lo v.hi) (by simp[Mk.az];omega) (aw (by unfold aY;omega));have e:m.az (ak p.vars (.mk 4 0 name [] [y] line)).1 (aL h (.mk 4 0 name [] [y] line))=(m.az (ak p.vars y).1 (aL h y)).put (ins (3+v.ty) (b9 p.vars name).1 0 v.lo v.hi) (h+1+0):=by
  rw[eg];simp[aL,fC,Mk.az,Mk.put];omega
 rw[e,eg];generalize (m.az (ak p.vars y).1 (aL h y)).put (ins (3+v.ty) (b9 p.vars name).1 0 v.lo v.hi) (h+1+0)=M at*;generalize m.az (ak p.vars y).1 (aL h y)=N at*;simp[ins]at ha hk;rw[r6 (by simp)];rcases kR with h2|h2
 ·simp[h2]at ha;simp[Tryz.f137,gM,bF,ep,aD,hk,ha,aq,h2];exact⟨_,_,_,rfl⟩
 ·simp[h2]at ha;simp[Tryz.f137,gM,bF,ep,aD,hk,ha,aq,h2];exact⟨_,_,_,rfl⟩
end
section
variable {p:Pg}
theorem aeG{op line:Int}{y:Ex}(ho:op=6∨op=7)(hy:KE p y):KE p (.mk op 0 [] [] [y] line):=by
 intro m h h0 hh hm hl;have n1:¬(op=1∨op=2):=by omega
 have n3:¬op=3:=by omega
 have n4:¬op=4:=by omega
 have n5:¬op=5:=by omega
 have Tc:¬op=1:=by omega
 have Td:¬op=2:=by omega
 have eg:(ak p.vars (.mk op 0 [] [] [y] line))=((ak p.vars y).1++[ins 8 (if (ak p.vars y).2=true then 1 else 0) op 0 0],decide (op=7∨12<op)):=by simp[ak,hZ,n1,n3,n4,n5];rfl
 rw[eg]at hl;simp at hl;obtain⟨v1,v2,v3,hk⟩:=hy m h h0 hh hm (by omega);have m8:=jQ p.vars y;obtain⟨u1,u2,u3,ha⟩:=jg p (m.az (ak p.vars y).1 (aL h y)) (h+1) 0 (ins 8 (if (ak p.vars y).2=true then 1 else 0) op 0 0) (by simp[Mk.az];omega) (aw (by unfold aY;omega));have e:m.az (ak p.vars (.mk op 0 [] [] [y] line)).1 (aL h (.mk op 0 [] [] [y] line))=(m.az (ak p.vars y).1 (aL h y)).put (ins 8 (if (ak p.vars y).2=true then 1 else 0) op 0 0) (h+1+0):=by
  rw[eg];have n13:¬(op=1∨op=2∨op=3∨op=5):=by omega
  simp[aL,fC,Mk.az,Mk.put,n13];omega
 rw[e,eg];generalize (m.az (ak p.vars y).1 (aL h y)).put (ins 8 (if (ak p.vars y).2=true then 1 else 0) op 0 0) (h+1+0)=M at*;generalize m.az (ak p.vars y).1 (aL h y)=N at*;generalize (ak p.vars y).2=B at*;have w1:IntKind.i64.wrap 1=1:=rfl;have w0:IntKind.i64.wrap 0=0:=rfl;simp[ins]at ha hk;rw[r6 (by simp)];have e5:decide (13≤op)=decide (12<op):=by rw[decide_eq_decide];omega
 cases B with
 |true=>
  simp at ha;simp[Tryz.f137,Tc,Td,n3,n4,n5,aD];rw[ah];simp[Tryz.f137,aD,hk,w1,w0];rw[ah];simp[Tryz.f137,hk,ha,w1,w0,e5];exact⟨_,_,_,rfl⟩
 |false=>
  simp at ha;simp[Tryz.f137,Tc,Td,n3,n4,n5,aD];rw[ah];simp[Tryz.f137,aD,hk,w1,w0];rw[ah];simp[Tryz.f137,hk,ha,w1,w0,e5];exact⟨_,_,_,rfl⟩
theorem aeI{op line:Int}{y z:Ex}(ho:8≤op)(hy:KE p y)(hz:KE p z):KE p (.mk op 0 [] [] [y,z] line):=by
 intro m h h0 hh hm hl;have n1:¬(op=1∨op=2):=by omega
 have n3:¬op=3:=by omega
 have n4:¬op=4:=by omega
 have n5:¬op=5:=by omega
 have Tc:¬op=1:=by omega
 have Td:¬op=2:=by omega
 have eg:(ak p.vars (.mk op 0 [] [] [y,z] line))=((ak p.vars y).1++((ak p.vars z).1++[ins 8 (if (ak p.vars z).2=true then 1 else 0) op 0 0]),decide (op=7∨12<op)):=by simp[ak,hZ,n1,n3,n4,n5];rfl
 rw[eg]at hl;simp at hl;have m8:=jQ p.vars y;have avL:=jQ p.vars z;obtain⟨v1,v2,v3,hk⟩:=hy m h h0 hh hm (by omega);obtain⟨t1,t2,t3,cn⟩:=hz (m.az (ak p.vars y).1 (aL h y)) (h+1) (by omega) (by simp[Mk.az];omega) (by simp[Mk.az];omega) (by simp[Mk.az];omega);obtain⟨u1,u2,u3,ha⟩:=jg p ((m.az (ak p.vars y).1 (aL h y)).az (ak p.vars z).1 (aL (h+1) z)) (h+1+1) (-1) (ins 8 (if (ak p.vars z).2=true then 1 else 0) op 0 0) (by simp[Mk.az];omega) (aw (by unfold aY;omega));rw[show h+1+1+ -1=h+1 by omega]at ha;have e:m.az (ak p.vars (.mk op 0 [] [] [y,z] line)).1 (aL h (.mk op 0 [] [] [y,z] line))=((m.az (ak p.vars y).1 (aL h y)).az (ak p.vars z).1 (aL (h+1) z)).put (ins 8 (if (ak p.vars z).2=true then 1 else 0) op 0 0) (h+1):=by
  rw[eg];have n13:¬(op=1∨op=2∨op=3∨op=5):=by omega
  simp[aL,fC,Mk.az,Mk.put,n13];omega
 rw[e,eg];generalize ((m.az (ak p.vars y).1 (aL h y)).az (ak p.vars z).1 (aL (h+1) z)).put (ins 8 (if (ak p.vars z).2=true then 1 else 0) op 0 0) (h+1)=M at*;generalize (m.az (ak p.vars y).1 (aL h y)).az (ak p.vars z).1 (aL (h+1) z)=N2 at*;generalize m.az (ak p.vars y).1 (aL h y)=N at*;generalize (ak p.vars z).2=B at*;generalize (ak p.vars y).2=B2 at*;have w1:IntKind.i64.wrap 1=1:=rfl;have w0:IntKind.i64.wrap 0=0:=rfl;have w2:IntKind.i64.wrap 2=2:=rfl;have w3:IntKind.i64.wrap (-1)= -1:=rfl;have e5:decide (13≤op)=decide (12<op):=by rw[decide_eq_decide];omega
 simp[ins]at ha hk cn;rw[r6 (by simp)];cases B with
 |true=>
  simp at ha cn;simp[Tryz.f137,Tc,Td,n3,n4,n5,aD];rw[ah];simp[Tryz.f137,aD,hk,w1,w0];rw[ah];simp[Tryz.f137,aD,cn,w1,w0,w2];rw[ah];simp[Tryz.f137,ha,w1,w0,w2,w3,e5];exact⟨_,_,_,rfl⟩
 |false=>
  simp at ha cn;simp[Tryz.f137,Tc,Td,n3,n4,n5,aD];rw[ah];simp[Tryz.f137,aD,hk,w1,w0];rw[ah];simp[Tryz.f137,aD,cn,w1,w0,w2];rw[ah];simp[Tryz.f137,ha,w1,w0,w2,w3,e5];exact⟨_,_,_,rfl⟩
end
theorem kS{p:Pg}(bm:p.vars.length≤1000)(hf:∀v∈p.vars,dr v=true):∀x:Ex,bk x=true→(aF p.vars x).e=0→KE p x
 | .mk op n name field sub line,fx,ex=>by
  have ih:∀y∈sub,bk y=true→(aF p.vars y).e=0→KE p y:=fun y hy=>kS bm hf y;have hc:=Du fx ex;cases hc with
  |num h=>exact aeA
  |qE h=>exact aeB
  |var hv ha ht=>exact aeD bm hf hv ht
  |idx hv ha ht fy ey ty=>exact aeF bm hf hv ht (ih _ (by simp) fy ey)
  |YT hv ht hq wE=>exact aeE bm hf hv ht hq wE
  |one ho fy ey ty=>exact aeG ho (ih _ (by simp) fy ey)
  |two ho fy ey fz ez ty tz=>exact aeI ho.1 (ih _ (by simp) fy ey) (ih _ (by simp) fz ez)
termination_by x=>SizeOf.sizeOf x
decreasing_by all_goals (simp_wf;have:=List.sizeOf_lt_of_mem hy;omega)
end Go.Am
end
section
namespace Go.Am
open Go
def gI(ex:List (List Int))(a:List Int):List (List Int):=
 match ex.getLast? with
 |some r=>ex.dropLast++[r++a]
 |none=>[]
theorem iP(ex:List (List Int))(r a:List Int):gI (ex++[r]) a=ex++[r++a]:=by simp[gI]
theorem lW(ex:List (List Int)):gI ex []=ex:=by
 rcases List.eq_nil_or_concat ex with h|⟨l,r,h⟩
 ·subst h;rfl
 ·rw[h,List.concat_eq_append,iP,List.append_nil]
theorem ER(ex:List (List Int))(a b:List Int):gI (gI ex a) b=gI ex (a++b):=by
 rcases List.eq_nil_or_concat ex with h|⟨l,r,h⟩
 ·subst h;rfl
 ·rw[h,List.concat_eq_append,iP,iP,iP,List.append_assoc]
@[simp] theorem Tf(ex:List (List Int))(a:List Int):(gI ex a).length=ex.length:=by
 rcases List.eq_nil_or_concat ex with h|⟨l,r,h⟩
 ·subst h;rfl
 ·rw[h,List.concat_eq_append,iP];simp
def Mk.aM(m:Mk)(l:List ar)(c t:Int):Mk:=
 ⟨m.out++cF m.out.length l,c,max m.most t,gI m.ex (cB (-1) m.out.length l),m.lv++cB (-2) m.out.length l⟩
theorem zp(m:Mk)(a b:List ar)(c c' t t':Int):(m.aM a c t).aM b c' t'=m.aM (jn a b) c' (max t t'):=by
 unfold Mk.aM;simp only[Mk.mk.injEq,List.length_append,mh];rw[H8,Fz (by decide),Fz (by decide),ER];simp[List.append_assoc,Int.max_assoc]
theorem VH(m:Mk)(h:0≤m.most):m.aM [] m.cells 0=m:=by
 unfold Mk.aM;simp[cB,lW];cases m;simp at h⊢;omega
theorem nI{m:Mk}{l:List ar}(h:Flat l)(t:Int):m.aM l m.cells t=m.az l t:=by
 unfold Mk.aM Mk.az;rw[h.cF,po h,po h,lW];simp
theorem wg{m:Mk}{l:List ar}{x:ar}{t u:Int}:(m.az l t).put x u=m.az (l++[x]) (max t u):=by
 unfold Mk.az Mk.put;simp[List.append_assoc,Int.max_assoc]
theorem ES{m:Mk}{l r:List ar}{t u:Int}:(m.az l t).az r u=m.az (l++r) (max t u):=by
 unfold Mk.az;simp[List.append_assoc,Int.max_assoc]
theorem VI{m:Mk}{x:ar}{u:Int}:m.put x u=m.az [x] u:=rfl
theorem tt{m:Mk}{l:List ar}{t u:Int}(h:max m.most t=max m.most u):m.az l t=m.az l u:=by
 unfold Mk.az;rw[h]
theorem lX{m:Mk}{l:List ar}{c t u:Int}(h:max m.most t=max m.most u):m.aM l c t=m.aM l c u:=by
 unfold Mk.aM;rw[h]
theorem kW(h:Int)(x:Ex):h+1≤aL h x:=by
 obtain⟨op,n,name,field,sub,line⟩:=x;unfold aL;split
 ·exact Int.le_refl _
 ·omega
theorem yD(k:Int):∀(l:List ar)(n:Nat),∀i∈cB k n l,∃j:Nat,i=j∧j<n+l.length
 |[],n,i,h=>by simp[cB]at h
 |x::r,n,i,h=>by
  simp only[cB]at h;have key:i∈cB k (n+1) r→∃j:Nat,i=j∧j<n+(x::r).length:=fun h=>by
   obtain⟨j,e,hj⟩:=yD k r (n+1) i h;exact⟨j,e,by simp;omega⟩
  split at h
  ·rcases List.mem_cons.1 h with rfl|h
   ·exact⟨n,rfl,by simp⟩
   ·exact key h
  ·exact key h
theorem pt(k:Int):∀(l:List ar)(n:Nat),(cB k n l).length≤l.length
 |[],n=>by simp[cB]
 |x::r,n=>by
  have:=pt k r (n+1);simp only[cB];split<;>simp<;>omega
def ik(m:Mk):Prop:=m.lv.length≤m.out.length∧∀r∈m.ex,r.length≤m.out.length
theorem Tg{ex:List (List Int)}{a r:List Int}(h:r∈gI ex a):∃r0∈ex,r.length≤r0.length+a.length:=by
 rcases List.eq_nil_or_concat ex with e|⟨l,q,e⟩
 ·subst e;simp[gI]at h
 ·rw[e,List.concat_eq_append]at h⊢;rw[iP]at h;rcases List.mem_append.1 h with h|h
  ·exact⟨r,by simp[h],by omega⟩
  ·simp at h;subst h;exact⟨q,by simp,by simp⟩
theorem ik.put{m:Mk}(h:ik m)(x:ar)(t:Int):ik (m.put x t):=
 ⟨by have:=h.1;simp[Mk.put];omega,fun r hr=>by have:=h.2 r hr;simp[Mk.put];omega⟩
theorem ik.az{m:Mk}(h:ik m)(l:List ar)(t:Int):ik (m.az l t):=
 ⟨by have:=h.1;simp[Mk.az];omega,fun r hr=>by have:=h.2 r hr;simp[Mk.az];omega⟩
theorem ik.aM{m:Mk}(h:ik m)(l:List ar)(c t:Int):ik (m.aM l c t):=by
 refine⟨?_,fun r hr=>?_⟩
 ·have:=h.1;have:=pt (-2) l m.out.length;simp[Mk.aM];omega
 ·obtain⟨r0,h0,hr⟩:=Tg hr;have:=h.2 r0 h0;have:=pt (-1) l m.out.length;simp[Mk.aM];omega
theorem ik.lead{m:Mk}(h:ik m)(i:Int):ik (m.lead i):=by
 have e:(m.lead i).out.length=m.out.length:=by simp[Mk.lead]
 exact⟨by rw[e];exact h.1,fun r hr=>by rw[e];exact h.2 r hr⟩
end Go.Am
end
section
namespace Go.Am
open Go Go.Proofs
variable [Inhabited bV]
set_option maxRecDepth 20000
section
variable {p:Pg} (bm:p.vars.length≤1000) (hf:∀v∈p.vars,dr v=true)
include bm hf
theorem Th{name:Tx}{l1 l2:Int}{v:Vr}{val:Ex}(hv:bg p.vars name=some v)(fv:bk val=true)(ev:(aF p.vars val).e=0)(m:Mk)(hm:0≤m.most)(hl:m.out.length+(ak p.vars val).1.length<99999999):
 fK p (m.az ((ak p.vars val).1++[ins 6 (b9 p.vars name).1 0 0 0]) (aL 0 val)) 0 (.ret (.aU [])) (ai ctx 134 [.ptr 0 0 0,.d (b5 (.mk 1 [] (.mk 3 0 name [] [] l1) val [] [] [] [] l2))] (fJ p m 0)):=by
 have gM:=pr p bm hf name;rw[hv]at gM;obtain⟨v1,v2,v3,hk⟩:=kS bm hf val fv ev m 0 (by omega) (by omega) hm (by omega);obtain⟨u1,u2,u3,hs⟩:=pq p (m.az (ak p.vars val).1 (aL 0 val)) 1 (b9 p.vars name).1 (by simp[Mk.az];omega) (by decide);have e:m.az ((ak p.vars val).1++[ins 6 (b9 p.vars name).1 0 0 0]) (aL 0 val)=(m.az (ak p.vars val).1 (aL 0 val)).put (ins 6 (b9 p.vars name).1 0 0 0) (1+ -1):=by
  rw[wg];exact tt (by have:=kW 0 val;omega)
 rw[e];generalize (m.az (ak p.vars val).1 (aL 0 val)).put (ins 6 (b9 p.vars name).1 0 0 0) (1+ -1)=M at*;generalize m.az (ak p.vars val).1 (aL 0 val)=N at*;simp at hk hs;rw[Sr (by simp)];simp[Tryz.f134,eI,gM,bF,ep,hk,hs,aq];exact⟨_,_,_,rfl⟩
theorem Ti{name:Tx}{l1 l2:Int}{v:Vr}{y val:Ex}(hv:bg p.vars name=some v)(fy:bk y=true)(ey:(aF p.vars y).e=0)(fv:bk val=true)(ev:(aF p.vars val).e=0)(m:Mk)(hm:0≤m.most)(hl:m.out.length+(ak p.vars y).1.length+(ak p.vars val).1.length<99999999):
 fK p (m.az ((ak p.vars y).1++((ak p.vars val).1++[ins 7 (b9 p.vars name).1 0 v.lo v.hi])) (max (aL 0 y) (aL 1 val))) 0 (.ret (.aU [])) (ai ctx 134 [.ptr 0 0 0,.d (b5 (.mk 1 [] (.mk 4 0 name [] [y] l1) val [] [] [] [] l2))] (fJ p m 0)):=by
 have gM:=pr p bm hf name;rw[hv,iB hv]at gM;obtain⟨v1,v2,v3,hk⟩:=kS bm hf y fy ey m 0 (by omega) (by omega) hm (by omega);have m8:=jQ p.vars y;obtain⟨t1,t2,t3,cn⟩:=kS bm hf val fv ev (m.az (ak p.vars y).1 (aL 0 y)) 1 (by omega) (by simp[Mk.az];omega) (by simp[Mk.az];omega) (by simp[Mk.az];omega);obtain⟨u1,u2,u3,hs⟩:=jg p ((m.az (ak p.vars y).1 (aL 0 y)).az (ak p.vars val).1 (aL 1 val)) 2 (-2) (ins 7 (b9 p.vars name).1 0 v.lo v.hi) (by simp[Mk.az];omega) (by decide);have e:m.az ((ak p.vars y).1++((ak p.vars val).1++[ins 7 (b9 p.vars name).1 0 v.lo v.hi])) (max (aL 0 y) (aL 1 val))=((m.az (ak p.vars y).1 (aL 0 y)).az (ak p.vars val).1 (aL 1 val)).put (ins 7 (b9 p.vars name).1 0 v.lo v.hi) (2+ -2):=by
  rw[ES,wg,List.append_assoc];exact tt (by have:=kW 0 y;omega)
 rw[e];generalize ((m.az (ak p.vars y).1 (aL 0 y)).az (ak p.vars val).1 (aL 1 val)).put (ins 7 (b9 p.vars name).1 0 v.lo v.hi) (2+ -2)=M at*;generalize (m.az (ak p.vars y).1 (aL 0 y)).az (ak p.vars val).1 (aL 1 val)=N2 at*;generalize m.az (ak p.vars y).1 (aL 0 y)=N at*;simp[ins]at hk cn hs;rw[Sr (by simp)];simp[Tryz.f134,eI,gM,bF,ep,aD,hk,cn,hs,aq];exact⟨_,_,_,rfl⟩
end
@[simp] def Y0(p:Pg)(m:Mk)(h:Int)(v1 v2 v3:Nat):List cH:=[⟨0,0,.box [.d (.str p.name),.d (.list (p.vars.map bF)),.d (.list (p.body.map b5)),.vec 1 v1 0 m.out.length,.d (.int .i64 m.cells),.d (.int .i64 h),.d (.int .i64 m.most),.vec 2 v2 0 m.ex.length,.vec 3 v3 0 m.lv.length]⟩,⟨1,v1,.vec 5 (m.out.map da)⟩,⟨2,v2,.vv (m.ex.map fI) none⟩,⟨3,v3,.vec 1 (m.lv.map dw)⟩]
section
variable {p:Pg} (bm:p.vars.length≤1000) (hf:∀v∈p.vars,dr v=true)
include bm hf
theorem CF(x:Sm)(xI:(dM x).length<100000000)(at_:AV)(v:Vr)(k:Kt)(Q:Mk→bP→Prop)
 (hx:∀(Y:Env) M v1 v2 v3 v6 X6,Q M (k (.exit 0) ⟨60,aC,(0,true,.ptr 0 0 0)::(3,true,.ptr 250 1 0)::(4,true,at_)::(5,true,.ptr 350 1 0)::Y,Y0 p M 0 v1 v2 v3++[⟨250,1,bh x⟩,⟨350,1,gZ v⟩,⟨600,v6,X6⟩]⟩)):
 ∀(fr fp:List Tx)(cr cp:List Ex)(m:Mk)(v1 v2 v3 v6:Nat)(X6:aE),dM x=fp++fr→cw x=cp++cr→fp.length=cp.length→fr.length=cr.length→(∀c∈cr,bk c=true∧(aF p.vars c).e=0)→0≤m.most→m.out.length+(dK p.vars (gR x) fr cr).length<99999999→
 Q (m.az (dK p.vars (gR x) fr cr) (jP cr)) (aI ctx 142 (.loop (Code.at (aX Tryz.f142) [1,1,0,1,0,0])) ⟨60,aC,[(0,true,.ptr 0 0 0),(3,true,.ptr 250 1 0),(4,true,at_),(5,true,.ptr 350 1 0),(24,true,.d (.list ((dM x).map .str))),(25,true,.d (.int .i64 (dM x).length)),(26,true,.d (.int .i64 fp.length))],Y0 p m 0 v1 v2 v3++[⟨250,1,bh x⟩,⟨350,1,gZ v⟩,⟨600,v6,X6⟩]⟩ k)
 |[],fp,cr,cp,m,v1,v2,v3,v6,X6,h1,h2,h3,h4,hK,hm,hl=>by
  have hc:cr=[]:=sg (by simpa using h4.symm);subst hc;have e:m.az (dK p.vars (gR x) [] []) (jP [])=m:=by
   simp[dK,jP,Mk.az];cases m;simp at hm⊢;omega
  rw[e];have cm:fp.length=(dM x).length:=by rw[h1];simp
  have:=hx [(24,true,.d (.list ((dM x).map .str))),(25,true,.d (.int .i64 (dM x).length)),(26,true,.d (.int .i64 (dM x).length)),(27,true,.d (.bool false))] m v1 v2 v3 v6 X6;simp at this;rw[cm,ah];simp[Tryz.f142,this]
 |f::fr,fp,cr,cp,m,v1,v2,v3,v6,X6,h1,h2,h3,h4,hK,hm,hl=>by
  obtain⟨c,cr,rfl⟩:∃c r,cr=c::r:=by
   cases cr with
   |nil=>simp at h4
   |cons c r=>exact⟨c,r,rfl⟩
  have m8:=jQ p.vars c;have eC:dK p.vars (gR x) (f::fr) (c::cr)=((ak p.vars c).1++[ins 6 (ie p.vars (gR x) f).1 0 0 0])++dK p.vars (gR x) fr cr:=by simp[dK]
  rw[eC]at hl⊢;simp at hl;obtain⟨fc,ec⟩:=hK c (by simp);obtain⟨b,aeJ⟩:=Im p bm hf (gR x) f;obtain⟨s1,s2,s3,hk⟩:=kS bm hf c fc ec m 0 (by omega) (by omega) hm (by omega);obtain⟨u1,u2,u3,hs⟩:=pq p (m.az (ak p.vars c).1 (aL 0 c)) 1 (ie p.vars (gR x) f).1 (by simp[Mk.az];omega) (by decide);have e:m.az (((ak p.vars c).1++[ins 6 (ie p.vars (gR x) f).1 0 0 0])++dK p.vars (gR x) fr cr) (jP (c::cr))=((m.az (ak p.vars c).1 (aL 0 c)).put (ins 6 (ie p.vars (gR x) f).1 0 0 0) (1+ -1)).az (dK p.vars (gR x) fr cr) (jP cr):=by
   rw[wg,ES];exact tt (by have:=kW 0 c;simp only[jP];omega)
  rw[e];have mU:0≤((m.az (ak p.vars c).1 (aL 0 c)).put (ins 6 (ie p.vars (gR x) f).1 0 0 0) (1+ -1)).most:=by simp[Mk.put,Mk.az];omega
  have ou:((m.az (ak p.vars c).1 (aL 0 c)).put (ins 6 (ie p.vars (gR x) f).1 0 0 0) (1+ -1)).out.length=m.out.length+(ak p.vars c).1.length+1:=by simp[Mk.put,Mk.az];omega
  have ih:=fun v1 v2 v3 v6 X6=>CF x xI at_ v k Q hx fr (fp++[f]) cr (cp++[c]) ((m.az (ak p.vars c).1 (aL 0 c)).put (ins 6 (ie p.vars (gR x) f).1 0 0 0) (1+ -1)) v1 v2 v3 v6 X6 (by simp[h1]) (by simp[h2]) (by simp[h3]) (by simpa using h4) (fun c hc=>hK c (by simp[hc])) mU (by rw[ou];omega);clear hx hK e;generalize (m.az (ak p.vars c).1 (aL 0 c)).put (ins 6 (ie p.vars (gR x) f).1 0 0 0) (1+ -1)=M at*;generalize m.az (ak p.vars c).1 (aL 0 c)=N at*;have aV:fp.length<(dM x).length:=by rw[h1];simp
  have aW:(dM x)[fp.length]=f:=by simp[h1]
  have tj:fp.length<(cw x).length:=by rw[h2,h3];simp
  have yE:(cw x)[fp.length]=c:=by simp[h2,h3]
  have w1:IntKind.i64.wrap ((fp.length:Int)+1)=(fp.length:Int)+1:=aw (by unfold aY;omega);rw[ah];simp at hk hs aeJ;simp[Tryz.f142]at ih⊢;simp[aV,aW,tj,yE,aD,cU,aeJ,hk,hs,aq,w1,ih]
theorem ZT{name:Tx}{to val:Ex}{conds:List Ex}{fields:List Tx}{line:Int}{v:Vr}(hv:bg p.vars name=some v)(hl4:conds.length=fields.length)(xI:fields.length<100000000)(hK:∀c∈conds,bk c=true∧(aF p.vars c).e=0)(m:Mk)(hm:0≤m.most)(hl:m.out.length+(dK p.vars name fields conds).length<99999998):
 fK p (m.az (dK p.vars name fields conds++[ins 12 (b9 p.vars name).1 v.ty 0 0]) (jP conds)) 0 (.ret (.aU [])) (ai ctx 142 [.ptr 0 0 0,.d (b5 (.mk 9 name to val conds [] fields [] line))] (fJ p m 0)):=by
 have gM:=pr p bm hf name;rw[hv,iB hv]at gM;have ha:=fun (N:Mk) (h:N.out.length<100000000)=>jg p N 0 0 (ins 12 (b9 p.vars name).1 v.ty 0 0) h (by decide);have e:m.az (dK p.vars name fields conds++[ins 12 (b9 p.vars name).1 v.ty 0 0]) (jP conds)=(m.az (dK p.vars name fields conds) (jP conds)).put (ins 12 (b9 p.vars name).1 v.ty 0 0) (0+0):=by
  rw[wg];exact tt (by omega)
 rw[e];obtain⟨u1,u2,u3,hu⟩:=ha (m.az (dK p.vars name fields conds) (jP conds)) (by simp[Mk.az];omega);have cP:=fun (at_:AV) (k:Kt) (Q:Mk→bP→Prop) hx v6 X6=>CF bm hf (.mk 9 name to val conds [] fields [] line) xI at_ v k Q hx fields [] conds [] m 0 0 0 v6 X6 rfl rfl rfl hl4.symm hK hm (by simpa using (by omega:m.out.length+(dK p.vars name fields conds).length<99999999));rw[acF (by simp)];generalize (m.az (dK p.vars name fields conds) (jP conds)).put (ins 12 (b9 p.vars name).1 v.ty 0 0) (0+0)=M at*;simp only[abM,RH,RG]at cP;generalize m.az (dK p.vars name fields conds) (jP conds)=N at*;simp[ins]at hu;simp[Tryz.f142]at cP⊢;simp[eI,gM,bF,ep,aq];refine cP _ _ (fun X r=>X=N→fK p M 0 (.ret (.aU [])) r) (fun Y X v1 v2 v3 v6 X6 hX=>?_) _ _ rfl;subst hX;simp[Tryz.f142,hu];exact⟨_,_,_,rfl⟩
end
end Go.Am
end
section
namespace Go.Am
open Go
def dt:List (List ar×Int)→Int
 |[]=>0
 |t::r=>max t.2 (dt r)
def dk(ts:List (List ar×Int)):List (List ar):=ts.map (·.1)
def Mk.de(m:Mk)(ts:List (List ar×Int))(bs:List (List ar))(c t:Int):Mk:=
 ⟨m.out++jE 0 m.out.length (dk ts) bs,c,max m.most t,gI m.ex (te (-1) m.out.length (dk ts) bs),m.lv++te (-2) m.out.length (dk ts) bs⟩
theorem Io(m:Mk)(ts:List (List ar×Int))(h:0≤m.most):m.de ts [] m.cells 0=m:=by
 unfold Mk.de;have e1:jE 0 m.out.length (dk ts) []=[]:=by unfold jE;rfl
 have e2:∀k,te k m.out.length (dk ts) []=[]:=fun k=>by unfold te;rfl
 rw[e1,e2,e2,lW];cases m;simp at h⊢;omega
def Mk.fL(m:Mk)(t:List ar×Int):Mk:=(m.az t.1 t.2).put (ins 10 0 0 0 0) 0
theorem wh(a b c:List ar)(x:ar)(v:Int)(k:Int)(hk:k=((a.length+b.length:Nat):Int)):setAt (a++b++x::c) k v=a++b++{x with a:=v}::c:=by
 have:=qh (a++b) x c v;simp only[List.length_append]at this;rw[hk];exact this
theorem Nc(m:Mk)(t:List ar×Int)(ts:List (List ar×Int))(b:List ar)(c u:Int)(h0:0≤m.most):
 ((m.fL t).aM b c u).lead (m.out.length+t.1.length:Nat)=m.de (t::ts) [b] c (max t.2 u):=by
 unfold Mk.fL Mk.az Mk.put Mk.aM Mk.lead Mk.de dk;simp only[List.map_cons,jE,te,if_true,List.append_nil,Mk.mk.injEq,true_and];have hlen:(m.out++t.1++[ins 10 0 0 0 0]).length=m.out.length+t.1.length+1:=by simp;omega
 rw[hlen];refine⟨?_,by omega,rfl,rfl⟩;have:=wh m.out t.1 (cF (m.out.length+t.1.length+1) b) (ins 10 0 0 0 0) ((m.out.length+t.1.length+1+b.length:Nat):Int) ((m.out.length+t.1.length:Nat):Int) rfl;simp only[ins]at this⊢;have e2:((m.out++t.1++[({op:=10,a:=0,b:=0,n:=0,m:=0}:ar)]++cF (m.out.length+t.1.length+1) b).length:Int)=((m.out.length+t.1.length+1+b.length:Nat):Int):=by simp;omega
 rw[e2];have e3:m.out++t.1++[({op:=10,a:=0,b:=0,n:=0,m:=0}:ar)]++cF (m.out.length+t.1.length+1) b=m.out++t.1++({op:=10,a:=0,b:=0,n:=0,m:=0}:ar)::cF (m.out.length+t.1.length+1) b:=by simp
 rw[e3,this];simp
theorem Nd(m:Mk)(t:List ar×Int)(ts:List (List ar×Int))(b:List ar)(bs:List (List ar))(c c' u u':Int)(h0:0≤m.most)(hb:bs≠[]):
 ((((m.fL t).aM b c u).put (ins 9 0 0 0 0) 0).lead (m.out.length+t.1.length:Nat)).de ts bs c' u'=m.de (t::ts) (b::bs) c' (max t.2 (max u u')):=by
 have ky:((((m.fL t).aM b c u).put (ins 9 0 0 0 0) 0).lead (m.out.length+t.1.length:Nat)).out.length=m.out.length+t.1.length+2+b.length:=by
  simp[Mk.fL,Mk.az,Mk.put,Mk.aM,Mk.lead];omega
 have ho:((((m.fL t).aM b c u).put (ins 9 0 0 0 0) 0).lead (m.out.length+t.1.length:Nat)).out=m.out++(t.1++ins 10 (m.out.length+t.1.length+2+b.length) 0 0 0::(cF (m.out.length+t.1.length+1) b++[ins 9 0 0 0 0])):=by
  unfold Mk.fL Mk.az Mk.put Mk.aM Mk.lead;simp only
  have hlen:(m.out++t.1++[ins 10 0 0 0 0]).length=m.out.length+t.1.length+1:=by simp;omega
  rw[hlen];have:=wh m.out t.1 (cF (m.out.length+t.1.length+1) b++[ins 9 0 0 0 0]) (ins 10 0 0 0 0) ((m.out.length+t.1.length+2+b.length:Nat):Int) ((m.out.length+t.1.length:Nat):Int) rfl;have e2:((m.out++t.1++[ins 10 0 0 0 0]++cF (m.out.length+t.1.length+1) b++[ins 9 0 0 0 0]).length:Int)=((m.out.length+t.1.length+2+b.length:Nat):Int):=by simp;omega
  rw[e2];have e3:m.out++t.1++[ins 10 0 0 0 0]++cF (m.out.length+t.1.length+1) b++[ins 9 0 0 0 0]=m.out++t.1++ins 10 0 0 0 0::(cF (m.out.length+t.1.length+1) b++[ins 9 0 0 0 0]):=by simp
  rw[e3,this];simp[ins]
 have hex:((((m.fL t).aM b c u).put (ins 9 0 0 0 0) 0).lead (m.out.length+t.1.length:Nat)).ex=gI m.ex (cB (-1) (m.out.length+t.1.length+1) b):=by
  unfold Mk.fL Mk.az Mk.put Mk.aM Mk.lead;simp only
  have hlen:(m.out++t.1++[ins 10 0 0 0 0]).length=m.out.length+t.1.length+1:=by simp;omega
  rw[hlen]
 have nt:((((m.fL t).aM b c u).put (ins 9 0 0 0 0) 0).lead (m.out.length+t.1.length:Nat)).lv=m.lv++cB (-2) (m.out.length+t.1.length+1) b:=by
  unfold Mk.fL Mk.az Mk.put Mk.aM Mk.lead;simp only
  have hlen:(m.out++t.1++[ins 10 0 0 0 0]).length=m.out.length+t.1.length+1:=by simp;omega
  rw[hlen]
 have hmo:((((m.fL t).aM b c u).put (ins 9 0 0 0 0) 0).lead (m.out.length+t.1.length:Nat)).most=max m.most (max t.2 u):=by
  simp[Mk.fL,Mk.az,Mk.put,Mk.aM,Mk.lead];omega
 generalize (((m.fL t).aM b c u).put (ins 9 0 0 0 0) 0).lead (m.out.length+t.1.length:Nat)=M at*;unfold Mk.de;rw[ky,ho,hex,nt,hmo];simp only[dk,List.map_cons,jE,te,if_neg hb,Mk.mk.injEq,true_and,ER,List.append_assoc];exact⟨by simp,by omega,trivial⟩
theorem Nf(m:Mk)(b:List ar)(c u:Int):m.aM b c u=m.de [] [b] c u:=by
 unfold Mk.aM Mk.de dk;simp[jE,te]
end Go.Am
end
section
namespace Go.Am
open Go Go.Proofs
variable [Inhabited bV]
set_option maxRecDepth 20000
def ET(p:Pg)(m:Mk)(h:Int)(s:Sm)(o:Out)(r:bP):Prop:=∃v1 v2 v3,r=some (o,[(0,.box [.ptr 2 0 0]),(0,bh s),(0,gH p m h 3 4 5 v1 v2 v3),(v1,.vec 5 (m.out.map da)),(v2,.vv (m.ex.map fI) none),(v3,.vec 1 (m.lv.map dw))])
section
variable {p:Pg} (bm:p.vars.length≤1000) (hf:∀v∈p.vars,dr v=true)
include bm hf
theorem ZU(s:Sm)(i:Nat)(c:Ex)(hc:(cw s)[i]?=some c)(fc:bk c=true)(ec:(aF p.vars c).e=0)(m:Mk)(hm:0≤m.most)(hl:m.out.length+(ak p.vars c).1.length<99999999):
 ET p (m.az (ak p.vars c).1 (aL 0 c)) 1 s (.ret (.aU [])) (ai ctx 136 [.d (.int .i64 i),.ptr 0 0 0,.ptr 1 0 0] [.box [.ptr 2 0 0],bh s,gH p m 0 3 4 5 0 0 0,.vec 5 (m.out.map da),.vv (m.ex.map fI) none,.vec 1 (m.lv.map dw)]):=by
 obtain⟨v1,v2,v3,hk⟩:=kS bm hf c fc ec m 0 (by omega) (by omega) hm (by omega);have aV:i<(cw s).length:=(List.getElem?_eq_some_iff.1 hc).1;have aW:(cw s)[i]=c:=(List.getElem?_eq_some_iff.1 hc).2;generalize m.az (ak p.vars c).1 (aL 0 c)=M at*;simp at hk;rw[acC (by simp)];simp[Tryz.f136,aq,aV,aW,aD,hk];exact⟨_,_,_,rfl⟩
end
mutual
def u0:Sm→Nat
 | .mk _ _ _ _ _ _ _ blocks _=>ub blocks+1
def il:List Sm→Nat
 |[]=>0
 |x::r=>max (u0 x) (il r)
def ub:List (List Sm)→Nat
 |[]=>0
 |b::r=>max (il b) (ub r)
end
theorem A0:∀{l:List (List Sm)}{b:List Sm},b∈l→il b≤ub l
 |c::r,b,h=>by
  simp only[ub];rcases List.mem_cons.1 h with rfl|h
  ·omega
  ·have:=A0 h;omega
def sm(p:Pg)(lp:Bool)(b:List Sm):Prop:=∀(m:Mk),0≤m.most→0≤m.cells→ik m→(lp=true→m.ex≠[])→m.out.length+(ag p.vars b m.cells).1.length<99999990→(ag p.vars b m.cells).2<99999990→m.ex.length+il b<99999990→
 fK p (m.aM (ag p.vars b m.cells).1 (ag p.vars b m.cells).2 (bf b)) 0 (.ret (.aU [])) (ai ctx 51 [.ptr 0 0 0,.d (.list (b.map b5))] (fJ p m 0))
@[simp] def z8(p:Pg)(m:Mk)(s:Sm)(E:List Int)(v1 v2 v3 ve:Nat):List cH:=[⟨0,0,gH p m 0 3 4 5 v1 v2 v3⟩,⟨1,0,.box [.ptr 0 0 0]⟩,⟨2,0,bh s⟩,⟨3,v1,.vec 5 (m.out.map da)⟩,⟨4,v2,.vv (m.ex.map fI) none⟩,⟨5,v3,.vec 1 (m.lv.map dw)⟩,⟨500,ve,.vec 1 (E.map dw)⟩]
theorem ZV{p:Pg}{s:Sm}{blocks:List (List Sm)}{n i:Nat}{b:List Sm}(aV:i<blocks.length)(aW:blocks[i]=b)(cL:i<n)(hn:n<99999990)(jw:i+1<blocks.length)(gx:blocks.length<99999990)
 {m m1 m3:Mk} (h1:ET p m1 1 s (.ret (.aU [])) (ai ctx 136 [.d (.int .i64 i),.ptr 0 0 0,.ptr 1 0 0] [.box [.ptr 2 0 0],bh s,gH p m 0 3 4 5 0 0 0,.vec 5 (m.out.map da),.vv (m.ex.map fI) none,.vec 1 (m.lv.map dw)]))
 (ky:m1.out.length<99999990)
 (h3:fK p m3 0 (.ret (.aU [])) (ai ctx 51 [.ptr 0 0 0,.d (.list (b.map b5))] (fJ p (m1.put (ins 10 0 0 0 0) 0) 0)))
 (u4:m1.out.length<m3.out.length∧m3.out.length<99999990) (E:List Int) (hE:E.length<99999990) (k:Kt) (Q:bP→Prop)
 (hx:∀v1 v2 v3 ve,Q (aI ctx 135 (.loop (Code.at (aX Tryz.f135) [1,0,1,0,0])) ⟨49,aC,[(0,true,.ptr 0 0 0),(1,true,.d (.list (blocks.map dc))),(2,true,.d (.int .i64 n)),(3,true,.fn 136 [.ptr 1 0 0,.ptr 2 0 0]),(8,true,.vec 500 ve 0 (E.length+1)),(12,true,.d (.list (blocks.map dc))),(13,true,.d (.int .i64 blocks.length)),(14,true,.d (.int .i64 (i+1)))],z8 p ((m3.put (ins 9 0 0 0 0) 0).lead m1.out.length) s (E++[(m3.out.length:Int)]) v1 v2 v3 ve⟩ k))
 (v1 v2 v3 ve:Nat):
 Q (aI ctx 135 (.loop (Code.at (aX Tryz.f135) [1,0,1,0,0])) ⟨49,aC,[(0,true,.ptr 0 0 0),(1,true,.d (.list (blocks.map dc))),(2,true,.d (.int .i64 n)),(3,true,.fn 136 [.ptr 1 0 0,.ptr 2 0 0]),(8,true,.vec 500 ve 0 E.length),(12,true,.d (.list (blocks.map dc))),(13,true,.d (.int .i64 blocks.length)),(14,true,.d (.int .i64 i))],z8 p m s E v1 v2 v3 ve⟩ k):=by
 obtain⟨a1,a2,a3,h1⟩:=h1;obtain⟨c1,c2,c3,h2⟩:=we p m1 1 0 (by omega) (by decide);rw[show (1:Int)+ -1=0 by omega]at h2;obtain⟨d1,d2,d3,h3⟩:=h3;obtain⟨e1,e2,e3,h4⟩:=CD p m3 0 0 (by omega) (by decide);have CG:(m3.put (ins 9 0 0 0 0) 0).out.length=m3.out.length+1:=by simp[Mk.put]
 have h5:=qj p (m3.put (ins 9 0 0 0 0) 0) 0 m1.out.length (by rw[CG];omega) (by rw[CG];omega);have w1:IntKind.i64.wrap ((i:Int)+1)=(i:Int)+1:=aw (by unfold aY;omega);have w2:IntKind.i64.wrap ((blocks.length:Int)-1)=(blocks.length:Int)-1:=aw (by unfold aY;omega);have w3:(i:Int)<(blocks.length:Int)-1:=by omega
 have w4:E.length≤4611686018427387903:=by omega
 have w5:(E.length+1)*8≤140737488355328:=by omega
 have w6:(0:Int)≤m1.out.length:=by omega
 generalize (m3.put (ins 9 0 0 0 0) 0).lead m1.out.length=M5 at*;generalize m3.put (ins 9 0 0 0 0) 0=M4 at*;generalize m1.put (ins 10 0 0 0 0) 0=M2 at*;rw[ah];simp at h1 h2 h3 h4 h5;simp[Tryz.f135]at hx⊢;simp[aV,aW,dc,cL,h1,h2,h3,h4,h5,w1,w2,w3,w4,w5,w6,hx]
theorem ZW{p:Pg}{s:Sm}{blocks:List (List Sm)}{n i:Nat}{b:List Sm}(aV:i<blocks.length)(aW:blocks[i]=b)(cL:i<n)(hn:n<99999990)(jw:¬i+1<blocks.length)(gx:blocks.length<99999990)
 {m m1 m3:Mk} (h1:ET p m1 1 s (.ret (.aU [])) (ai ctx 136 [.d (.int .i64 i),.ptr 0 0 0,.ptr 1 0 0] [.box [.ptr 2 0 0],bh s,gH p m 0 3 4 5 0 0 0,.vec 5 (m.out.map da),.vv (m.ex.map fI) none,.vec 1 (m.lv.map dw)]))
 (ky:m1.out.length<99999990)
 (h3:fK p m3 0 (.ret (.aU [])) (ai ctx 51 [.ptr 0 0 0,.d (.list (b.map b5))] (fJ p (m1.put (ins 10 0 0 0 0) 0) 0)))
 (u4:m1.out.length<m3.out.length∧m3.out.length<99999990) (E:List Int) (hE:E.length<99999990) (k:Kt) (Q:bP→Prop)
 (hx:∀v1 v2 v3 ve,Q (aI ctx 135 (.loop (Code.at (aX Tryz.f135) [1,0,1,0,0])) ⟨49,aC,[(0,true,.ptr 0 0 0),(1,true,.d (.list (blocks.map dc))),(2,true,.d (.int .i64 n)),(3,true,.fn 136 [.ptr 1 0 0,.ptr 2 0 0]),(8,true,.vec 500 ve 0 E.length),(12,true,.d (.list (blocks.map dc))),(13,true,.d (.int .i64 blocks.length)),(14,true,.d (.int .i64 (i+1)))],z8 p (m3.lead m1.out.length) s E v1 v2 v3 ve⟩ k))
 (v1 v2 v3 ve:Nat):
 Q (aI ctx 135 (.loop (Code.at (aX Tryz.f135) [1,0,1,0,0])) ⟨49,aC,[(0,true,.ptr 0 0 0),(1,true,.d (.list (blocks.map dc))),(2,true,.d (.int .i64 n)),(3,true,.fn 136 [.ptr 1 0 0,.ptr 2 0 0]),(8,true,.vec 500 ve 0 E.length),(12,true,.d (.list (blocks.map dc))),(13,true,.d (.int .i64 blocks.length)),(14,true,.d (.int .i64 i))],z8 p m s E v1 v2 v3 ve⟩ k):=by
 obtain⟨a1,a2,a3,h1⟩:=h1;obtain⟨c1,c2,c3,h2⟩:=we p m1 1 0 (by omega) (by decide);rw[show (1:Int)+ -1=0 by omega]at h2;obtain⟨d1,d2,d3,h3⟩:=h3;have h5:=qj p m3 0 m1.out.length (by omega) (by omega);have w1:IntKind.i64.wrap ((i:Int)+1)=(i:Int)+1:=aw (by unfold aY;omega);have w2:IntKind.i64.wrap ((blocks.length:Int)-1)=(blocks.length:Int)-1:=aw (by unfold aY;omega);have w3:¬(i:Int)<(blocks.length:Int)-1:=by omega
 have w6:(0:Int)≤m1.out.length:=by omega
 generalize m3.lead m1.out.length=M5 at*;generalize m1.put (ins 10 0 0 0 0) 0=M2 at*;rw[ah];simp at h1 h2 h3 h5;simp[Tryz.f135]at hx⊢;simp[aV,aW,dc,cL,h1,h2,h3,h5,w1,w2,w3,w6,hx]
theorem ZX{p:Pg}{s:Sm}{blocks:List (List Sm)}{n i:Nat}{b:List Sm}(aV:i<blocks.length)(aW:blocks[i]=b)(cL:¬i<n)(hn:n<99999990)(jw:¬i+1<blocks.length)(gx:blocks.length<99999990)
 {m m3:Mk}
 (h3:fK p m3 0 (.ret (.aU [])) (ai ctx 51 [.ptr 0 0 0,.d (.list (b.map b5))] (fJ p m 0)))
 (E:List Int) (k:Kt) (Q:bP→Prop)
 (hx:∀v1 v2 v3 ve,Q (aI ctx 135 (.loop (Code.at (aX Tryz.f135) [1,0,1,0,0])) ⟨49,aC,[(0,true,.ptr 0 0 0),(1,true,.d (.list (blocks.map dc))),(2,true,.d (.int .i64 n)),(3,true,.fn 136 [.ptr 1 0 0,.ptr 2 0 0]),(8,true,.vec 500 ve 0 E.length),(12,true,.d (.list (blocks.map dc))),(13,true,.d (.int .i64 blocks.length)),(14,true,.d (.int .i64 (i+1)))],z8 p m3 s E v1 v2 v3 ve⟩ k))
 (v1 v2 v3 ve:Nat):
 Q (aI ctx 135 (.loop (Code.at (aX Tryz.f135) [1,0,1,0,0])) ⟨49,aC,[(0,true,.ptr 0 0 0),(1,true,.d (.list (blocks.map dc))),(2,true,.d (.int .i64 n)),(3,true,.fn 136 [.ptr 1 0 0,.ptr 2 0 0]),(8,true,.vec 500 ve 0 E.length),(12,true,.d (.list (blocks.map dc))),(13,true,.d (.int .i64 blocks.length)),(14,true,.d (.int .i64 i))],z8 p m s E v1 v2 v3 ve⟩ k):=by
 obtain⟨d1,d2,d3,h3⟩:=h3;have w1:IntKind.i64.wrap ((i:Int)+1)=(i:Int)+1:=aw (by unfold aY;omega);have w2:IntKind.i64.wrap ((blocks.length:Int)-1)=(blocks.length:Int)-1:=aw (by unfold aY;omega);have w3:¬(i:Int)<(blocks.length:Int)-1:=by omega
 rw[ah];simp at h3;simp[Tryz.f135]at hx⊢;simp[aV,aW,dc,cL,h3,w1,w2,w3,hx]
theorem A1{p:Pg}{s:Sm}{blocks:List (List Sm)}{n:Nat}{m:Mk}(E:List Int)(k:Kt)(Q:bP→Prop)
 (hx:∀(Y:Env) v1 v2 v3 ve,Q (k (.exit 0) ⟨49,aC,(0,true,.ptr 0 0 0)::(1,true,.d (.list (blocks.map dc)))::(2,true,.d (.int .i64 n))::(3,true,.fn 136 [.ptr 1 0 0,.ptr 2 0 0])::(8,true,.vec 500 ve 0 E.length)::Y,z8 p m s E v1 v2 v3 ve⟩))
 (v1 v2 v3 ve:Nat) {i:Nat} (hi:i=blocks.length):
 Q (aI ctx 135 (.loop (Code.at (aX Tryz.f135) [1,0,1,0,0])) ⟨49,aC,[(0,true,.ptr 0 0 0),(1,true,.d (.list (blocks.map dc))),(2,true,.d (.int .i64 n)),(3,true,.fn 136 [.ptr 1 0 0,.ptr 2 0 0]),(8,true,.vec 500 ve 0 E.length),(12,true,.d (.list (blocks.map dc))),(13,true,.d (.int .i64 blocks.length)),(14,true,.d (.int .i64 i))],z8 p m s E v1 v2 v3 ve⟩ k):=by
 subst hi;rw[ah];simp[Tryz.f135]at hx⊢;exact hx _ _ _ _ _
def Ng(p:Pg)(m:Mk)(h:Int)(s:Sm)(q:Int)(o:Out)(r:bP):Prop:=∃v1 v2 v3,r=some (o,[(0,.box [.ptr 3 0 0]),(0,bh s),(0,.box [.d (.int .i64 q)]),(0,gH p m h 4 5 6 v1 v2 v3),(v1,.vec 5 (m.out.map da)),(v2,.vv (m.ex.map fI) none),(v3,.vec 1 (m.lv.map dw))])
@[simp] def Aa(p:Pg)(m:Mk)(s:Sm)(q:Int)(E:List Int)(v1 v2 v3 ve:Nat):List cH:=[⟨0,0,gH p m 0 4 5 6 v1 v2 v3⟩,⟨1,0,.box [.ptr 0 0 0]⟩,⟨2,0,bh s⟩,⟨3,0,.box [.d (.int .i64 q)]⟩,⟨4,v1,.vec 5 (m.out.map da)⟩,⟨5,v2,.vv (m.ex.map fI) none⟩,⟨6,v3,.vec 1 (m.lv.map dw)⟩,⟨500,ve,.vec 1 (E.map dw)⟩]
theorem ZY{p:Pg}{s:Sm}{q:Int}{blocks:List (List Sm)}{n i:Nat}{b:List Sm}(aV:i<blocks.length)(aW:blocks[i]=b)(cL:i<n)(hn:n<99999990)(jw:i+1<blocks.length)(gx:blocks.length<99999990)
 {m m1 m3:Mk} (h1:Ng p m1 1 s q (.ret (.aU [])) (ai ctx 208 [.d (.int .i64 i),.ptr 0 0 0,.ptr 1 0 0,.ptr 2 0 0] [.box [.ptr 3 0 0],bh s,.box [.d (.int .i64 q)],gH p m 0 4 5 6 0 0 0,.vec 5 (m.out.map da),.vv (m.ex.map fI) none,.vec 1 (m.lv.map dw)]))
 (ky:m1.out.length<99999990)
 (h3:fK p m3 0 (.ret (.aU [])) (ai ctx 51 [.ptr 0 0 0,.d (.list (b.map b5))] (fJ p (m1.put (ins 10 0 0 0 0) 0) 0)))
 (u4:m1.out.length<m3.out.length∧m3.out.length<99999990) (E:List Int) (hE:E.length<99999990) (k:Kt) (Q:bP→Prop)
 (hx:∀v1 v2 v3 ve,Q (aI ctx 135 (.loop (Code.at (aX Tryz.f135) [1,0,1,0,0])) ⟨49,aC,[(0,true,.ptr 0 0 0),(1,true,.d (.list (blocks.map dc))),(2,true,.d (.int .i64 n)),(3,true,.fn 208 [.ptr 1 0 0,.ptr 2 0 0,.ptr 3 0 0]),(8,true,.vec 500 ve 0 (E.length+1)),(12,true,.d (.list (blocks.map dc))),(13,true,.d (.int .i64 blocks.length)),(14,true,.d (.int .i64 (i+1)))],Aa p ((m3.put (ins 9 0 0 0 0) 0).lead m1.out.length) s q (E++[(m3.out.length:Int)]) v1 v2 v3 ve⟩ k))
 (v1 v2 v3 ve:Nat):
 Q (aI ctx 135 (.loop (Code.at (aX Tryz.f135) [1,0,1,0,0])) ⟨49,aC,[(0,true,.ptr 0 0 0),(1,true,.d (.list (blocks.map dc))),(2,true,.d (.int .i64 n)),(3,true,.fn 208 [.ptr 1 0 0,.ptr 2 0 0,.ptr 3 0 0]),(8,true,.vec 500 ve 0 E.length),(12,true,.d (.list (blocks.map dc))),(13,true,.d (.int .i64 blocks.length)),(14,true,.d (.int .i64 i))],Aa p m s q E v1 v2 v3 ve⟩ k):=by
 obtain⟨a1,a2,a3,h1⟩:=h1;obtain⟨c1,c2,c3,h2⟩:=we p m1 1 0 (by omega) (by decide);rw[show (1:Int)+ -1=0 by omega]at h2;obtain⟨d1,d2,d3,h3⟩:=h3;obtain⟨e1,e2,e3,h4⟩:=CD p m3 0 0 (by omega) (by decide);have CG:(m3.put (ins 9 0 0 0 0) 0).out.length=m3.out.length+1:=by simp[Mk.put]
 have h5:=qj p (m3.put (ins 9 0 0 0 0) 0) 0 m1.out.length (by rw[CG];omega) (by rw[CG];omega);have w1:IntKind.i64.wrap ((i:Int)+1)=(i:Int)+1:=aw (by unfold aY;omega);have w2:IntKind.i64.wrap ((blocks.length:Int)-1)=(blocks.length:Int)-1:=aw (by unfold aY;omega);have w3:(i:Int)<(blocks.length:Int)-1:=by omega
 have w4:E.length≤4611686018427387903:=by omega
 have w5:(E.length+1)*8≤140737488355328:=by omega
 have w6:(0:Int)≤m1.out.length:=by omega
 generalize (m3.put (ins 9 0 0 0 0) 0).lead m1.out.length=M5 at*;generalize m3.put (ins 9 0 0 0 0) 0=M4 at*;generalize m1.put (ins 10 0 0 0 0) 0=M2 at*;rw[ah];simp at h1 h2 h3 h4 h5;simp[Tryz.f135]at hx⊢;simp[aV,aW,dc,cL,h1,h2,h3,h4,h5,w1,w2,w3,w4,w5,w6,hx]
theorem ZZ{p:Pg}{s:Sm}{q:Int}{blocks:List (List Sm)}{n i:Nat}{b:List Sm}(aV:i<blocks.length)(aW:blocks[i]=b)(cL:i<n)(hn:n<99999990)(jw:¬i+1<blocks.length)(gx:blocks.length<99999990)
 {m m1 m3:Mk} (h1:Ng p m1 1 s q (.ret (.aU [])) (ai ctx 208 [.d (.int .i64 i),.ptr 0 0 0,.ptr 1 0 0,.ptr 2 0 0] [.box [.ptr 3 0 0],bh s,.box [.d (.int .i64 q)],gH p m 0 4 5 6 0 0 0,.vec 5 (m.out.map da),.vv (m.ex.map fI) none,.vec 1 (m.lv.map dw)]))
 (ky:m1.out.length<99999990)
 (h3:fK p m3 0 (.ret (.aU [])) (ai ctx 51 [.ptr 0 0 0,.d (.list (b.map b5))] (fJ p (m1.put (ins 10 0 0 0 0) 0) 0)))
 (u4:m1.out.length<m3.out.length∧m3.out.length<99999990) (E:List Int) (hE:E.length<99999990) (k:Kt) (Q:bP→Prop)
 (hx:∀v1 v2 v3 ve,Q (aI ctx 135 (.loop (Code.at (aX Tryz.f135) [1,0,1,0,0])) ⟨49,aC,[(0,true,.ptr 0 0 0),(1,true,.d (.list (blocks.map dc))),(2,true,.d (.int .i64 n)),(3,true,.fn 208 [.ptr 1 0 0,.ptr 2 0 0,.ptr 3 0 0]),(8,true,.vec 500 ve 0 E.length),(12,true,.d (.list (blocks.map dc))),(13,true,.d (.int .i64 blocks.length)),(14,true,.d (.int .i64 (i+1)))],Aa p (m3.lead m1.out.length) s q E v1 v2 v3 ve⟩ k))
 (v1 v2 v3 ve:Nat):
 Q (aI ctx 135 (.loop (Code.at (aX Tryz.f135) [1,0,1,0,0])) ⟨49,aC,[(0,true,.ptr 0 0 0),(1,true,.d (.list (blocks.map dc))),(2,true,.d (.int .i64 n)),(3,true,.fn 208 [.ptr 1 0 0,.ptr 2 0 0,.ptr 3 0 0]),(8,true,.vec 500 ve 0 E.length),(12,true,.d (.list (blocks.map dc))),(13,true,.d (.int .i64 blocks.length)),(14,true,.d (.int .i64 i))],Aa p m s q E v1 v2 v3 ve⟩ k):=by
 obtain⟨a1,a2,a3,h1⟩:=h1;obtain⟨c1,c2,c3,h2⟩:=we p m1 1 0 (by omega) (by decide);rw[show (1:Int)+ -1=0 by omega]at h2;obtain⟨d1,d2,d3,h3⟩:=h3;have h5:=qj p m3 0 m1.out.length (by omega) (by omega);have w1:IntKind.i64.wrap ((i:Int)+1)=(i:Int)+1:=aw (by unfold aY;omega);have w2:IntKind.i64.wrap ((blocks.length:Int)-1)=(blocks.length:Int)-1:=aw (by unfold aY;omega);have w3:¬(i:Int)<(blocks.length:Int)-1:=by omega
 have w6:(0:Int)≤m1.out.length:=by omega
 generalize m3.lead m1.out.length=M5 at*;generalize m1.put (ins 10 0 0 0 0) 0=M2 at*;rw[ah];simp at h1 h2 h3 h5;simp[Tryz.f135]at hx⊢;simp[aV,aW,dc,cL,h1,h2,h3,h5,w1,w2,w3,w6,hx]
theorem Z0{p:Pg}{s:Sm}{q:Int}{blocks:List (List Sm)}{n i:Nat}{b:List Sm}(aV:i<blocks.length)(aW:blocks[i]=b)(cL:¬i<n)(hn:n<99999990)(jw:¬i+1<blocks.length)(gx:blocks.length<99999990)
 {m m3:Mk}
 (h3:fK p m3 0 (.ret (.aU [])) (ai ctx 51 [.ptr 0 0 0,.d (.list (b.map b5))] (fJ p m 0)))
 (E:List Int) (k:Kt) (Q:bP→Prop)
 (hx:∀v1 v2 v3 ve,Q (aI ctx 135 (.loop (Code.at (aX Tryz.f135) [1,0,1,0,0])) ⟨49,aC,[(0,true,.ptr 0 0 0),(1,true,.d (.list (blocks.map dc))),(2,true,.d (.int .i64 n)),(3,true,.fn 208 [.ptr 1 0 0,.ptr 2 0 0,.ptr 3 0 0]),(8,true,.vec 500 ve 0 E.length),(12,true,.d (.list (blocks.map dc))),(13,true,.d (.int .i64 blocks.length)),(14,true,.d (.int .i64 (i+1)))],Aa p m3 s q E v1 v2 v3 ve⟩ k))
 (v1 v2 v3 ve:Nat):
 Q (aI ctx 135 (.loop (Code.at (aX Tryz.f135) [1,0,1,0,0])) ⟨49,aC,[(0,true,.ptr 0 0 0),(1,true,.d (.list (blocks.map dc))),(2,true,.d (.int .i64 n)),(3,true,.fn 208 [.ptr 1 0 0,.ptr 2 0 0,.ptr 3 0 0]),(8,true,.vec 500 ve 0 E.length),(12,true,.d (.list (blocks.map dc))),(13,true,.d (.int .i64 blocks.length)),(14,true,.d (.int .i64 i))],Aa p m s q E v1 v2 v3 ve⟩ k):=by
 obtain⟨d1,d2,d3,h3⟩:=h3;have w1:IntKind.i64.wrap ((i:Int)+1)=(i:Int)+1:=aw (by unfold aY;omega);have w2:IntKind.i64.wrap ((blocks.length:Int)-1)=(blocks.length:Int)-1:=aw (by unfold aY;omega);have w3:¬(i:Int)<(blocks.length:Int)-1:=by omega
 rw[ah];simp at h3;simp[Tryz.f135]at hx⊢;simp[aV,aW,dc,cL,h3,w1,w2,w3,hx]
theorem A2{p:Pg}{s:Sm}{q:Int}{blocks:List (List Sm)}{n:Nat}{m:Mk}(E:List Int)(k:Kt)(Q:bP→Prop)
 (hx:∀(Y:Env) v1 v2 v3 ve,Q (k (.exit 0) ⟨49,aC,(0,true,.ptr 0 0 0)::(1,true,.d (.list (blocks.map dc)))::(2,true,.d (.int .i64 n))::(3,true,.fn 208 [.ptr 1 0 0,.ptr 2 0 0,.ptr 3 0 0])::(8,true,.vec 500 ve 0 E.length)::Y,Aa p m s q E v1 v2 v3 ve⟩))
 (v1 v2 v3 ve:Nat) {i:Nat} (hi:i=blocks.length):
 Q (aI ctx 135 (.loop (Code.at (aX Tryz.f135) [1,0,1,0,0])) ⟨49,aC,[(0,true,.ptr 0 0 0),(1,true,.d (.list (blocks.map dc))),(2,true,.d (.int .i64 n)),(3,true,.fn 208 [.ptr 1 0 0,.ptr 2 0 0,.ptr 3 0 0]),(8,true,.vec 500 ve 0 E.length),(12,true,.d (.list (blocks.map dc))),(13,true,.d (.int .i64 blocks.length)),(14,true,.d (.int .i64 i))],Aa p m s q E v1 v2 v3 ve⟩ k):=by
 subst hi;rw[ah];simp[Tryz.f135]at hx⊢;exact hx _ _ _ _ _
@[simp] theorem aq9:List.range 7=[0,1,2,3,4,5,6]:=rfl
@[simp] theorem ara:List.range 8=[0,1,2,3,4,5,6,7]:=rfl
@[simp] def mqL(p:Pg)(m:Mk)(h:Int)(s:Sm)(q:Int)(v1 v2 v3:Nat):List cH:=[⟨0,0,.box [.ptr 3 0 0]⟩,⟨1,0,bh s⟩,⟨2,0,.box [.d (.int .i64 q)]⟩,⟨3,0,gH p m h 4 5 6 v1 v2 v3⟩,⟨4,v1,.vec 5 (m.out.map da)⟩,⟨5,v2,.vv (m.ex.map fI) none⟩,⟨6,v3,.vec 1 (m.lv.map dw)⟩]
theorem EU{p:Pg}{s:Sm}{q:Int}(l:List Int)(bm:l.length<99999990)(k:Kt)(Q:Mk→bP→Prop)
 (hx:∀(Y:Env) M v1 v2 v3,Q M (k (.exit 0) ⟨38,aC,Y,mqL p M 1 s q v1 v2 v3⟩)):
 ∀(rest pre:List Int)(m:Mk)(v1 v2 v3:Nat),l=pre++rest→rest.length%2=0→0≤m.most→m.out.length+rest.length<99999990→2≤m.most∨rest≠[]→
 Q (m.az (dZ q rest) 2) (aI ctx 208 (.loop (Code.at (aX Tryz.f208) [1,1,1,0,0])) ⟨38,aC,[(1,true,.ptr 0 0 0),(3,true,.ptr 2 0 0),(5,true,.d (.list (l.map fun n=>.int .i64 n))),(6,true,.d (.int .i64 pre.length))],mqL p m 1 s q v1 v2 v3⟩ k)
 |[],pre,m,v1,v2,v3,hd,he,hm,hl,h2=>by
  have cm:pre.length=l.length:=by rw[hd];simp
  have e:m.az (dZ q []) 2=m:=by
   simp[dZ,Mk.az];cases m;simp at hm h2⊢;omega
  rw[e];have w1:IntKind.i64.wrap ((l.length:Int)+1)=(l.length:Int)+1:=aw (by unfold aY;omega);have w2:¬(l.length:Int)+1<l.length:=by omega
  rw[cm,ah];simp at hx;simp[Tryz.f208,w1,w2,hx]
 |[a],pre,m,v1,v2,v3,hd,he,hm,hl,h2=>by simp at he
 |a::b::rest,pre,m,v1,v2,v3,hd,he,hm,hl,h2=>by
  simp only[List.length_cons]at hl he;obtain⟨c1,c2,c3,g1⟩:=jg p m 1 1 (ins 14 q 0 a b) (by omega) (by decide);obtain⟨d1,d2,d3,g2⟩:=jg p (m.put (ins 14 q 0 a b) (1+1)) (1+1) (-1) (ins 8 1 21 0 0) (by simp[Mk.put];omega) (by decide);have e:m.az (dZ q (a::b::rest)) 2=((m.put (ins 14 q 0 a b) (1+1)).put (ins 8 1 21 0 0) (1+1+ -1)).az (dZ q rest) 2:=by
   simp only[dZ,Mk.put,Mk.az,Mk.mk.injEq];simp;omega
  rw[e];have ih:=fun v1 v2 v3=>EU (p:=p) (s:=s) (q:=q) l bm k Q hx rest (pre++[a,b]) ((m.put (ins 14 q 0 a b) (1+1)).put (ins 8 1 21 0 0) (1+1+ -1)) v1 v2 v3 (by simp[hd]) (by omega) (by simp[Mk.put];omega) (by simp[Mk.put];omega) (by simp[Mk.put];omega);clear hx e;generalize (m.put (ins 14 q 0 a b) (1+1)).put (ins 8 1 21 0 0) (1+1+ -1)=M at*;generalize m.put (ins 14 q 0 a b) (1+1)=N at*;have lz:l.length=pre.length+(rest.length+2):=by rw[hd];simp
  have w1:IntKind.i64.wrap ((pre.length:Int)+1)=(pre.length:Int)+1:=aw (by unfold aY;omega);have w2:(pre.length:Int)+1<l.length:=by omega
  have w3:IntKind.i64.wrap ((pre.length:Int)+2)=(pre.length:Int)+2:=aw (by unfold aY;omega);have i1:pre.length<l.length:=by omega
  have i2:l[pre.length]=a:=by simp[hd]
  have i3:pre.length+1<l.length:=by omega
  have i4:l[pre.length+1]=b:=by simp[hd]
  have i5:((pre.length:Int)+1).toNat=pre.length+1:=by omega
  have i6:(0:Int)≤(pre.length:Int)+1:=by omega
  rw[ah];simp[ins]at g1 g2;simp[Tryz.f208]at ih⊢;simp[w1,w2,w3,i1,i2,i3,i4,i5,i6,g1,g2,aq,ih]
theorem VJ{p:Pg}(s:Sm)(q:Int)(i:Nat)(l:List Int)(hc:(dW s)[i]?=some l)(hb:pc l=true)(m:Mk)(hm:0≤m.most)(hl:m.out.length+l.length+1<99999990):
 Ng p (m.az (ins 1 0 0 0 0::dZ q l) 2) 1 s q (.ret (.aU [])) (ai ctx 208 [.d (.int .i64 i),.ptr 0 0 0,.ptr 1 0 0,.ptr 2 0 0] [.box [.ptr 3 0 0],bh s,.box [.d (.int .i64 q)],gH p m 0 4 5 6 0 0 0,.vec 5 (m.out.map da),.vv (m.ex.map fI) none,.vec 1 (m.lv.map dw)]):=by
 have bm:l.length<99999990:=by omega
 simp only[pc,Bool.and_eq_true,Bool.not_eq_true',decide_eq_true_eq,decide_eq_false_iff_not]at hb;obtain⟨EE,aW,_⟩:=hb;obtain⟨c1,c2,c3,g1⟩:=jg p m 0 1 (ins 1 0 0 0 0) (by omega) (by decide);have e:m.az (ins 1 0 0 0 0::dZ q l) 2=(m.put (ins 1 0 0 0 0) (0+1)).az (dZ q l) 2:=by
  simp only[Mk.put,Mk.az,Mk.mk.injEq];simp;omega
 rw[e];have cP:=fun k Q hx v1 v2 v3=>EU (p:=p) (s:=s) (q:=q) l bm k Q hx l [] (m.put (ins 1 0 0 0 0) (0+1)) v1 v2 v3 rfl (by omega) (by simp[Mk.put];omega) (by simp[Mk.put];omega) (.inr (by intro h;simp[h]at EE));generalize (m.put (ins 1 0 0 0 0) (0+1)).az (dZ q l) 2=M at*;generalize m.put (ins 1 0 0 0 0) (0+1)=N at*;have aV:i<(dW s).length:=(List.getElem?_eq_some_iff.1 hc).1;have aW:(dW s)[i]=l:=(List.getElem?_eq_some_iff.1 hc).2;rw[acY (by simp)];simp[ins]at g1;simp[Tryz.f208]at cP⊢;simp[g1,aV,aW,mq];refine cP _ (fun X r=>X=M→Ng p M 1 s q (.ret (.aU [])) r) (fun Y X v1 v2 v3 hX=>?_) _ _ _ rfl;subst hX;have r7:List.range 7=[0,1,2,3,4,5,6]:=rfl;simp[r7];exact⟨_,_,_,rfl⟩
theorem tu(vs:List Vr):∀(l:List (List Sm))(c:Int),(au vs l c).1.length=l.length
 |[],c=>by simp[au]
 |b::r,c=>by simp[au,tu vs r]
theorem Ip{vs:List Vr}{l:List (List Sm)}{c:Int}:(au vs l c).1=[]↔l=[]:=by
 constructor
 ·intro h;have:=tu vs l c;rw[h]at this;exact sg this.symm
 ·rintro rfl;simp[au]
theorem Tj(t:List ar)(ts:List (List ar))(b:List ar)(r:List (List ar)):t.length+1+b.length+(if r=[]then 0 else 1+(cR ts r).length)≤(cR (t::ts) (b::r)).length:=by
 simp only[cR];by_cases h:r=[]
 ·subst h;simp[dX];omega
 ·simp[h,dX];omega
theorem zq(m:Mk)(t:List ar×Int):(m.fL t).out.length=m.out.length+t.1.length+1:=by simp[Mk.fL,Mk.az,Mk.put];omega
theorem tv{m:Mk}{ts:List (List ar×Int)}{bs:List (List ar)}{c t u:Int}(h:max m.most t=max m.most u):m.de ts bs c t=m.de ts bs c u:=by
 unfold Mk.de;rw[h]
theorem wi{vs:List Vr}:∀(l:List (List Sm))(c:Int),0≤c→(∀b∈l,∀c,0≤c→c≤(ag vs b c).2)→c≤(au vs l c).2
 |[],c,_,_=>by simp[au]
 |b::r,c,h0,h=>by
  have h1:=h b (by simp) c h0;have h2:=wi r (ag vs b c).2 (by omega) (fun b hb=>h b (by simp[hb]));simp only[au];omega
section
variable {p:Pg} {lp:Bool}
theorem Iq{s:Sm}{blocks:List (List Sm)}{ts:List (List ar×Int)}(gx:blocks.length<99999990)(jl:ts.length≤blocks.length)(CH:blocks.length≤ts.length+1)
 (HT:∀(i:Nat)(t:List ar×Int),ts[i]?=some t→∀m:Mk,0≤m.most→m.out.length+t.1.length<99999990→ET p (m.az t.1 t.2) 1 s (.ret (.aU [])) (ai ctx 136 [.d (.int .i64 i),.ptr 0 0 0,.ptr 1 0 0] [.box [.ptr 2 0 0],bh s,gH p m 0 3 4 5 0 0 0,.vec 5 (m.out.map da),.vv (m.ex.map fI) none,.vec 1 (m.lv.map dw)]))
 (HB:∀b∈blocks,sm p lp b) (HC:∀b∈blocks,∀c,0≤c→c≤(ag p.vars b c).2) (k:Kt) (Q:Mk→List Int→bP→Prop)
 (hx:∀(Y:Env) M E v1 v2 v3 ve,Q M E (k (.exit 0) ⟨49,aC,(0,true,.ptr 0 0 0)::(1,true,.d (.list (blocks.map dc)))::(2,true,.d (.int .i64 ts.length))::(3,true,.fn 136 [.ptr 1 0 0,.ptr 2 0 0])::(8,true,.vec 500 ve 0 E.length)::Y,z8 p M s E v1 v2 v3 ve⟩)):
 ∀(br bp:List (List Sm))(tr tp:List (List ar×Int))(m:Mk)(E:List Int)(v1 v2 v3 ve:Nat),blocks=bp++br→ts=tp++tr→(bp.length=tp.length∨(tr=[]∧br=[]))→0≤m.most→0≤m.cells→ik m→(lp=true→m.ex≠[])→
 m.out.length+(cR (dk tr) (au p.vars br m.cells).1).length<99999990→(au p.vars br m.cells).2<99999990→(∀b∈blocks,m.ex.length+il b<99999990)→E.length+br.length<99999980→
 Q (m.de tr (au p.vars br m.cells).1 (au p.vars br m.cells).2 (max (dt tr) (bW br))) (E++fu m.out.length (dk tr) (au p.vars br m.cells).1)
  (aI ctx 135 (.loop (Code.at (aX Tryz.f135) [1,0,1,0,0])) ⟨49,aC,[(0,true,.ptr 0 0 0),(1,true,.d (.list (blocks.map dc))),(2,true,.d (.int .i64 ts.length)),(3,true,.fn 136 [.ptr 1 0 0,.ptr 2 0 0]),(8,true,.vec 500 ve 0 E.length),(12,true,.d (.list (blocks.map dc))),(13,true,.d (.int .i64 blocks.length)),(14,true,.d (.int .i64 bp.length))],z8 p m s E v1 v2 v3 ve⟩ k)
 |[],bp,tr,tp,m,E,v1,v2,v3,ve,h1,h2,h3,hm,hc,hI,hex,ho,aO,fE,hE=>by
  have Ir:tr=[]:=by
   rcases h3 with h3|h3
   ·have a1:blocks.length=bp.length:=by rw[h1];simp
    have a2:ts.length=tp.length+tr.length:=by rw[h2];simp
    exact sg (by omega)
   ·exact h3.1
  subst Ir;have e1:(au p.vars [] m.cells)=([],m.cells):=by simp[au]
  have e2:m.de [] (au p.vars [] m.cells).1 (au p.vars [] m.cells).2 (max (dt []) (bW []))=m:=by
   rw[e1];have:=Io m [] hm;simpa [dt,bW]using this
  have e3:E++fu m.out.length (dk []) (au p.vars [] m.cells).1=E:=by rw[e1];simp[fu]
  rw[e2,e3];exact A1 E k (Q m E) (fun Y v1 v2 v3 ve=>hx Y m E v1 v2 v3 ve) v1 v2 v3 ve (by rw[h1];simp)
 |b::br,bp,[],tp,m,E,v1,v2,v3,ve,h1,h2,h3,hm,hc,hI,hex,ho,aO,fE,hE=>by
  have h3:bp.length=tp.length:=by
   rcases h3 with h3|h3
   ·exact h3
   ·cases h3.2
  have a1:blocks.length=bp.length+(br.length+1):=by rw[h1];simp
  have a2:ts.length=tp.length:=by rw[h2];simp
  have yF:br=[]:=sg (by omega);subst yF;have eg:au p.vars [b] m.cells=([(ag p.vars b m.cells).1],(ag p.vars b m.cells).2):=by simp[au]
  rw[eg]at ho aO⊢;have cg:m.out.length+(ag p.vars b m.cells).1.length<99999990:=by simpa [dk,cR]using ho
  have oN:=HB b (by rw[h1];simp) m hm hc hI hex (by omega) aO (fE b (by rw[h1];simp));have e2:m.de [] [(ag p.vars b m.cells).1] (ag p.vars b m.cells).2 (max (dt []) (bW [b]))=m.aM (ag p.vars b m.cells).1 (ag p.vars b m.cells).2 (bf b):=by
   rw[←Nf];exact lX (by simp only[dt,bW];omega)
  have e3:E++fu m.out.length (dk []) [(ag p.vars b m.cells).1]=E:=by simp[dk,fu]
  simp only
  rw[e2,e3];refine ZX (i:=bp.length) (b:=b) (by omega) (by simp[h1]) (by omega) (by omega) (by omega) gx oN E k (Q _ E) (fun v1 v2 v3 ve=>?_) v1 v2 v3 ve;exact A1 E k (Q _ E) (fun Y v1 v2 v3 ve=>hx Y _ E v1 v2 v3 ve) v1 v2 v3 ve (i:=bp.length+1) (by omega)
 |b::br,bp,t::tr,tp,m,E,v1,v2,v3,ve,h1,h2,h3,hm,hc,hI,hex,ho,aO,fE,hE=>by
  have h3:bp.length=tp.length:=by
   rcases h3 with h3|h3
   ·exact h3
   ·cases h3.2
  have a1:blocks.length=bp.length+(br.length+1):=by rw[h1];simp
  have a2:ts.length=tp.length+(tr.length+1):=by rw[h2];simp
  have eg:au p.vars (b::br) m.cells=((ag p.vars b m.cells).1::(au p.vars br (ag p.vars b m.cells).2).1,(au p.vars br (ag p.vars b m.cells).2).2):=by simp[au]
  rw[eg]at ho aO⊢;have wW:=Tj t.1 (dk tr) (ag p.vars b m.cells).1 (au p.vars br (ag p.vars b m.cells).2).1;have qK:=HC b (by rw[h1];simp) m.cells hc;have b7:=wi br (ag p.vars b m.cells).2 (by omega) (fun b hb=>HC b (by rw[h1];simp[hb]));have ec:dk (t::tr)=t.1::dk tr:=rfl;rw[ec]at ho⊢;simp only at aO ho;have hT:=HT bp.length t (by rw[h2,h3];simp) m hm (by omega);have YP:0≤(m.fL t).most:=by simp[Mk.fL,Mk.az,Mk.put];omega
  have oN:=HB b (by rw[h1];simp) (m.fL t) YP hc ((hI.az _ _).put _ _) hex (by rw[zq];show _+(ag p.vars b m.cells).1.length<_;omega) (by show (ag p.vars b m.cells).2<_;omega) (fE b (by rw[h1];simp));have oN:fK p ((m.fL t).aM (ag p.vars b m.cells).1 (ag p.vars b m.cells).2 (bf b)) 0 (.ret (.aU [])) (ai ctx 51 [.ptr 0 0 0,.d (.list (b.map b5))] (fJ p ((m.az t.1 t.2).put (ins 10 0 0 0 0) 0) 0)):=oN;have ky:(m.az t.1 t.2).out.length=m.out.length+t.1.length:=by simp[Mk.az]
  have u4:((m.fL t).aM (ag p.vars b m.cells).1 (ag p.vars b m.cells).2 (bf b)).out.length=m.out.length+t.1.length+1+(ag p.vars b m.cells).1.length:=by
   show ((m.fL t).out++cF _ _).length=_;rw[List.length_append,mh,zq]
  have CI:((m.az t.1 t.2).out.length:Int)=((m.out.length+t.1.length:Nat):Int):=by rw[ky]
  by_cases yF:br=[]
  ·subst yF;have Ir:tr=[]:=sg (by simp at a1;omega);subst Ir;have eb:au p.vars [] (ag p.vars b m.cells).2=([],(ag p.vars b m.cells).2):=by simp[au]
   rw[eb];have e2:m.de [t] [(ag p.vars b m.cells).1] (ag p.vars b m.cells).2 (max (dt [t]) (bW [b]))=((m.fL t).aM (ag p.vars b m.cells).1 (ag p.vars b m.cells).2 (bf b)).lead (m.az t.1 t.2).out.length:=by
    rw[CI,Nc m t [] _ _ _ hm];exact tv (by simp only[dt,bW];omega)
   have e3:E++fu m.out.length (t.1::dk []) [(ag p.vars b m.cells).1]=E:=by simp[dk,fu]
   simp only
   rw[e2,e3];refine ZW (i:=bp.length) (b:=b) (by omega) (by simp[h1]) (by omega) (by omega) (by simp at a1;omega) gx hT (by rw[ky];omega) oN (by rw[ky,u4];omega) E (by omega) k (Q _ E) (fun v1 v2 v3 ve=>?_) v1 v2 v3 ve;exact A1 E k (Q _ E) (fun Y v1 v2 v3 ve=>hx Y _ E v1 v2 v3 ve) v1 v2 v3 ve (i:=bp.length+1) (by simp at a1;omega)
  ·have EE:0<br.length:=by
    cases br with
    |nil=>exact absurd rfl yF
    |cons _ _=>simp
   have oJ:(au p.vars br (ag p.vars b m.cells).2).1≠[]:=fun h=>yF (Ip.1 h);rw[if_neg oJ]at wW;refine ZV (i:=bp.length) (b:=b) (by omega) (by simp[h1]) (by omega) (by omega) (by omega) gx hT (by rw[ky];omega) oN (by rw[ky,u4];omega) E (by omega) k (Q _ _) (fun v1 v2 v3 ve=>?_) v1 v2 v3 ve;have e2:=Nd m t tr (ag p.vars b m.cells).1 (au p.vars br (ag p.vars b m.cells).2).1 (ag p.vars b m.cells).2 (au p.vars br (ag p.vars b m.cells).2).2 (bf b) (max (dt tr) (bW br)) hm oJ;have e3:fu m.out.length (t.1::dk tr) ((ag p.vars b m.cells).1::(au p.vars br (ag p.vars b m.cells).2).1)=((m.out.length+t.1.length+1+(ag p.vars b m.cells).1.length:Nat):Int)::fu (m.out.length+t.1.length+2+(ag p.vars b m.cells).1.length) (dk tr) (au p.vars br (ag p.vars b m.cells).2).1:=by
    simp only[fu,if_neg oJ]
   have hM:((((m.fL t).aM (ag p.vars b m.cells).1 (ag p.vars b m.cells).2 (bf b)).put (ins 9 0 0 0 0) 0).lead (m.out.length+t.1.length:Nat)).out.length=m.out.length+t.1.length+2+(ag p.vars b m.cells).1.length:=by
    rw[AZ];show (((m.fL t).aM _ _ _).out++_).length=_;rw[List.length_append,u4];simp;omega
   have CJ:((((m.fL t).aM (ag p.vars b m.cells).1 (ag p.vars b m.cells).2 (bf b)).put (ins 9 0 0 0 0) 0).lead (m.out.length+t.1.length:Nat)).cells=(ag p.vars b m.cells).2:=rfl;have Tk:((((m.fL t).aM (ag p.vars b m.cells).1 (ag p.vars b m.cells).2 (bf b)).put (ins 9 0 0 0 0) 0).lead (m.out.length+t.1.length:Nat)).ex.length=m.ex.length:=by
    show (gI m.ex _).length=_;simp
   have hMm:0≤((((m.fL t).aM (ag p.vars b m.cells).1 (ag p.vars b m.cells).2 (bf b)).put (ins 9 0 0 0 0) 0).lead (m.out.length+t.1.length:Nat)).most:=by
    simp[Mk.lead,Mk.put,Mk.aM];omega
   have e5:m.de (t::tr) ((ag p.vars b m.cells).1::(au p.vars br (ag p.vars b m.cells).2).1) (au p.vars br (ag p.vars b m.cells).2).2 (max (dt (t::tr)) (bW (b::br)))=((((m.fL t).aM (ag p.vars b m.cells).1 (ag p.vars b m.cells).2 (bf b)).put (ins 9 0 0 0 0) 0).lead (m.out.length+t.1.length:Nat)).de tr (au p.vars br (ag p.vars b m.cells).2).1 (au p.vars br (ag p.vars b m.cells).2).2 (max (dt tr) (bW br)):=by
    rw[e2];exact tv (by simp only[dt,bW];omega)
   have ih:=Iq gx jl CH HT HB HC k Q hx br (bp++[b]) tr (tp++[t]) ((((m.fL t).aM (ag p.vars b m.cells).1 (ag p.vars b m.cells).2 (bf b)).put (ins 9 0 0 0 0) 0).lead (m.out.length+t.1.length:Nat)) (E++[((m.out.length+t.1.length+1+(ag p.vars b m.cells).1.length:Nat):Int)]) v1 v2 v3 ve (by simp[h1]) (by simp[h2]) (.inl (by simp[h3])) hMm (by rw[CJ];omega) ((((((hI.az _ _).put _ _).aM _ _ _).put _ _).lead _)) (fun h=>by
    intro h0;have:=Tk;rw[h0]at this;have h9:=hex h;cases Tl:m.ex with
    |nil=>exact h9 Tl
    |cons _ _=>rw[Tl]at this;simp at this) (by rw[hM,CJ];omega) (by rw[CJ];omega) (fun b hb=>by rw[Tk];exact fE b hb) (by simp at hE⊢;omega)
   rw[hM,CJ]at ih;simp only
   rw[e5,e3,CI,u4];have e6:E++((m.out.length+t.1.length+1+(ag p.vars b m.cells).1.length:Nat):Int)::fu (m.out.length+t.1.length+2+(ag p.vars b m.cells).1.length) (dk tr) (au p.vars br (ag p.vars b m.cells).2).1=E++[((m.out.length+t.1.length+1+(ag p.vars b m.cells).1.length:Nat):Int)]++fu (m.out.length+t.1.length+2+(ag p.vars b m.cells).1.length) (dk tr) (au p.vars br (ag p.vars b m.cells).2).1:=by simp
   rw[e6];simpa using ih
end
section
variable {p:Pg} {lp:Bool}
theorem It{s:Sm}{q:Int}{blocks:List (List Sm)}{ts:List (List ar×Int)}(gx:blocks.length<99999990)(jl:ts.length≤blocks.length)(CH:blocks.length≤ts.length+1)
 (HT:∀(i:Nat)(t:List ar×Int),ts[i]?=some t→∀m:Mk,0≤m.most→m.out.length+t.1.length<99999990→Ng p (m.az t.1 t.2) 1 s q (.ret (.aU [])) (ai ctx 208 [.d (.int .i64 i),.ptr 0 0 0,.ptr 1 0 0,.ptr 2 0 0] [.box [.ptr 3 0 0],bh s,.box [.d (.int .i64 q)],gH p m 0 4 5 6 0 0 0,.vec 5 (m.out.map da),.vv (m.ex.map fI) none,.vec 1 (m.lv.map dw)]))
 (HB:∀b∈blocks,sm p lp b) (HC:∀b∈blocks,∀c,0≤c→c≤(ag p.vars b c).2) (k:Kt) (Q:Mk→List Int→bP→Prop)
 (hx:∀(Y:Env) M E v1 v2 v3 ve,Q M E (k (.exit 0) ⟨49,aC,(0,true,.ptr 0 0 0)::(1,true,.d (.list (blocks.map dc)))::(2,true,.d (.int .i64 ts.length))::(3,true,.fn 208 [.ptr 1 0 0,.ptr 2 0 0,.ptr 3 0 0])::(8,true,.vec 500 ve 0 E.length)::Y,Aa p M s q E v1 v2 v3 ve⟩)):
 ∀(br bp:List (List Sm))(tr tp:List (List ar×Int))(m:Mk)(E:List Int)(v1 v2 v3 ve:Nat),blocks=bp++br→ts=tp++tr→(bp.length=tp.length∨(tr=[]∧br=[]))→0≤m.most→0≤m.cells→ik m→(lp=true→m.ex≠[])→
 m.out.length+(cR (dk tr) (au p.vars br m.cells).1).length<99999990→(au p.vars br m.cells).2<99999990→(∀b∈blocks,m.ex.length+il b<99999990)→E.length+br.length<99999980→
 Q (m.de tr (au p.vars br m.cells).1 (au p.vars br m.cells).2 (max (dt tr) (bW br))) (E++fu m.out.length (dk tr) (au p.vars br m.cells).1)
  (aI ctx 135 (.loop (Code.at (aX Tryz.f135) [1,0,1,0,0])) ⟨49,aC,[(0,true,.ptr 0 0 0),(1,true,.d (.list (blocks.map dc))),(2,true,.d (.int .i64 ts.length)),(3,true,.fn 208 [.ptr 1 0 0,.ptr 2 0 0,.ptr 3 0 0]),(8,true,.vec 500 ve 0 E.length),(12,true,.d (.list (blocks.map dc))),(13,true,.d (.int .i64 blocks.length)),(14,true,.d (.int .i64 bp.length))],Aa p m s q E v1 v2 v3 ve⟩ k)
 |[],bp,tr,tp,m,E,v1,v2,v3,ve,h1,h2,h3,hm,hc,hI,hex,ho,aO,fE,hE=>by
  have Ir:tr=[]:=by
   rcases h3 with h3|h3
   ·have a1:blocks.length=bp.length:=by rw[h1];simp
    have a2:ts.length=tp.length+tr.length:=by rw[h2];simp
    exact sg (by omega)
   ·exact h3.1
  subst Ir;have e1:(au p.vars [] m.cells)=([],m.cells):=by simp[au]
  have e2:m.de [] (au p.vars [] m.cells).1 (au p.vars [] m.cells).2 (max (dt []) (bW []))=m:=by
   rw[e1];have:=Io m [] hm;simpa [dt,bW]using this
  have e3:E++fu m.out.length (dk []) (au p.vars [] m.cells).1=E:=by rw[e1];simp[fu]
  rw[e2,e3];exact A2 E k (Q m E) (fun Y v1 v2 v3 ve=>hx Y m E v1 v2 v3 ve) v1 v2 v3 ve (by rw[h1];simp)
 |b::br,bp,[],tp,m,E,v1,v2,v3,ve,h1,h2,h3,hm,hc,hI,hex,ho,aO,fE,hE=>by
  have h3:bp.length=tp.length:=by
   rcases h3 with h3|h3
   ·exact h3
   ·cases h3.2
  have a1:blocks.length=bp.length+(br.length+1):=by rw[h1];simp
  have a2:ts.length=tp.length:=by rw[h2];simp
  have yF:br=[]:=sg (by omega);subst yF;have eg:au p.vars [b] m.cells=([(ag p.vars b m.cells).1],(ag p.vars b m.cells).2):=by simp[au]
  rw[eg]at ho aO⊢;have cg:m.out.length+(ag p.vars b m.cells).1.length<99999990:=by simpa [dk,cR]using ho
  have oN:=HB b (by rw[h1];simp) m hm hc hI hex (by omega) aO (fE b (by rw[h1];simp));have e2:m.de [] [(ag p.vars b m.cells).1] (ag p.vars b m.cells).2 (max (dt []) (bW [b]))=m.aM (ag p.vars b m.cells).1 (ag p.vars b m.cells).2 (bf b):=by
   rw[←Nf];exact lX (by simp only[dt,bW];omega)
  have e3:E++fu m.out.length (dk []) [(ag p.vars b m.cells).1]=E:=by simp[dk,fu]
  simp only
  rw[e2,e3];refine Z0 (i:=bp.length) (b:=b) (by omega) (by simp[h1]) (by omega) (by omega) (by omega) gx oN E k (Q _ E) (fun v1 v2 v3 ve=>?_) v1 v2 v3 ve;exact A2 E k (Q _ E) (fun Y v1 v2 v3 ve=>hx Y _ E v1 v2 v3 ve) v1 v2 v3 ve (i:=bp.length+1) (by omega)
 |b::br,bp,t::tr,tp,m,E,v1,v2,v3,ve,h1,h2,h3,hm,hc,hI,hex,ho,aO,fE,hE=>by
  have h3:bp.length=tp.length:=by
   rcases h3 with h3|h3
   ·exact h3
   ·cases h3.2
  have a1:blocks.length=bp.length+(br.length+1):=by rw[h1];simp
  have a2:ts.length=tp.length+(tr.length+1):=by rw[h2];simp
  have eg:au p.vars (b::br) m.cells=((ag p.vars b m.cells).1::(au p.vars br (ag p.vars b m.cells).2).1,(au p.vars br (ag p.vars b m.cells).2).2):=by simp[au]
  rw[eg]at ho aO⊢;have wW:=Tj t.1 (dk tr) (ag p.vars b m.cells).1 (au p.vars br (ag p.vars b m.cells).2).1;have qK:=HC b (by rw[h1];simp) m.cells hc;have b7:=wi br (ag p.vars b m.cells).2 (by omega) (fun b hb=>HC b (by rw[h1];simp[hb]));have ec:dk (t::tr)=t.1::dk tr:=rfl;rw[ec]at ho⊢;simp only at aO ho;have hT:=HT bp.length t (by rw[h2,h3];simp) m hm (by omega);have YP:0≤(m.fL t).most:=by simp[Mk.fL,Mk.az,Mk.put];omega
  have oN:=HB b (by rw[h1];simp) (m.fL t) YP hc ((hI.az _ _).put _ _) hex (by rw[zq];show _+(ag p.vars b m.cells).1.length<_;omega) (by show (ag p.vars b m.cells).2<_;omega) (fE b (by rw[h1];simp));have oN:fK p ((m.fL t).aM (ag p.vars b m.cells).1 (ag p.vars b m.cells).2 (bf b)) 0 (.ret (.aU [])) (ai ctx 51 [.ptr 0 0 0,.d (.list (b.map b5))] (fJ p ((m.az t.1 t.2).put (ins 10 0 0 0 0) 0) 0)):=oN;have ky:(m.az t.1 t.2).out.length=m.out.length+t.1.length:=by simp[Mk.az]
  have u4:((m.fL t).aM (ag p.vars b m.cells).1 (ag p.vars b m.cells).2 (bf b)).out.length=m.out.length+t.1.length+1+(ag p.vars b m.cells).1.length:=by
   show ((m.fL t).out++cF _ _).length=_;rw[List.length_append,mh,zq]
  have CI:((m.az t.1 t.2).out.length:Int)=((m.out.length+t.1.length:Nat):Int):=by rw[ky]
  by_cases yF:br=[]
  ·subst yF;have Ir:tr=[]:=sg (by simp at a1;omega);subst Ir;have eb:au p.vars [] (ag p.vars b m.cells).2=([],(ag p.vars b m.cells).2):=by simp[au]
   rw[eb];have e2:m.de [t] [(ag p.vars b m.cells).1] (ag p.vars b m.cells).2 (max (dt [t]) (bW [b]))=((m.fL t).aM (ag p.vars b m.cells).1 (ag p.vars b m.cells).2 (bf b)).lead (m.az t.1 t.2).out.length:=by
    rw[CI,Nc m t [] _ _ _ hm];exact tv (by simp only[dt,bW];omega)
   have e3:E++fu m.out.length (t.1::dk []) [(ag p.vars b m.cells).1]=E:=by simp[dk,fu]
   simp only
   rw[e2,e3];refine ZZ (i:=bp.length) (b:=b) (by omega) (by simp[h1]) (by omega) (by omega) (by simp at a1;omega) gx hT (by rw[ky];omega) oN (by rw[ky,u4];omega) E (by omega) k (Q _ E) (fun v1 v2 v3 ve=>?_) v1 v2 v3 ve;exact A2 E k (Q _ E) (fun Y v1 v2 v3 ve=>hx Y _ E v1 v2 v3 ve) v1 v2 v3 ve (i:=bp.length+1) (by simp at a1;omega)
  ·have EE:0<br.length:=by
    cases br with
    |nil=>exact absurd rfl yF
    |cons _ _=>simp
   have oJ:(au p.vars br (ag p.vars b m.cells).2).1≠[]:=fun h=>yF (Ip.1 h);rw[if_neg oJ]at wW;refine ZY (i:=bp.length) (b:=b) (by omega) (by simp[h1]) (by omega) (by omega) (by omega) gx hT (by rw[ky];omega) oN (by rw[ky,u4];omega) E (by omega) k (Q _ _) (fun v1 v2 v3 ve=>?_) v1 v2 v3 ve;have e2:=Nd m t tr (ag p.vars b m.cells).1 (au p.vars br (ag p.vars b m.cells).2).1 (ag p.vars b m.cells).2 (au p.vars br (ag p.vars b m.cells).2).2 (bf b) (max (dt tr) (bW br)) hm oJ;have e3:fu m.out.length (t.1::dk tr) ((ag p.vars b m.cells).1::(au p.vars br (ag p.vars b m.cells).2).1)=((m.out.length+t.1.length+1+(ag p.vars b m.cells).1.length:Nat):Int)::fu (m.out.length+t.1.length+2+(ag p.vars b m.cells).1.length) (dk tr) (au p.vars br (ag p.vars b m.cells).2).1:=by
    simp only[fu,if_neg oJ]
   have hM:((((m.fL t).aM (ag p.vars b m.cells).1 (ag p.vars b m.cells).2 (bf b)).put (ins 9 0 0 0 0) 0).lead (m.out.length+t.1.length:Nat)).out.length=m.out.length+t.1.length+2+(ag p.vars b m.cells).1.length:=by
    rw[AZ];show (((m.fL t).aM _ _ _).out++_).length=_;rw[List.length_append,u4];simp;omega
   have CJ:((((m.fL t).aM (ag p.vars b m.cells).1 (ag p.vars b m.cells).2 (bf b)).put (ins 9 0 0 0 0) 0).lead (m.out.length+t.1.length:Nat)).cells=(ag p.vars b m.cells).2:=rfl;have Tk:((((m.fL t).aM (ag p.vars b m.cells).1 (ag p.vars b m.cells).2 (bf b)).put (ins 9 0 0 0 0) 0).lead (m.out.length+t.1.length:Nat)).ex.length=m.ex.length:=by
    show (gI m.ex _).length=_;simp
   have hMm:0≤((((m.fL t).aM (ag p.vars b m.cells).1 (ag p.vars b m.cells).2 (bf b)).put (ins 9 0 0 0 0) 0).lead (m.out.length+t.1.length:Nat)).most:=by
    simp[Mk.lead,Mk.put,Mk.aM];omega
   have e5:m.de (t::tr) ((ag p.vars b m.cells).1::(au p.vars br (ag p.vars b m.cells).2).1) (au p.vars br (ag p.vars b m.cells).2).2 (max (dt (t::tr)) (bW (b::br)))=((((m.fL t).aM (ag p.vars b m.cells).1 (ag p.vars b m.cells).2 (bf b)).put (ins 9 0 0 0 0) 0).lead (m.out.length+t.1.length:Nat)).de tr (au p.vars br (ag p.vars b m.cells).2).1 (au p.vars br (ag p.vars b m.cells).2).2 (max (dt tr) (bW br)):=by
    rw[e2];exact tv (by simp only[dt,bW];omega)
   have ih:=It gx jl CH HT HB HC k Q hx br (bp++[b]) tr (tp++[t]) ((((m.fL t).aM (ag p.vars b m.cells).1 (ag p.vars b m.cells).2 (bf b)).put (ins 9 0 0 0 0) 0).lead (m.out.length+t.1.length:Nat)) (E++[((m.out.length+t.1.length+1+(ag p.vars b m.cells).1.length:Nat):Int)]) v1 v2 v3 ve (by simp[h1]) (by simp[h2]) (.inl (by simp[h3])) hMm (by rw[CJ];omega) ((((((hI.az _ _).put _ _).aM _ _ _).put _ _).lead _)) (fun h=>by
    intro h0;have:=Tk;rw[h0]at this;have h9:=hex h;cases Tl:m.ex with
    |nil=>exact h9 Tl
    |cons _ _=>rw[Tl]at this;simp at this) (by rw[hM,CJ];omega) (by rw[CJ];omega) (fun b hb=>by rw[Tk];exact fE b hb) (by simp at hE⊢;omega)
   rw[hM,CJ]at ih;simp only
   rw[e5,e3,CI,u4];have e6:E++((m.out.length+t.1.length+1+(ag p.vars b m.cells).1.length:Nat):Int)::fu (m.out.length+t.1.length+2+(ag p.vars b m.cells).1.length) (dk tr) (au p.vars br (ag p.vars b m.cells).2).1=E++[((m.out.length+t.1.length+1+(ag p.vars b m.cells).1.length:Nat):Int)]++fu (m.out.length+t.1.length+2+(ag p.vars b m.cells).1.length) (dk tr) (au p.vars br (ag p.vars b m.cells).2).1:=by simp
   rw[e6];simpa using ih
end
theorem CK:∀(n:Nat)(ts bs:List (List ar)),∀i∈fu n ts bs,∃k:Nat,i=k∧k<n+(jE 0 n ts bs).length
 |_,_,[],i,h=>by simp[fu]at h
 |n,[],b::r,i,h=>by
  simp only[fu,jE]at h⊢;by_cases hr:r=[]
  ·rw[if_pos hr]at h;simp at h
  ·rw[if_neg hr]at h⊢;rcases List.mem_cons.1 h with rfl|h
   ·exact⟨_,rfl,by simp⟩
   ·obtain⟨k,e,hk⟩:=CK (n+b.length+1) [] r i h;exact⟨k,e,by simp;omega⟩
 |n,t::ts,b::r,i,h=>by
  simp only[fu,jE]at h⊢;by_cases hr:r=[]
  ·rw[if_pos hr]at h;simp at h
  ·rw[if_neg hr]at h⊢;rcases List.mem_cons.1 h with rfl|h
   ·exact⟨_,rfl,by simp;omega⟩
   ·obtain⟨k,e,hk⟩:=CK (n+t.length+2+b.length) ts r i h;exact⟨k,e,by simp;omega⟩
theorem nJ{m:Mk}{ts:List (List ar×Int)}{bs:List (List ar)}{c t:Int}(hf:∀x∈dk ts,Flat x):(m.de ts bs c t).cx (fu m.out.length (dk ts) bs)=m.aM (cR (dk ts) bs) c t:=by
 unfold Mk.cx Mk.de Mk.aM;simp only[Mk.mk.injEq,true_and,and_true];refine⟨?_,by rw[CB (by decide) _ _ _ hf],by rw[CB (by decide) _ _ _ hf]⟩;have:=ZM (pre:=m.out) rfl (ts:=dk ts) (bs:=bs) hf;rw[←this];congr 1;simp[uY]
theorem zr:∀(n:Nat)(ts bs:List (List ar)),(fu n ts bs).length≤bs.length
 |_,_,[]=>by simp[fu]
 |n,[],b::r=>by
  simp only[fu];split
  ·simp
  ·have:=zr (n+b.length+1) [] r;simp;omega
 |n,t::ts,b::r=>by
  simp only[fu];split
  ·simp
  ·have:=zr (n+t.length+2+b.length) ts r;simp;omega
def Y1(p:Pg)(m:Mk)(s:Sm)(r:bP):Prop:=∃v1 v2 v3,r=some (.ret (.aU []),[(0,gH p m 0 3 4 5 v1 v2 v3),(0,.box [.ptr 0 0 0]),(0,bh s),(v1,.vec 5 (m.out.map da)),(v2,.vv (m.ex.map fI) none),(v3,.vec 1 (m.lv.map dw))])
def MkK(p:Pg)(m:Mk)(s:Sm)(q:Int)(r:bP):Prop:=∃v1 v2 v3,r=some (.ret (.aU []),[(0,gH p m 0 4 5 6 v1 v2 v3),(0,.box [.ptr 0 0 0]),(0,bh s),(0,.box [.d (.int .i64 q)]),(v1,.vec 5 (m.out.map da)),(v2,.vv (m.ex.map fI) none),(v3,.vec 1 (m.lv.map dw))])
section
variable {p:Pg} {lp:Bool}
theorem P4{s:Sm}{blocks:List (List Sm)}{ts:List (List ar×Int)}(gx:blocks.length<99999980)(jl:ts.length≤blocks.length)(CH:blocks.length≤ts.length+1)(iC:∀x∈dk ts,Flat x)
 (HT:∀(i:Nat)(t:List ar×Int),ts[i]?=some t→∀m:Mk,0≤m.most→m.out.length+t.1.length<99999990→ET p (m.az t.1 t.2) 1 s (.ret (.aU [])) (ai ctx 136 [.d (.int .i64 i),.ptr 0 0 0,.ptr 1 0 0] [.box [.ptr 2 0 0],bh s,gH p m 0 3 4 5 0 0 0,.vec 5 (m.out.map da),.vv (m.ex.map fI) none,.vec 1 (m.lv.map dw)]))
 (HB:∀b∈blocks,sm p lp b) (HC:∀b∈blocks,∀c,0≤c→c≤(ag p.vars b c).2) (m:Mk) (hm:0≤m.most) (hc:0≤m.cells) (hI:ik m) (hex:lp=true→m.ex≠[])
 (ho:m.out.length+(cR (dk ts) (au p.vars blocks m.cells).1).length<99999990) (aO:(au p.vars blocks m.cells).2<99999990) (fE:∀b∈blocks,m.ex.length+il b<99999990):
 Y1 p (m.aM (cR (dk ts) (au p.vars blocks m.cells).1) (au p.vars blocks m.cells).2 (max (dt ts) (bW blocks))) s
  (ai ctx 135 [.ptr 0 0 0,.d (.list (blocks.map dc)),.d (.int .i64 ts.length),.fn 136 [.ptr 1 0 0,.ptr 2 0 0]] [gH p m 0 3 4 5 0 0 0,.box [.ptr 0 0 0],bh s,.vec 5 (m.out.map da),.vv (m.ex.map fI) none,.vec 1 (m.lv.map dw)]):=by
 have cP:=fun k Q hx v1 v2 v3 ve=>Iq (by omega) jl CH HT HB HC k Q hx blocks [] ts [] m [] v1 v2 v3 ve rfl rfl (.inl rfl) hm hc hI hex ho aO fE (by simp;omega);have hE:(fu m.out.length (dk ts) (au p.vars blocks m.cells).1).length<100000000:=by
  have:=zr m.out.length (dk ts) (au p.vars blocks m.cells).1;rw[tu]at this;omega
 have hlen:(m.de ts (au p.vars blocks m.cells).1 (au p.vars blocks m.cells).2 (max (dt ts) (bW blocks))).out.length<100000000:=by
  simp only[Mk.de,List.length_append,uY];omega
 have dz:Pl (m.de ts (au p.vars blocks m.cells).1 (au p.vars blocks m.cells).2 (max (dt ts) (bW blocks))).out.length (fu m.out.length (dk ts) (au p.vars blocks m.cells).1):=by
  intro i hi;obtain⟨k,e,hk⟩:=CK _ _ _ i hi;exact⟨k,e,by simpa [Mk.de]using hk⟩
 have kj:=th p (m.de ts (au p.vars blocks m.cells).1 (au p.vars blocks m.cells).2 (max (dt ts) (bW blocks))) 0 _ hE hlen dz;have x1:(m.de ts (au p.vars blocks m.cells).1 (au p.vars blocks m.cells).2 (max (dt ts) (bW blocks))).ex=(m.aM (cR (dk ts) (au p.vars blocks m.cells).1) (au p.vars blocks m.cells).2 (max (dt ts) (bW blocks))).ex:=by rw[←nJ iC];rfl
 have x2:(m.de ts (au p.vars blocks m.cells).1 (au p.vars blocks m.cells).2 (max (dt ts) (bW blocks))).lv=(m.aM (cR (dk ts) (au p.vars blocks m.cells).1) (au p.vars blocks m.cells).2 (max (dt ts) (bW blocks))).lv:=by rw[←nJ iC];rfl
 rw[nJ iC]at kj;generalize m.aM (cR (dk ts) (au p.vars blocks m.cells).1) (au p.vars blocks m.cells).2 (max (dt ts) (bW blocks))=M at*;generalize m.de ts (au p.vars blocks m.cells).1 (au p.vars blocks m.cells).2 (max (dt ts) (bW blocks))=N at*;generalize fu m.out.length (dk ts) (au p.vars blocks m.cells).1=E at*;rw[Ss (by simp)];simp[x1,x2]at kj;simp[Tryz.f135]at cP⊢;refine cP _ (fun X F r=>X=N→F=E→Y1 p M s r) (fun Y X F v1 v2 v3 ve hX hF=>?_) _ _ _ _ rfl rfl;subst hX hF;simp[Tryz.f135,kj,x1,x2];exact⟨_,_,_,rfl⟩
theorem P5{s:Sm}{q:Int}{blocks:List (List Sm)}{ts:List (List ar×Int)}(gx:blocks.length<99999980)(jl:ts.length≤blocks.length)(CH:blocks.length≤ts.length+1)(iC:∀x∈dk ts,Flat x)
 (HT:∀(i:Nat)(t:List ar×Int),ts[i]?=some t→∀m:Mk,0≤m.most→m.out.length+t.1.length<99999990→Ng p (m.az t.1 t.2) 1 s q (.ret (.aU [])) (ai ctx 208 [.d (.int .i64 i),.ptr 0 0 0,.ptr 1 0 0,.ptr 2 0 0] [.box [.ptr 3 0 0],bh s,.box [.d (.int .i64 q)],gH p m 0 4 5 6 0 0 0,.vec 5 (m.out.map da),.vv (m.ex.map fI) none,.vec 1 (m.lv.map dw)]))
 (HB:∀b∈blocks,sm p lp b) (HC:∀b∈blocks,∀c,0≤c→c≤(ag p.vars b c).2) (m:Mk) (hm:0≤m.most) (hc:0≤m.cells) (hI:ik m) (hex:lp=true→m.ex≠[])
 (ho:m.out.length+(cR (dk ts) (au p.vars blocks m.cells).1).length<99999990) (aO:(au p.vars blocks m.cells).2<99999990) (fE:∀b∈blocks,m.ex.length+il b<99999990):
 MkK p (m.aM (cR (dk ts) (au p.vars blocks m.cells).1) (au p.vars blocks m.cells).2 (max (dt ts) (bW blocks))) s q
  (ai ctx 135 [.ptr 0 0 0,.d (.list (blocks.map dc)),.d (.int .i64 ts.length),.fn 208 [.ptr 1 0 0,.ptr 2 0 0,.ptr 3 0 0]] [gH p m 0 4 5 6 0 0 0,.box [.ptr 0 0 0],bh s,.box [.d (.int .i64 q)],.vec 5 (m.out.map da),.vv (m.ex.map fI) none,.vec 1 (m.lv.map dw)]):=by
 have cP:=fun k Q hx v1 v2 v3 ve=>It (by omega) jl CH HT HB HC k Q hx blocks [] ts [] m [] v1 v2 v3 ve rfl rfl (.inl rfl) hm hc hI hex ho aO fE (by simp;omega);have hE:(fu m.out.length (dk ts) (au p.vars blocks m.cells).1).length<100000000:=by
  have:=zr m.out.length (dk ts) (au p.vars blocks m.cells).1;rw[tu]at this;omega
 have hlen:(m.de ts (au p.vars blocks m.cells).1 (au p.vars blocks m.cells).2 (max (dt ts) (bW blocks))).out.length<100000000:=by
  simp only[Mk.de,List.length_append,uY];omega
 have dz:Pl (m.de ts (au p.vars blocks m.cells).1 (au p.vars blocks m.cells).2 (max (dt ts) (bW blocks))).out.length (fu m.out.length (dk ts) (au p.vars blocks m.cells).1):=by
  intro i hi;obtain⟨k,e,hk⟩:=CK _ _ _ i hi;exact⟨k,e,by simpa [Mk.de]using hk⟩
 have kj:=th p (m.de ts (au p.vars blocks m.cells).1 (au p.vars blocks m.cells).2 (max (dt ts) (bW blocks))) 0 _ hE hlen dz;have x1:(m.de ts (au p.vars blocks m.cells).1 (au p.vars blocks m.cells).2 (max (dt ts) (bW blocks))).ex=(m.aM (cR (dk ts) (au p.vars blocks m.cells).1) (au p.vars blocks m.cells).2 (max (dt ts) (bW blocks))).ex:=by rw[←nJ iC];rfl
 have x2:(m.de ts (au p.vars blocks m.cells).1 (au p.vars blocks m.cells).2 (max (dt ts) (bW blocks))).lv=(m.aM (cR (dk ts) (au p.vars blocks m.cells).1) (au p.vars blocks m.cells).2 (max (dt ts) (bW blocks))).lv:=by rw[←nJ iC];rfl
 rw[nJ iC]at kj;generalize m.aM (cR (dk ts) (au p.vars blocks m.cells).1) (au p.vars blocks m.cells).2 (max (dt ts) (bW blocks))=M at*;generalize m.de ts (au p.vars blocks m.cells).1 (au p.vars blocks m.cells).2 (max (dt ts) (bW blocks))=N at*;generalize fu m.out.length (dk ts) (au p.vars blocks m.cells).1=E at*;rw[Ss (by simp)];simp[x1,x2]at kj;simp[Tryz.f135]at cP⊢;refine cP _ (fun X F r=>X=N→F=E→MkK p M s q r) (fun Y X F v1 v2 v3 ve hX hF=>?_) _ _ _ _ rfl rfl;subst hX hF;simp[Tryz.f135,kj,x1,x2];exact⟨_,_,_,rfl⟩
end
def Mk.CL(m:Mk)(t b:List ar)(c u:Int):Mk:=
 ⟨m.out++(ins 11 0 0 0 0::t++(ins 10 (m.out.length+t.length+3+b.length) 0 0 0::cF (m.out.length+t.length+2) b++[ins 9 m.out.length 0 0 0])),c,max m.most u,gI m.ex (cB (-1) (m.out.length+t.length+2) b),m.lv++cB (-2) (m.out.length+t.length+2) b⟩
def Mk.CM(m:Mk)(t b:List ar)(c u:Int):Mk:=
 ⟨m.out++(cF m.out.length b++(ins 11 0 0 0 0::t++[ins 10 m.out.length 0 0 0])),c,max m.most u,gI m.ex (cB (-1) m.out.length b),m.lv++cB (-2) m.out.length b⟩
section
variable {p:Pg} (bm:p.vars.length≤1000) (hf:∀v∈p.vars,dr v=true)
include bm hf
theorem aeL{to val:Ex}{b:List Sm}{line:Int}(fv:bk val=true)(ev:(aF p.vars val).e=0)(hB:sm p true b)(m:Mk)(hm:0≤m.most)(hc:0≤m.cells)(hI:ik m)(hex:m.ex≠[])
 (hl:m.out.length+(ak p.vars val).1.length+(ag p.vars b m.cells).1.length+3<99999990) (aO:(ag p.vars b m.cells).2<99999990) (fE:m.ex.length+il b<99999990):
 ET p (m.CL (ak p.vars val).1 (ag p.vars b m.cells).1 (ag p.vars b m.cells).2 (max (aL 0 val) (bf b))) 0 (.mk 5 [] to val [] [] [] [b] line) (.ret (.aU [])) (ai ctx 211 [.ptr 0 0 0,.ptr 1 0 0] [.box [.ptr 2 0 0],bh (.mk 5 [] to val [] [] [] [b] line),gH p m 0 3 4 5 0 0 0,.vec 5 (m.out.map da),.vv (m.ex.map fI) none,.vec 1 (m.lv.map dw)]):=by
 have g0:=CC p m 0;obtain⟨a1,a2,a3,g1⟩:=lV p m 0 (by omega) (by decide);have l1:(m.put (ins 11 0 0 0 0) 0).out.length=m.out.length+1:=by simp[Mk.put]
 obtain⟨b1,b2,b3,g2⟩:=kS bm hf val fv ev (m.put (ins 11 0 0 0 0) 0) 0 (by omega) (by omega) (by simp[Mk.put];omega) (by rw[l1];omega);have l2:((m.put (ins 11 0 0 0 0) 0).az (ak p.vars val).1 (aL 0 val)).out.length=m.out.length+1+(ak p.vars val).1.length:=by
  show ((m.put (ins 11 0 0 0 0) 0).out++_).length=_;rw[List.length_append,l1]
 obtain⟨c1,c2,c3,g3⟩:=we p ((m.put (ins 11 0 0 0 0) 0).az (ak p.vars val).1 (aL 0 val)) 1 0 (by rw[l2];omega) (by decide);rw[show (1:Int)+ -1=0 by omega]at g3;have l3:(((m.put (ins 11 0 0 0 0) 0).az (ak p.vars val).1 (aL 0 val)).put (ins 10 0 0 0 0) 0).out.length=m.out.length+(ak p.vars val).1.length+2:=by
  show (((m.put (ins 11 0 0 0 0) 0).az (ak p.vars val).1 (aL 0 val)).out++_).length=_;rw[List.length_append,l2];simp;omega
 obtain⟨d1,d2,d3,g4⟩:=hB (((m.put (ins 11 0 0 0 0) 0).az (ak p.vars val).1 (aL 0 val)).put (ins 10 0 0 0 0) 0) (by simp[Mk.put,Mk.az];omega) hc (((hI.put _ _).az _ _).put _ _) (fun _=>hex) (by rw[l3];show _+(ag p.vars b m.cells).1.length<_;omega) (by show (ag p.vars b m.cells).2<_;omega) (by show m.ex.length+_<_;omega);have l4:((((m.put (ins 11 0 0 0 0) 0).az (ak p.vars val).1 (aL 0 val)).put (ins 10 0 0 0 0) 0).aM (ag p.vars b m.cells).1 (ag p.vars b m.cells).2 (bf b)).out.length=m.out.length+(ak p.vars val).1.length+2+(ag p.vars b m.cells).1.length:=by
  show ((((m.put (ins 11 0 0 0 0) 0).az (ak p.vars val).1 (aL 0 val)).put (ins 10 0 0 0 0) 0).out++cF _ _).length=_;rw[List.length_append,l3,mh]
 obtain⟨e1,e2,e3,g5⟩:=CD p ((((m.put (ins 11 0 0 0 0) 0).az (ak p.vars val).1 (aL 0 val)).put (ins 10 0 0 0 0) 0).aM (ag p.vars b m.cells).1 (ag p.vars b m.cells).2 (bf b)) 0 m.out.length (by rw[l4];omega) (by decide);have l5:(((((m.put (ins 11 0 0 0 0) 0).az (ak p.vars val).1 (aL 0 val)).put (ins 10 0 0 0 0) 0).aM (ag p.vars b m.cells).1 (ag p.vars b m.cells).2 (bf b)).put (ins 9 m.out.length 0 0 0) 0).out.length=m.out.length+(ak p.vars val).1.length+3+(ag p.vars b m.cells).1.length:=by
  show (((((m.put (ins 11 0 0 0 0) 0).az (ak p.vars val).1 (aL 0 val)).put (ins 10 0 0 0 0) 0).aM (ag p.vars b m.cells).1 (ag p.vars b m.cells).2 (bf b)).out++_).length=_;rw[List.length_append,l4];simp;omega
 have g6:=qj p (((((m.put (ins 11 0 0 0 0) 0).az (ak p.vars val).1 (aL 0 val)).put (ins 10 0 0 0 0) 0).aM (ag p.vars b m.cells).1 (ag p.vars b m.cells).2 (bf b)).put (ins 9 m.out.length 0 0 0) 0) 0 (m.out.length+1+(ak p.vars val).1.length) (by rw[l5];omega) (by rw[l5];omega);have eP:(((((m.put (ins 11 0 0 0 0) 0).az (ak p.vars val).1 (aL 0 val)).put (ins 10 0 0 0 0) 0).aM (ag p.vars b m.cells).1 (ag p.vars b m.cells).2 (bf b)).put (ins 9 m.out.length 0 0 0) 0).lead (m.out.length+1+(ak p.vars val).1.length:Nat)=m.CL (ak p.vars val).1 (ag p.vars b m.cells).1 (ag p.vars b m.cells).2 (max (aL 0 val) (bf b)):=by
  unfold Mk.lead;rw[l5];unfold Mk.CL Mk.aM;rw[l3];simp only[Mk.put,Mk.az,Mk.mk.injEq,true_and,and_true];refine⟨?_,by have:=kW 0 val;omega⟩;have:=wh m.out (ins 11 0 0 0 0::(ak p.vars val).1) (cF (m.out.length+(ak p.vars val).1.length+2) (ag p.vars b m.cells).1++[ins 9 m.out.length 0 0 0]) (ins 10 0 0 0 0) ((m.out.length+(ak p.vars val).1.length+3+(ag p.vars b m.cells).1.length:Nat):Int) ((m.out.length+1+(ak p.vars val).1.length:Nat):Int) (by simp;omega);have e3:m.out++[ins 11 0 0 0 0]++(ak p.vars val).1++[ins 10 0 0 0 0]++cF (m.out.length+(ak p.vars val).1.length+2) (ag p.vars b m.cells).1++[ins 9 m.out.length 0 0 0]=m.out++(ins 11 0 0 0 0::(ak p.vars val).1)++ins 10 0 0 0 0::(cF (m.out.length+(ak p.vars val).1.length+2) (ag p.vars b m.cells).1++[ins 9 m.out.length 0 0 0]):=by simp
  rw[e3,this];simp[ins]
 rw[l2]at g3;rw[eP]at g6;generalize m.CL (ak p.vars val).1 (ag p.vars b m.cells).1 (ag p.vars b m.cells).2 (max (aL 0 val) (bf b))=M6 at*;generalize ((((m.put (ins 11 0 0 0 0) 0).az (ak p.vars val).1 (aL 0 val)).put (ins 10 0 0 0 0) 0).aM (ag p.vars b m.cells).1 (ag p.vars b m.cells).2 (bf b)).put (ins 9 m.out.length 0 0 0) 0=M5 at*;have g4:ai ctx 51 [.ptr 0 0 0,.d (.list (b.map b5))] (fJ p (((m.put (ins 11 0 0 0 0) 0).az (ak p.vars val).1 (aL 0 val)).put (ins 10 0 0 0 0) 0) 0)=some (.ret (.aU []),Na p ((((m.put (ins 11 0 0 0 0) 0).az (ak p.vars val).1 (aL 0 val)).put (ins 10 0 0 0 0) 0).aM (ag p.vars b m.cells).1 (ag p.vars b m.cells).2 (bf b)) 0 d1 d2 d3):=g4;generalize (((m.put (ins 11 0 0 0 0) 0).az (ak p.vars val).1 (aL 0 val)).put (ins 10 0 0 0 0) 0).aM (ag p.vars b m.cells).1 (ag p.vars b m.cells).2 (bf b)=M4 at*;generalize ((m.put (ins 11 0 0 0 0) 0).az (ak p.vars val).1 (aL 0 val)).put (ins 10 0 0 0 0) 0=M3 at*;generalize (m.put (ins 11 0 0 0 0) 0).az (ak p.vars val).1 (aL 0 val)=M2 at*;generalize m.put (ins 11 0 0 0 0) 0=M1 at*;rw[Sx (by simp)];simp at g0 g1 g2 g3 g4 g5 g6;simp[Tryz.f211,aq,dc,g0,g1,g2,g3,g4,g5,g6];exact⟨_,_,_,rfl⟩
theorem aeM{to val:Ex}{b:List Sm}{line:Int}(fv:bk val=true)(ev:(aF p.vars val).e=0)(hB:sm p true b)(m:Mk)(hm:0≤m.most)(hc:0≤m.cells)(hI:ik m)(hex:m.ex≠[])
 (hl:m.out.length+(ak p.vars val).1.length+(ag p.vars b m.cells).1.length+2<99999990) (aO:(ag p.vars b m.cells).2<99999990) (fE:m.ex.length+il b<99999990):
 ET p (m.CM (ak p.vars val).1 (ag p.vars b m.cells).1 (ag p.vars b m.cells).2 (max (aL 0 val) (bf b))) 0 (.mk 6 [] to val [] [] [] [b] line) (.ret (.aU [])) (ai ctx 211 [.ptr 0 0 0,.ptr 1 0 0] [.box [.ptr 2 0 0],bh (.mk 6 [] to val [] [] [] [b] line),gH p m 0 3 4 5 0 0 0,.vec 5 (m.out.map da),.vv (m.ex.map fI) none,.vec 1 (m.lv.map dw)]):=by
 have g0:=CC p m 0;obtain⟨d1,d2,d3,g1⟩:=hB m hm hc hI (fun _=>hex) (by omega) (by omega) (by omega);have l1:(m.aM (ag p.vars b m.cells).1 (ag p.vars b m.cells).2 (bf b)).out.length=m.out.length+(ag p.vars b m.cells).1.length:=by
  show (m.out++cF _ _).length=_;rw[List.length_append,mh]
 obtain⟨a1,a2,a3,g2⟩:=lV p (m.aM (ag p.vars b m.cells).1 (ag p.vars b m.cells).2 (bf b)) 0 (by rw[l1];omega) (by decide);have l2:((m.aM (ag p.vars b m.cells).1 (ag p.vars b m.cells).2 (bf b)).put (ins 11 0 0 0 0) 0).out.length=m.out.length+(ag p.vars b m.cells).1.length+1:=by
  show ((m.aM (ag p.vars b m.cells).1 (ag p.vars b m.cells).2 (bf b)).out++_).length=_;rw[List.length_append,l1];rfl
 obtain⟨b1,b2,b3,g3⟩:=kS bm hf val fv ev ((m.aM (ag p.vars b m.cells).1 (ag p.vars b m.cells).2 (bf b)).put (ins 11 0 0 0 0) 0) 0 (by omega) (by omega) (by simp[Mk.put,Mk.aM];omega) (by rw[l2];omega);have l3:(((m.aM (ag p.vars b m.cells).1 (ag p.vars b m.cells).2 (bf b)).put (ins 11 0 0 0 0) 0).az (ak p.vars val).1 (aL 0 val)).out.length=m.out.length+(ag p.vars b m.cells).1.length+1+(ak p.vars val).1.length:=by
  show (((m.aM (ag p.vars b m.cells).1 (ag p.vars b m.cells).2 (bf b)).put (ins 11 0 0 0 0) 0).out++_).length=_;rw[List.length_append,l2]
 obtain⟨c1,c2,c3,g4⟩:=we p (((m.aM (ag p.vars b m.cells).1 (ag p.vars b m.cells).2 (bf b)).put (ins 11 0 0 0 0) 0).az (ak p.vars val).1 (aL 0 val)) 1 m.out.length (by rw[l3];omega) (by decide);rw[show (1:Int)+ -1=0 by omega]at g4;have eP:(((m.aM (ag p.vars b m.cells).1 (ag p.vars b m.cells).2 (bf b)).put (ins 11 0 0 0 0) 0).az (ak p.vars val).1 (aL 0 val)).put (ins 10 m.out.length 0 0 0) 0=m.CM (ak p.vars val).1 (ag p.vars b m.cells).1 (ag p.vars b m.cells).2 (max (aL 0 val) (bf b)):=by
  unfold Mk.CM Mk.aM;simp only[Mk.put,Mk.az,Mk.mk.injEq,true_and,and_true];exact⟨by simp,by have:=kW 0 val;omega⟩
 rw[eP]at g4;generalize m.CM (ak p.vars val).1 (ag p.vars b m.cells).1 (ag p.vars b m.cells).2 (max (aL 0 val) (bf b))=M4 at*;clear eP;generalize ((m.aM (ag p.vars b m.cells).1 (ag p.vars b m.cells).2 (bf b)).put (ins 11 0 0 0 0) 0).az (ak p.vars val).1 (aL 0 val)=M3 at*;generalize (m.aM (ag p.vars b m.cells).1 (ag p.vars b m.cells).2 (bf b)).put (ins 11 0 0 0 0) 0=M2 at*;generalize m.aM (ag p.vars b m.cells).1 (ag p.vars b m.cells).2 (bf b)=M1 at*;rw[Sx (by simp)];simp at g0 g1 g2 g3 g4;simp[Tryz.f211,aq,dc,g0,g1,g2,g3,g4];exact⟨_,_,_,rfl⟩
end
end Go.Am
end

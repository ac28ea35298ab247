/-
  Texts of one proof, one behind the other.
-/
import Derived.Test.YtdjlcobfpppbbaaGreatDoorR5
set_option linter.all false
section
namespace Go.Am
open Go
def Kp(vs:List Vr)(x y:Ex):Prop:=bk y=true∧eJ y=true∧aF vs y=aF vs x∧jG y=jG x
theorem Tf{vs:List Vr}{y:Ex}{p:Int×Bool}(h:jl y=some p)(hf:bk y=true)(hl:eJ y=true)(he:(aF vs y).e=0):
 aF vs y=eP (if p.2=true then 2 else 1)∧(-9223372036854775808≤p.1∧p.1≤9223372036854775807):=by
 obtain⟨op,n,name,field,sub,line⟩:=y;simp only[eJ,Bool.and_eq_true,decide_eq_true_eq]at hl;by_cases h1:op=1
 ·simp only[jl,mZ,uS,h1,if_true,Option.some.injEq]at h;subst h;simp[aF,h1,hl.1]
 ·by_cases h2:op=2
  ·simp only[jl,mZ,uS,h1,h2,if_false,if_true,Option.some.injEq,Int.reduceEq]at h;subst h;simp[aF,h2,hl.1]
  ·by_cases h6:op=6
   ·simp only[jl,mZ,uS,m4,h6,if_false,if_true,Int.reduceEq]at h;split at h
    ·rename_i z;split at h
     ·rename_i hz;cases h;obtain⟨op',n',av5,auu,yI,av6⟩:=z;simp only[mZ]at hz;subst hz h6;simp only[en,eJ,Bool.and_true,Bool.and_eq_true,decide_eq_true_eq]at hl;have hn:0≤n':=by
       simp[bk,bA,dJ]at hf;omega
      have hg:=Td (n:=n') ⟨by omega,by omega⟩;refine⟨?_,?_⟩
      ·simp[aF,qQ,cg,eP,gd,gH]
      ·simp only[uS,hg];omega
     ·cases h
    ·cases h
   ·simp only[jl,mZ,h1,h2,h6,if_false]at h;cases h
theorem Nf:∀{l:List Ex}{ps:List (Int×Bool)},ng l=some ps→ps.length=l.length∧∀(i:Nat) y p,l[i]?=some y→ps[i]?=some p→jl y=some p
 |[],ps,h=>by simp only[ng]at h;cases h;exact⟨rfl,fun i y p h=>by simp at h⟩
 |x::r,ps,h=>by
  simp only[ng]at h;split at h
  ·rename_i p hp;split at h
   ·rename_i l hl;cases h;obtain⟨i1,i2⟩:=Nf hl;refine⟨by simp[i1],fun i y q hy hq=>?_⟩;cases i with
    |zero=>simp at hy hq;subst hy hq;exact hp
    |succ i=>simp at hy hq;exact i2 i y q hy hq
   ·cases h
  ·cases h
theorem ZW(vs:List Vr){n:Int}{t:Bool}{line:Int}(h:t=true→n=0∨n=1)(hi: -9223372036854775808≤n∧n≤9223372036854775807)(hm:¬(t=false∧n= -9223372036854775808)):
 bk (lF n t line)=true∧eJ (lF n t line)=true∧aF vs (lF n t line)=eP (if t=true then 2 else 1)∧jG (lF n t line)=line:=by
 unfold lF;cases t with
 |true=>
  have:=h rfl;refine⟨?_,?_,?_,?_⟩
  ·simp[bk,bA,dJ];omega
  ·simp[eJ,en];omega
  ·simp[aF]
  ·simp
 |false=>
  simp only[Bool.false_eq_true,if_false];split
  ·rename_i h0;refine⟨?_,?_,?_,?_⟩
   ·simp[bk,bA,dJ];omega
   ·simp[eJ,en];omega
   ·simp[aF]
   ·simp
  ·rename_i h0;have hn:n≠ -9223372036854775808:=fun e=>hm ⟨rfl,e⟩;have hg:=Td (n:=n) ⟨by omega,by omega⟩;refine⟨?_,?_,?_,?_⟩
   ·simp[bk,bA,dJ,hg];omega
   ·simp[eJ,en,hg];omega
   ·simp[aF,qQ,cg,eP,gd,gH]
   ·simp
theorem aey{vs:List Vr}{x:Ex}(hf:bk x=true)(hl:eJ x=true)(he:(aF vs x).e=0):Kp vs x (kM x):=by
 have self:Kp vs x x:=⟨hf,hl,rfl,rfl⟩;unfold kM;split
 ·exact self
 ·rename_i hc;split
  ·exact self
  ·rename_i l aO;split
   ·exact self
   ·rename_i r cU;split
    ·exact self
    ·rename_i hr;simp only[not_or,Int.not_lt]at hc hr;obtain⟨op,n,name,field,sub,line⟩:=x;simp only[mZ,m4,RY]at hc aO cU⊢;obtain⟨k1,k2⟩:=Nf aO;have WU:=hf;simp only[bk,Bool.and_eq_true,decide_eq_true_eq]at WU;obtain⟨_,hlen,_,_,eQ⟩:=WU;have DQ:=hl;simp only[eJ,Bool.and_eq_true]at DQ;have VO:∀y∈sub,eJ y=true:=by
      have:∀l:List Ex,en l=true→∀y∈l,eJ y=true:=by
       intro l;induction l with
       |nil=>intro _ y hy;simp at hy
       |cons z l ih=>
        intro h y hy;simp only[en,Bool.and_eq_true]at h;rcases List.mem_cons.1 hy with rfl|hy
        ·exact h.1
        ·exact ih h.2 y hy
      exact this sub DQ.2
     have mz:aF vs (.mk op n name field sub line)=qQ vs op line sub:=by
      unfold aF;rw[if_neg (by omega),if_neg (by omega)]
     have nj:∀y∈sub,bk y=true:=(gj sub).1 eQ;have xe:∀y∈sub,(aF vs y).e=0:=by
      rw[mz]at he;intro y hy;match sub,hy,he,hlen with
      |[a],hy,he,_=>
       simp at hy;subst hy;exact (gW he).1
      |[a,b],hy,he,_=>
       simp at hy;rcases hy with rfl|rfl
       ·exact (gW he).1
       ·exact (gW he).2.1
      |a::b::c::d,hy,he,hlen=>
       exfalso;simp only[dJ]at hlen;split at hlen
       ·simp at hlen
       ·split at hlen<;>simp at hlen
     have jW:∀p∈l, -9223372036854775808≤p.1∧p.1≤9223372036854775807:=by
      intro p hp;obtain⟨i,hi⟩:=List.getElem?_of_mem hp;have bz:=(List.getElem?_eq_some_iff.1 hi).1;have hy:∃y,sub[i]?=some y:=⟨sub[i]'(by omega),by simp[show i<sub.length by omega]⟩
      obtain⟨y,hy⟩:=hy;have hm:=List.mem_of_getElem? hy;exact (Tf (k2 i y p hy hi) (nj y hm) (VO y hm) (xe y hm)).2
     obtain⟨q1,q2,q3⟩:=aex cU jW (by simpa using hr.1);have Zb:=ZW vs (n:=r.1) (t:=r.2.1) (line:=line) (by rw[q1];exact q2) q3 (fun h=>hr.2 h);refine⟨Zb.1,Zb.2.1,?_,by rw[Zb.2.2.2];rfl⟩;rw[Zb.2.2.1,q1,mz];rw[mz]at he;have key:qQ vs op line sub=eP (gH op):=by
      match sub,he,hlen with
      |[a],he,_=>exact (gW he).2.2.2.2
      |[a,b],he,_=>exact (gW he).2.2.2.2
      |[],he,hlen=>
       exfalso;simp only[dJ,List.length_nil]at hlen;split at hlen
       ·simp at hlen
       ·split at hlen
        ·simp at hlen
        ·omega
      |a::b::c::d,he,hlen=>
       exfalso;simp only[dJ]at hlen;split at hlen
       ·simp at hlen
       ·split at hlen<;>simp at hlen
     rw[key];unfold gH;by_cases h:op=6∨(8≤op∧op≤12)<;>simp[h]
theorem rz{op n:Int}{name field:Tx}{sub:List Ex}{line:Int}(h:bk (.mk op n name field sub line)=true):sub.length=dJ op∧bA sub=true:=by
 simp only[bk,Bool.and_eq_true,decide_eq_true_eq]at h;exact⟨h.2.1,h.2.2.2.2⟩
theorem u4{vs:List Vr}{op n:Int}{name field:Tx}{sub:List Ex}{line:Int}(hf:bk (.mk op n name field sub line)=true)(he:(aF vs (.mk op n name field sub line)).e=0):∀y∈sub,(aF vs y).e=0:=by
 obtain⟨hlen,_⟩:=rz hf;intro y hy;unfold aF at he;by_cases jX:op=1∨op=2
 ·have hs:sub=[]:=List.eq_nil_of_length_eq_zero (by rw[hlen];unfold dJ;rcases jX with h|h<;>subst h<;>decide);subst hs;simp at hy
 ·rw[if_neg jX]at he;by_cases pv:op=3∨op=4∨op=5
  ·rw[if_pos pv]at he;by_cases h4:op=4
   ·subst h4;obtain⟨z,rfl⟩:∃z,sub=[z]:=by
     match sub,hlen with
     |[z],_=>exact⟨z,rfl⟩
     |[],h=>simp[dJ]at h
     |_::_::_,h=>simp[dJ]at h
    simp at hy;subst hy;split at he
    ·simp[ck]at he
    ·rw[if_neg (by decide)]at he;split at he
     ·simp[ck]at he
     ·rw[if_pos rfl]at he;simp only[uT]at he;by_cases hz:(aF vs y).e=0
      ·exact hz
      ·rw[if_pos hz]at he;exact absurd he hz
   ·have hs:sub=[]:=List.eq_nil_of_length_eq_zero (by rw[hlen];unfold dJ;rw[if_neg (by omega),if_neg (by omega)]);subst hs;simp at hy
  ·rw[if_neg pv]at he;match sub,hy,he,hlen with
   |[a],hy,he,_=>
    simp at hy;subst hy;exact (gW he).1
   |[a,b],hy,he,_=>
    simp at hy;rcases hy with rfl|rfl
    ·exact (gW he).1
    ·exact (gW he).2.1
   |a::b::c::d,hy,he,hlen=>
    exfalso;simp only[dJ]at hlen;split at hlen
    ·simp at hlen
    ·split at hlen<;>simp at hlen
theorem ZX{op n:Int}{name field:Tx}{sub:List Ex}{line:Int}(h:eJ (.mk op n name field sub line)=true):(-9223372036854775808≤n∧n≤9223372036854775807)∧en sub=true:=by
 simp only[eJ,Bool.and_eq_true,decide_eq_true_eq]at h;exact h
theorem tu:∀l:List Ex,en l=true↔∀x∈l,eJ x=true
 |[]=>by simp[en]
 |x::r=>by simp[en,tu r]
section
variable {vs:List Vr}
theorem ZY{op n:Int}{name field:Tx}{sub yI:List Ex}{line:Int}(hl:yI.length=sub.length)(h:∀(i:Nat) x y,sub[i]?=some x→yI[i]?=some y→aF vs y=aF vs x∧jG y=jG x):
 aF vs (.mk op n name field yI line)=aF vs (.mk op n name field sub line):=by
 unfold aF;have hI:∀t,uT vs t yI=uT vs t sub:=by
  intro t;match sub,yI,hl,h with
  |[],[],_,_=>rfl
  |x::r,y::q,_,h=>
   obtain⟨h1,h2⟩:=h 0 x y rfl rfl;simp only[uT,h1,h2]
 have hO:qQ vs op line yI=qQ vs op line sub:=by
  match sub,yI,hl,h with
  |[],[],_,_=>rfl
  |[x],[y],_,h=>
   obtain⟨h1,h2⟩:=h 0 x y rfl rfl;simp only[qQ,h1]
  |x::x'::r,y::y'::q,_,h=>
   obtain⟨h1,_⟩:=h 0 x y rfl rfl;obtain⟨h2,_⟩:=h 1 x' y' rfl rfl;simp only[qQ,h1,h2]
 rw[hO];simp only[hI]
theorem CJ:∀x:Ex,bk x=true→eJ x=true→(aF vs x).e=0→Kp vs x (cY x)
 | .mk op n name field sub line,hf,hl,he=>by
  obtain⟨f1,f2⟩:=rz hf;obtain⟨l1,l2⟩:=ZX hl;have hs:=u4 hf he;have ih:∀y∈sub,Kp vs y (cY y):=fun y hy=>CJ y ((gj sub).1 f2 y hy) ((tu sub).1 l2 y hy) (hs y hy);have hlen:(cR sub).length=sub.length:=by rw[lZ];simp
  have nj:bk (.mk op n name field (cR sub) line)=true:=by
   have eQ:bA (cR sub)=true:=by
    rw[gj,lZ];intro y hy;obtain⟨z,hz,rfl⟩:=List.mem_map.1 hy;exact (ih z hz).1
   simp only[bk,Bool.and_eq_true]at hf⊢;refine⟨hf.1,?_,hf.2.2.1,hf.2.2.2.1,eQ⟩;rw[hlen];exact hf.2.1
  have VO:eJ (.mk op n name field (cR sub) line)=true:=by
   simp only[eJ,Bool.and_eq_true,decide_eq_true_eq];refine⟨l1,?_⟩;rw[tu,lZ];intro y hy;obtain⟨z,hz,rfl⟩:=List.mem_map.1 hy;exact (ih z hz).2.1
  have mz:aF vs (.mk op n name field (cR sub) line)=aF vs (.mk op n name field sub line):=by
   refine ZY hlen fun i x y hx hy=>?_;rw[lZ,List.getElem?_map,hx]at hy;cases hy;have:=ih x (List.mem_of_getElem? hx);exact this.2.2
  have:=aey (vs:=vs) nj VO (by rw[mz];exact he);obtain⟨k1,k2,k3,k4⟩:=this;exact⟨k1,k2,k3.trans mz,k4⟩
termination_by x=>SizeOf.sizeOf x
decreasing_by all_goals (simp_wf;have:=List.sizeOf_lt_of_mem hy;omega)
end
theorem bH{a b:EL}:(eX a b).1=0↔a.1=0∧b.1=0:=by
 unfold eX;by_cases h:a.1=0
 ·rw[if_neg (fun h'=>h' h)];simp[h]
 ·rw[if_pos h];simp[h]
theorem gX{vs:List Vr}{x:Ex}{t:Int}:(dn vs x t).1=0↔(aF vs x).e=0∧(aF vs x).t=t:=by
 unfold dn;by_cases h:(aF vs x).e=0
 ·rw[if_neg (fun h'=>h' h)];by_cases h2:(aF vs x).t=t
  ·rw[if_neg (fun h'=>h' h2)];simp[h,h2]
  ·rw[if_pos h2];simp[h2]
 ·rw[if_pos h];simp[h]
theorem Ng{x:Ex}(h:dK x=true):cY x=x:=by
 obtain⟨op,n,name,field,sub,line⟩:=x;simp only[dK,mZ,uS,yz,Hr,m4,Bool.and_eq_true]at h;obtain⟨h1,h2,h3⟩:=h;have h1:op=0:=of_decide_eq_true h1;have h3:=of_decide_eq_true h3;have hs:sub=[]:=List.eq_nil_of_length_eq_zero (by omega);subst h1 hs;simp[cY,cR,kM]
theorem aez{op n:Int}{name field:Tx}{sub:List Ex}{line:Int}(h:op<6):cY (.mk op n name field sub line)=.mk op n name field (cR sub) line:=by
 show kM _=_;unfold kM;rw[if_pos (.inl (by simpa using h))]
section
variable {vs:List Vr}
theorem rA{x:Ex}{t:Int}(hf:bk x=true)(hl:eJ x=true)(h:(dn vs x t).1=0):bk (cY x)=true∧eJ (cY x)=true∧(dn vs (cY x) t).1=0:=by
 obtain⟨h1,h2⟩:=gX.1 h;obtain⟨k1,k2,k3,_⟩:=CJ x hf hl h1;exact⟨k1,k2,gX.2 (by rw[k3];exact⟨h1,h2⟩)⟩
theorem H8{t:Int}:∀l:List Ex,bA l=true→en l=true→(jH vs t l).1=0→bA (cR l)=true∧en (cR l)=true∧(jH vs t (cR l)).1=0
 |[],_,_,_=>⟨rfl,rfl,rfl⟩
 |x::r,hf,hl,h=>by
  simp only[bA,en,Bool.and_eq_true]at hf hl;obtain⟨h1,h2⟩:=bH.1 h;obtain⟨a1,a2,a3⟩:=rA hf.1 hl.1 h1;obtain⟨b1,b2,b3⟩:=H8 r hf.2 hl.2 h2;simp only[cR,bA,en,Bool.and_eq_true];exact⟨⟨a1,b1⟩,⟨a2,b2⟩,bH.2 ⟨a3,b3⟩⟩
theorem Nh{k line:Int}:∀(fs:List Tx)(xs:List Ex)(p:List Tx),xs.length=fs.length→bA xs=true→en xs=true→(gQ vs k line fs xs p).1=0→bA (cR xs)=true∧en (cR xs)=true∧(gQ vs k line fs (cR xs) p).1=0
 |[],[],p,_,_,_,_=>⟨rfl,rfl,rfl⟩
 |f::fs,x::xs,p,hlen,hf,hl,h=>by
  simp only[bA,en,Bool.and_eq_true]at hf hl;unfold gQ at h;simp only[cR,bA,en,Bool.and_eq_true];unfold gQ;cases hp:jS k f with
  |none=>rw[hp]at h;simp at h
  |some q=>
   rw[hp]at h;simp only at h⊢;split at h
   ·simp at h
   ·rename_i h1;split at h
    ·simp at h
    ·rename_i h2;obtain⟨h3,h4⟩:=bH.1 h;obtain⟨a1,a2,a3⟩:=rA hf.1 hl.1 h3;obtain⟨b1,b2,b3⟩:=Nh fs xs (p++[f]) (by simpa using hlen) hf.2 hl.2 h4;rw[if_neg h1,if_neg h2];exact⟨⟨a1,b1⟩,⟨a2,b2⟩,bH.2 ⟨a3,b3⟩⟩
 |[],_::_,_,hl,_,_,_=>by simp at hl
 |_::_,[],_,hl,_,_,_=>by simp at hl
theorem H9:∀l:List (List Sm),(gO l).length=l.length
 |[]=>rfl
 |b::r=>by simp[gO,H9 r]
theorem VP(l:List Ex):(cR l).length=l.length:=by rw[lZ];simp
theorem VQ{x:Ex}(h:bk x=true):dK x=false:=by
 obtain⟨op,n,name,field,sub,line⟩:=x;simp only[bk,Bool.and_eq_true,Bool.not_eq_true',decide_eq_false_iff_not]at h;have:op≠0:=by
  intro e;apply h.1;omega
 simp[dK,this]
theorem aiw{to val:Ex}{line:Int}(h3:bW to=3∨bW to=4)(f1:bk to=true)(f2:bk val=true)(l1:eJ to=true)(l2:eJ val=true)(h:(Ae vs to val line).1=0):
 (bk (cY to)=true∧bk (cY val)=true)∧(eJ (cY to)=true∧eJ (cY val)=true)∧(Ae vs (cY to) (cY val) line).1=0∧bW (cY to)=bW to:=by
 have cC:cY to=.mk (bW to) (ic to) (dA to) (fq to) (cR (cN to)) (jG to):=by
  obtain⟨op,n,name,field,sub,l⟩:=to;simp only[mZ]at h3;exact aez (by omega)
 have ha:dA (cY to)=dA to:=by rw[cC];rfl
 have ho:bW (cY to)=bW to:=by rw[cC];rfl
 unfold Ae at h⊢;rw[ha];cases hv:aZ vs (dA to)with
 |none=>rw[hv]at h;simp at h
 |some v=>
  rw[hv]at h;simp only at h⊢;split at h
  ·simp at h
  ·rename_i hs;rw[if_neg hs];obtain⟨q1,q2⟩:=bH.1 h;obtain⟨q2,q3⟩:=bH.1 q2;obtain⟨a1,a2,a3,_⟩:=CJ to f1 l1 q1;obtain⟨b1,b2,b3,_⟩:=CJ val f2 l2 q2;refine⟨⟨a1,b1⟩,⟨a2,b2⟩,?_,ho⟩;rw[a3,b3];exact h
end
section
variable {vs:List Vr}
mutual
theorem aeA(loops:Bool):∀s:Sm,iH s=true→oA s=true→(jk vs loops s).1=0→iH (oV s)=true∧oA (oV s)=true∧(jk vs loops (oV s)).1=0
 | .mk op name to val conds labels fields blocks line,hf,hl,h=>by
  simp only[iH,Bool.and_eq_true,decide_eq_true_eq]at hf;obtain⟨cU,eO,cC,cm,ej,bJ,rB,rC,dI⟩:=hf;simp only[oA,Bool.and_eq_true]at hl;obtain⟨lto,Ia,Ib,ZZ,u5⟩:=hl
  --ak9 arw to be shown,from its parts
  have fin:(if op=1 then decide (bW (cY to)=3∨bW (cY to)=4)&&bk (cY to)else dK (cY to))=true→
   (if op=1∨op=3∨op=5∨op=6 then !dK (cY val)&&bk (cY val)else dK (cY val))=true→bA (cR conds)=true→cB (gO blocks)=true→
   eJ (cY to)=true→eJ (cY val)=true→en (cR conds)=true→il (gO blocks)=true→
   (jk vs loops (.mk op name (cY to) (cY val) (cR conds) labels fields (gO blocks) line)).1=0→
   iH (oV (.mk op name to val conds labels fields blocks line))=true∧oA (oV (.mk op name to val conds labels fields blocks line))=true∧(jk vs loops (oV (.mk op name to val conds labels fields blocks line))).1=0:=by
   intro a1 a2 a3 a4 a5 a6 a7 a8 a9;simp only[oV,iH,oA,Bool.and_eq_true,decide_eq_true_eq,VP,H9];exact⟨⟨cU,eO,a1,a2,a3,bJ,rB,rC,a4⟩,⟨a5,a6,a7,ZZ,a8⟩,a9⟩
  have tn:¬op=1→(if op=1 then decide (bW (cY to)=3∨bW (cY to)=4)&&bk (cY to)else dK (cY to))=true∧eJ (cY to)=true:=by
   intro h1;rw[if_neg h1]at cC⊢;rw[Ng cC];exact⟨cC,lto⟩
  have vn:¬(op=1∨op=3∨op=5∨op=6)→(if op=1∨op=3∨op=5∨op=6 then !dK (cY val)&&bk (cY val)else dK (cY val))=true∧eJ (cY val)=true:=by
   intro h1;rw[if_neg h1]at cm⊢;rw[Ng cm];exact⟨cm,Ia⟩
  have vv:(op=1∨op=3∨op=5∨op=6)→bk (cY val)=true→(if op=1∨op=3∨op=5∨op=6 then !dK (cY val)&&bk (cY val)else dK (cY val))=true:=by
   intro h1 h2;rw[if_pos h1,VQ h2,h2];rfl
  have vf:(op=1∨op=3∨op=5∨op=6)→bk val=true:=by
   intro h1;rw[if_pos h1]at cm;simp only[Bool.and_eq_true]at cm;exact cm.2
  unfold jk at h;by_cases h1:op=1
  ·subst h1;rw[if_pos rfl]at h;have hs:bG 1 conds.length labels.length fields.length blocks.length=true:=bJ;simp[bG]at hs;obtain⟨rfl,_,_,rfl⟩:=hs;rw[if_pos rfl]at cC;simp only[Bool.and_eq_true,decide_eq_true_eq]at cC;obtain⟨⟨k1,k2⟩,⟨k3,k4⟩,k5,k6⟩:=aiw cC.1 cC.2 (vf (.inl rfl)) lto Ia h;refine fin (by rw[if_pos rfl,k6,k1];simp[cC.1]) (vv (.inl rfl) k2) rfl rfl k3 k4 rfl rfl ?_;unfold jk;rw[if_pos rfl];exact k5
  ·rw[if_neg h1]at h;obtain⟨t1,t2⟩:=tn h1;by_cases h2:op=2
   ·subst h2;rw[if_pos rfl]at h;have hs:bG 2 conds.length labels.length fields.length blocks.length=true:=bJ;simp[bG]at hs;obtain⟨v1,v2⟩:=vn (by decide);obtain⟨c1,c2,b1,b2,cb⟩:=CK loops conds blocks ej Ib dI u5 (by omega) h;refine fin t1 v1 c1 b1 t2 v2 c2 b2 ?_;unfold jk;rw[if_neg h1,if_pos rfl];exact cb
   ·rw[if_neg h2]at h;by_cases h3:op=3
    ·subst h3;rw[if_pos rfl]at h;have hs:bG 3 conds.length labels.length fields.length blocks.length=true:=bJ;simp[bG]at hs;obtain⟨rfl,_⟩:=hs;obtain⟨q1,q2⟩:=bH.1 h;obtain⟨v1,v2,v3⟩:=rA (vf (.inr (.inl rfl))) Ia q1;obtain⟨c1,c2,b1,b2,cb⟩:=CK loops [] blocks rfl rfl dI u5 (by simp) q2;refine fin t1 (vv (.inr (.inl rfl)) v1) rfl b1 t2 v2 rfl b2 ?_;unfold jk;rw[if_neg h1,if_neg h2,if_pos rfl];exact bH.2 ⟨v3,cb⟩
    ·rw[if_neg h3]at h;by_cases h4:op=4
     ·subst h4;rw[if_pos rfl]at h;have hs:bG 4 conds.length labels.length fields.length blocks.length=true:=bJ;simp[bG]at hs;obtain⟨_,_,_,fG⟩:=hs;obtain⟨v1,v2⟩:=vn (by decide);cases hv:aZ vs name with
      |none=>rw[hv]at h;simp at h
      |some v=>
       rw[hv]at h;simp only at h;split at h
       ·simp at h
       ·rename_i g1;split at h
        ·simp at h
        ·rename_i g2;obtain⟨q1,q2⟩:=bH.1 h;obtain⟨c1,c2,c3⟩:=H8 conds ej Ib q1;obtain⟨b1,b2,b3⟩:=Ic blocks dI u5 fG q2;refine fin t1 v1 c1 b1 t2 v2 c2 b2 ?_;unfold jk;rw[if_neg h1,if_neg h2,if_neg h3,if_pos rfl,hv];simp only
         rw[if_neg g1,if_neg g2];exact bH.2 ⟨c3,b3⟩
     ·rw[if_neg h4]at h;by_cases h5:op=5
      ·subst h5;rw[if_pos rfl]at h;have hs:bG 5 conds.length labels.length fields.length blocks.length=true:=bJ;simp[bG]at hs;obtain⟨rfl,_,_,fG⟩:=hs;obtain⟨q1,q2⟩:=bH.1 h;obtain⟨v1,v2,v3⟩:=rA (vf (.inr (.inr (.inl rfl)))) Ia q1;obtain⟨b1,b2,b3⟩:=Ic blocks dI u5 fG q2;refine fin t1 (vv (.inr (.inr (.inl rfl))) v1) rfl b1 t2 v2 rfl b2 ?_;unfold jk;rw[if_neg h1,if_neg h2,if_neg h3,if_neg h4,if_pos rfl];exact bH.2 ⟨v3,b3⟩
      ·rw[if_neg h5]at h;by_cases h6:op=6
       ·subst h6;rw[if_pos rfl]at h;have hs:bG 6 conds.length labels.length fields.length blocks.length=true:=bJ;simp[bG]at hs;obtain⟨rfl,_,_,fG⟩:=hs;obtain⟨q1,q2⟩:=bH.1 h;obtain⟨v1,v2,v3⟩:=rA (vf (.inr (.inr (.inr rfl)))) Ia q2;obtain⟨b1,b2,b3⟩:=Ic blocks dI u5 fG q1;refine fin t1 (vv (.inr (.inr (.inr rfl))) v1) rfl b1 t2 v2 rfl b2 ?_;unfold jk;rw[if_neg h1,if_neg h2,if_neg h3,if_neg h4,if_neg h5,if_pos rfl];exact bH.2 ⟨b3,v3⟩
       ·rw[if_neg h6]at h;obtain⟨v1,v2⟩:=vn (by omega);by_cases h7:op=7
        ·subst h7;rw[if_pos rfl]at h;have hs:bG 7 conds.length labels.length fields.length blocks.length=true:=bJ;simp[bG]at hs;obtain⟨rfl,_,_,rfl⟩:=hs;refine fin t1 v1 rfl rfl t2 v2 rfl rfl ?_;unfold jk;rw[if_neg h1,if_neg h2,if_neg h3,if_neg h4,if_neg h5,if_neg h6,if_pos rfl];exact h
        ·rw[if_neg h7]at h;by_cases h9:op=9
         ·subst h9;rw[if_pos rfl]at h;have hs:bG 9 conds.length labels.length fields.length blocks.length=true:=bJ;simp[bG]at hs;obtain⟨hcf,_,rfl⟩:=hs;cases hv:aZ vs name with
          |none=>rw[hv]at h;simp at h
          |some v=>
           rw[hv]at h;simp only at h;split at h
           ·simp at h
           ·rename_i g1;obtain⟨c1,c2,c3⟩:=Nh fields conds [] hcf ej Ib h;refine fin t1 v1 c1 rfl t2 v2 c2 rfl ?_;unfold jk;rw[if_neg h1,if_neg h2,if_neg h3,if_neg h4,if_neg h5,if_neg h6,if_neg h7,if_pos rfl,hv];simp only
            rw[if_neg g1];exact c3
         ·have h8:op=8:=by omega
          subst h8;have hs:bG 8 conds.length labels.length fields.length blocks.length=true:=bJ;simp[bG]at hs;obtain⟨rfl,_,_,rfl⟩:=hs;refine fin t1 v1 rfl rfl t2 v2 rfl rfl ?_;unfold jk;simp
theorem pw(loops:Bool):∀l:List Sm,eh l=true→iF l=true→(er vs loops l).1=0→eh (dr l)=true∧iF (dr l)=true∧(er vs loops (dr l)).1=0
 |[],_,_,_=>⟨rfl,rfl,rfl⟩
 |x::r,hf,hl,h=>by
  simp only[eh,iF,Bool.and_eq_true]at hf hl;obtain⟨h1,h2⟩:=bH.1 h;obtain⟨a1,a2,a3⟩:=aeA loops x hf.1 hl.1 h1;obtain⟨b1,b2,b3⟩:=pw loops r hf.2 hl.2 h2;simp only[dr,eh,iF,Bool.and_eq_true];exact⟨⟨a1,b1⟩,⟨a2,b2⟩,bH.2 ⟨a3,b3⟩⟩
theorem CK(loops:Bool):∀(cs:List Ex)(l:List (List Sm)),bA cs=true→en cs=true→cB l=true→il l=true→cs.length≤l.length→(fu vs loops cs l).1=0→
 bA (cR cs)=true∧en (cR cs)=true∧cB (gO l)=true∧il (gO l)=true∧(fu vs loops (cR cs) (gO l)).1=0
 |[],[],_,_,_,_,_,_=>⟨rfl,rfl,rfl,rfl,rfl⟩
 |[],b::r,c1,c2,hf,hl,_,h=>by
  simp only[cB,il,Bool.and_eq_true]at hf hl;obtain⟨h1,h2⟩:=bH.1 h;obtain⟨a1,a2,a3⟩:=pw loops b hf.1 hl.1 h1;obtain⟨_,_,b1,b2,b3⟩:=CK loops [] r rfl rfl hf.2 hl.2 (by simp) h2;simp only[cR,gO,bA,en,cB,il,Bool.and_eq_true];exact⟨trivial,trivial,⟨a1,b1⟩,⟨a2,b2⟩,bH.2 ⟨a3,b3⟩⟩
 |c::cs,b::r,c1,c2,hf,hl,hlen,h=>by
  simp only[cB,il,Bool.and_eq_true]at hf hl;simp only[bA,en,Bool.and_eq_true]at c1 c2;obtain⟨h0,h3⟩:=bH.1 h;obtain⟨h1,h2⟩:=bH.1 h3;obtain⟨q1,q2,q3⟩:=rA c1.1 c2.1 h0;obtain⟨a1,a2,a3⟩:=pw loops b hf.1 hl.1 h1;obtain⟨d1,d2,b1,b2,b3⟩:=CK loops cs r c1.2 c2.2 hf.2 hl.2 (by simpa using hlen) h2;simp only[cR,gO,bA,en,cB,il,Bool.and_eq_true];exact⟨⟨q1,d1⟩,⟨q2,d2⟩,⟨a1,b1⟩,⟨a2,b2⟩,bH.2 ⟨q3,bH.2 ⟨a3,b3⟩⟩⟩
 |_::_,[],_,_,_,_,hlen,_=>by simp at hlen
theorem Ic:∀(l:List (List Sm)),cB l=true→il l=true→l.length=1→(sm vs l).1=0→cB (gO l)=true∧il (gO l)=true∧(sm vs (gO l)).1=0
 |[b],hf,hl,_,h=>by
  simp only[cB,il,Bool.and_true]at hf hl;obtain⟨a1,a2,a3⟩:=pw true b hf hl h;simp only[gO,cB,il,Bool.and_true];exact⟨a1,a2,a3⟩
 |[],_,_,hl,_=>by simp at hl
 |_::_::_,_,_,hl,_=>by simp at hl
end
end
inductive MC(vs:List Vr)(lp:Bool):Sm→Prop
 |asg {to val:Ex} {line:Int} {v:Vr} (cC:bW to=3∨bW to=4) (hv:aZ vs (dA to)=some v) (hs:¬v.sec=1) (ft:bk to=true) (et:(aF vs to).e=0) (fv:bk val=true) (ev:(aF vs val).e=0) (h:(aF vs val).t=(aF vs to).t):MC vs lp (.mk 1 [] to val [] [] [] [] line)
 |cnd {to val:Ex} {conds:List Ex} {blocks:List (List Sm)} {line:Int} (cC:dK to=true) (cm:dK val=true) (fc:bA conds=true) (h1:1≤conds.length) (h2:conds.length≤blocks.length) (h3:blocks.length≤conds.length+1) (fb:cB blocks=true) (h:(fu vs lp conds blocks).1=0):MC vs lp (.mk 2 [] to val conds [] [] blocks line)
 |cas {to val:Ex} {labels:List (List Int)} {blocks:List (List Sm)} {line:Int} (cC:dK to=true) (fv:bk val=true) (wv:(dn vs val 1).1=0) (h2:labels.length≤blocks.length) (h3:blocks.length≤labels.length+1) (A9:labels.all pq=true) (fb:cB blocks=true) (h:(fu vs lp [] blocks).1=0):MC vs lp (.mk 3 [] to val [] labels [] blocks line)
 |cnt {name:Tx} {to val x y z:Ex} {b:List Sm} {line:Int} {v:Vr} (hn:da name=true) (cC:dK to=true) (cm:dK val=true) (hv:aZ vs name=some v) (hs:¬v.sec=1) (ha:v.arr=false) (ht:v.ty=1) (fx:bk x=true) (wx:(dn vs x 1).1=0) (fy:bk y=true) (wy:(dn vs y 1).1=0) (fz:bk z=true) (wz:(dn vs z 1).1=0) (fb:eh b=true) (h:(er vs true b).1=0):MC vs lp (.mk 4 name to val [x,y,z] [] [] [b] line)
 |whl {to val:Ex} {b:List Sm} {line:Int} (cC:dK to=true) (fv:bk val=true) (wv:(dn vs val 2).1=0) (fb:eh b=true) (h:(er vs true b).1=0):MC vs lp (.mk 5 [] to val [] [] [] [b] line)
 |rep {to val:Ex} {b:List Sm} {line:Int} (cC:dK to=true) (fv:bk val=true) (wv:(dn vs val 2).1=0) (fb:eh b=true) (h:(er vs true b).1=0):MC vs lp (.mk 6 [] to val [] [] [] [b] line)
 |ext {to val:Ex} {line:Int} (cC:dK to=true) (cm:dK val=true) (h:lp=true):MC vs lp (.mk 7 [] to val [] [] [] [] line)
 |ret {to val:Ex} {line:Int} (cC:dK to=true) (cm:dK val=true):MC vs lp (.mk 8 [] to val [] [] [] [] line)
 |cal {name:Tx} {to val:Ex} {conds:List Ex} {fields:List Tx} {line:Int} {v:Vr} (hn:da name=true) (cC:dK to=true) (cm:dK val=true) (hv:aZ vs name=some v) (ht:2<v.ty) (fc:bA conds=true) (hl:conds.length=fields.length) (hf:fields.all da=true) (h:(gQ vs v.ty line fields conds []).1=0):MC vs lp (.mk 9 name to val conds [] fields [] line)
theorem sr{α:Type}{l:List α}(h:l.length=0):l=[]:=List.eq_nil_of_length_eq_zero h
theorem DE{α:Type}{l:List α}(h:l.length=1):∃a,l=[a]:=by
 match l,h with
 |[a],_=>exact⟨a,rfl⟩
theorem apm{α:Type}{l:List α}(h:l.length=3):∃a b c,l=[a,b,c]:=by
 match l,h with
 |[a,b,c],_=>exact⟨a,b,c,rfl⟩
theorem Qe{vs:List Vr}{b:List Sm}(h:(sm vs [b]).1=0):(er vs true b).1=0:=by simpa [sm]using h
theorem Ni{vs:List Vr}{lp:Bool}{x:Sm}(hf:iH x=true)(h:(jk vs lp x).1=0):MC vs lp x:=by
 obtain⟨op,name,to,val,conds,labels,fields,blocks,line⟩:=x;simp only[iH,Bool.and_eq_true]at hf;obtain⟨cU,eO,cC,cm,ej,bJ,rB,rC,dI⟩:=hf;simp only[decide_eq_true_eq]at cU;unfold jk at h;have hc:op=1∨op=2∨op=3∨op=4∨op=5∨op=6∨op=7∨op=8∨op=9:=by omega
 rcases hc with rfl|rfl|rfl|rfl|rfl|rfl|rfl|rfl|rfl
 ·simp[bG]at eO cC cm bJ h;obtain⟨rfl,rfl,rfl,rfl⟩:=bJ;subst eO;unfold Ae at h;cases hv:aZ vs (dA to)with
  |none=>rw[hv]at h;simp at h
  |some v=>
   rw[hv]at h;simp only at h;by_cases hs:v.sec=1
   ·simp[hs]at h
   ·rw[if_neg hs]at h;obtain⟨h1,h2⟩:=bH.1 h;obtain⟨h2,h3⟩:=bH.1 h2;refine .asg cC.1 hv hs cC.2 h1 cm.2 h2 ?_;apply Classical.byContradiction;intro hh;rw[if_pos hh]at h3;simp at h3
 ·simp[bG]at eO cC cm bJ h;obtain⟨h1,h2,h3,h4,h5⟩:=bJ;subst eO h2 h3;exact .cnd cC cm ej (by omega) (by omega) (by omega) dI h
 ·simp[bG]at eO cC cm bJ h;obtain⟨h1,h3,h4,h5⟩:=bJ;subst eO h1 h3;obtain⟨g1,g2⟩:=bH.1 h;exact .cas cC cm.2 g1 (by omega) (by omega) rC dI g2
 ·simp[bG]at eO cC cm bJ h;obtain⟨h1,h2,h3,h4⟩:=bJ;obtain⟨x,y,z,rfl⟩:=apm h1;obtain⟨b,rfl⟩:=DE h4;subst h2 h3;cases hv:aZ vs name with
  |none=>rw[hv]at h;simp at h
  |some v=>
   rw[hv]at h;simp only at h;by_cases hs:v.sec=1
   ·simp[hs]at h
   ·rw[if_neg hs]at h;by_cases ha:v.arr=true∨¬v.ty=1
    ·rw[if_pos ha]at h;simp at h
    ·rw[if_neg ha]at h;simp only[not_or,Bool.not_eq_true,Classical.not_not]at ha;obtain⟨g1,g2⟩:=bH.1 h;simp only[jH]at g1;obtain⟨w1,g1⟩:=bH.1 g1;obtain⟨w2,g1⟩:=bH.1 g1;obtain⟨w3,g1⟩:=bH.1 g1;simp only[bA,Bool.and_eq_true]at ej;simp only[cB,Bool.and_eq_true]at dI;exact .cnt eO cC cm hv hs ha.1 ha.2 ej.1 w1 ej.2.1 w2 ej.2.2.1 w3 dI.1 (Qe g2)
 ·simp[bG]at eO cC cm bJ h;obtain⟨h1,h2,h3,h4⟩:=bJ;obtain⟨b,rfl⟩:=DE h4;subst eO h1 h2 h3;obtain⟨g1,g2⟩:=bH.1 h;simp only[cB,Bool.and_eq_true]at dI;exact .whl cC cm.2 g1 dI.1 (Qe g2)
 ·simp[bG]at eO cC cm bJ h;obtain⟨h1,h2,h3,h4⟩:=bJ;obtain⟨b,rfl⟩:=DE h4;subst eO h1 h2 h3;obtain⟨g1,g2⟩:=bH.1 h;simp only[cB,Bool.and_eq_true]at dI;exact .rep cC cm.2 g2 dI.1 (Qe g1)
 ·simp[bG]at eO cC cm bJ h;obtain⟨h1,h2,h3,h4⟩:=bJ;subst eO h1 h2 h3 h4;refine .ext cC cm ?_;cases lp with
  |true=>rfl
  |false=>simp at h
 ·simp[bG]at eO cC cm bJ h;obtain⟨h1,h2,h3,h4⟩:=bJ;subst eO h1 h2 h3 h4;exact .ret cC cm
 ·simp[bG]at eO cC cm bJ h;obtain⟨h1,h2,h3⟩:=bJ;subst h2 h3;cases hv:aZ vs name with
  |none=>rw[hv]at h;simp at h
  |some v=>
   rw[hv]at h;simp only at h;by_cases ht:v.ty≤2
   ·rw[if_pos ht]at h;simp at h
   ·rw[if_neg ht]at h;exact .cal eO cC cm hv (by omega) ej h1 (List.all_eq_true.2 (by simpa using rB)) h
end Go.Am
end
section
namespace Go.Am
def Bd(succ:Nat→List Nat):Nat→Nat→Prop
 |0,i=>succ i=[]
 |h+1,i=>∀j∈succ i,Bd succ h j
theorem Bd.succ{succ:Nat→List Nat}:∀{h i:Nat},Bd succ h i→Bd succ (h+1) i
 |0,i,hb=>fun j hj=>by rw[show succ i=[]from hb]at hj;simp at hj
 |h+1,i,hb=>fun j hj=>(hb j hj).succ
theorem Bd.le{succ:Nat→List Nat}{h h' i:Nat}(hb:Bd succ h i)(hl:h≤h'):Bd succ h' i:=by
 induction hl with
 |refl=>exact hb
 |step _ ih=>exact ih.succ
def gw(x:ar):Prop:=x.op=9∨x.op=10
instance (x:ar):Decidable (gw x):=inferInstanceAs (Decidable (_∨_))
structure Good(pins:Int→Nat)(cells:Int)(l:List ar)(r:Nat→Nat)(st:Nat→List Bool):Prop where
 len:1≤l.length∧l.length≤4096
 last:∀x,l[l.length-1]?=some x→x.op=15
 form:∀(i:Nat) x,l[i]?=some x→eV pins cells ((l.length:Int)-1) i x=true
 st0:st 0=[]
 mv:∀(i:Nat) x,l[i]?=some x→dh x (st i)=some (st (i+1))
 led:∀(i:Nat) x,l[i]?=some x→gw x→st x.a.toNat=[]
 ayy:∀(i:Nat) x,l[i]?=some x→x.op≠11→∀j∈agq l i,r j<r i
end Go.Am
end
section
namespace Go.Am
open Go
theorem Ie{s:Tx}{v:Vr}:∀{l:List Vr}{n:Int},aZ l s=some v→(oW l s n).2=v
 |x::r,n,h=>by
  unfold aZ at h;unfold oW;split at h
  ·rename_i e;cases h;rw[if_pos e]
  ·rename_i e;rw[if_neg e];exact Ie h
theorem gY{vs:List Vr}{s:Tx}{v:Vr}(h:aZ vs s=some v):(cj vs s).2=v:=Ie h
theorem EW{s:Tx}{v:Vr}:∀{l:List Vr}{n:Int},(∀v∈l,0≤bN v)→aZ l s=some v→n≤(oW l s n).1∧(oW l s n).1+bN v≤n+b8 l
 |x::r,n,hc,h=>by
  have hx:=hc x (by simp);have hr:0≤b8 r:=by
   have:∀l:List Vr,(∀v∈l,0≤bN v)→0≤b8 l:=by
    intro l;induction l with
    |nil=>intro _;simp[b8]
    |cons y l ih=>intro h;have:=ih (fun v hv=>h v (by simp[hv]));have:=h y (by simp);simp only[b8];omega
   exact this r (fun v hv=>hc v (by simp[hv]))
  unfold aZ at h;unfold oW;simp only[b8];split at h
  ·rename_i e;cases h;rw[if_pos e];simp only;omega
  ·rename_i e;rw[if_neg e];have:=EW (n:=n+bN x) (fun v hv=>hc v (by simp[hv])) h;omega
theorem tv{vs:List Vr}{s:Tx}{v:Vr}(hc:∀v∈vs,0≤bN v)(h:aZ vs s=some v):0≤(cj vs s).1∧(cj vs s).1+bN v≤b8 vs:=by
 have:=EW (n:=0) hc h;simp only[Int.zero_add]at this;exact this
theorem Z0:∀x∈Hs,∀p∈x.2,p.ty=1∨p.ty=2:=by decide
theorem EX{k:Int}{p:Pn}:∀{l:List (Int×List Pn)},p∈rl l k→∃x∈l,p∈x.2
 |(a,q)::r,h=>by
  unfold rl at h;split at h
  ·exact⟨(a,q),by simp,h⟩
  ·obtain⟨x,h1,h2⟩:=EX h;exact⟨x,by simp[h1],h2⟩
theorem Ig{k:Int}{p:Pn}(h:p∈bC k):p.ty=1∨p.ty=2:=by
 obtain⟨x,h1,h2⟩:=EX h;exact Z0 x h1 p h2
theorem Ih{f:Tx}{p:Pn}:∀{l:List Pn}{i:Nat},wc l f=some p→f≠[]∧p∈l∧∃j,yF l f i=some (j,p)∧i≤j∧j<i+l.length
 |q::r,i,h=>by
  unfold wc at h;unfold yF;split at h
  ·rename_i e;cases h;exact⟨e.2,by simp,i,by rw[if_pos e.1],by omega,by simp⟩
  ·rename_i e;obtain⟨h1,h2,j,h3,h4,h5⟩:=Ih (i:=i+1) h;exact⟨h1,by simp[h2],j,by rw[if_neg (fun e'=>e ⟨e',h1⟩)];exact h3,by omega,by simp;omega⟩
theorem rD{vs:List Vr}{s f:Tx}{v:Vr}{p:Pn}(hv:aZ vs s=some v)(ht:2<v.ty)(hp:jS v.ty f=some p):
 (ir vs s f).2=p∧p∈bC v.ty∧∃j:Nat,(ir vs s f).1=(cj vs s).1+j∧j<(bC v.ty).length:=by
 obtain⟨h1,h2,j,h3,_,h5⟩:=Ih (i:=0) hp;have ha:=gY hv;unfold ir;rw[hv,ha,if_pos ⟨rfl,ht,h1⟩,h3];exact⟨rfl,h2,j,rfl,by omega⟩
def cQ:List ar→List Bool→Option (List Bool)
 |[],S=>some S
 |x::r,S=>(dh x S).bind (cQ r)
theorem dN:∀(a b:List ar)(S:List Bool),cQ (a++b) S=(cQ a S).bind (cQ b)
 |[],b,S=>rfl
 |x::a,b,S=>by
  simp only[List.cons_append,cQ];cases dh x S with
  |none=>rfl
  |some S'=>exact dN a b S'
theorem Tg{f:ar→ar}(h:∀x,f x=x∨((x.op=9∨x.op=10)∧(f x).op=x.op))(x:ar)(S:List Bool):dh (f x) S=dh x S:=by
 rcases h x with e|⟨h1,h2⟩
 ·rw[e]
 ·rcases h1 with e|e
  ·have h2:(f x).op=9:=by rw[h2,e]
   simp[dh,h2,e]
  ·have h2:(f x).op=10:=by rw[h2,e]
   simp[dh,h2,e]
theorem wu{f:ar→ar}(h:∀x,f x=x∨((x.op=9∨x.op=10)∧(f x).op=x.op)):∀(l:List ar)(S:List Bool),cQ (l.map f) S=cQ l S
 |[],S=>rfl
 |x::r,S=>by
  simp only[List.map_cons,cQ,Tg h];cases dh x S with
  |none=>rfl
  |some S'=>exact wu h r S'
theorem Th(k:Nat)(x:ar):mD k x=x∨((x.op=9∨x.op=10)∧(mD k x).op=x.op):=by
 unfold mD;split
 ·rename_i h;exact .inr ⟨h.1,rfl⟩
 ·exact .inl rfl
theorem Ii(k:Int)(x:ar):sq k x=x∨((x.op=9∨x.op=10)∧(sq k x).op=x.op):=by
 unfold sq;split
 ·rename_i h;exact .inr ⟨.inl h.1,rfl⟩
 ·exact .inl rfl
theorem DG(k:Nat)(l:List ar)(S:List Bool):cQ (ig k l) S=cQ l S:=wu (Th k) l S
theorem kH{t:Bool}{S:List Bool}(h:S.length<64):nc t S=some (S++[t]):=by unfold nc;rw[if_pos h]
theorem yJ(S:List Bool)(f:Bool):mK 1 false (S++[f])=some S:=by
 unfold mK;rw[if_neg (by simp)];simp
theorem CL(S:List Bool):mK 1 true (S++[true])=some S:=by
 unfold mK;rw[if_neg (by simp)];simp
theorem VR(S:List Bool)(f g:Bool):mK 2 false (S++[f]++[g])=some S:=by
 unfold mK;rw[if_neg (by simp)];simp
theorem Zc(S:List Bool):mK 2 true (S++[true]++[true])=some S:=by
 unfold mK;rw[if_neg (by simp)];simp
inductive XC(vs:List Vr):Ex→Prop
 |num {n:Int} {line:Int} (h:0≤n):XC vs (.mk 1 n [] [] [] line)
 |qN {n:Int} {line:Int} (h:n=0∨n=1):XC vs (.mk 2 n [] [] [] line)
 |var {name:Tx} {line:Int} {v:Vr} (hv:aZ vs name=some v) (ha:v.arr=false) (ht:v.ty≤2):XC vs (.mk 3 0 name [] [] line)
 |idx {name:Tx} {line:Int} {v:Vr} {y:Ex} (hv:aZ vs name=some v) (ha:v.arr=true) (ht:v.ty≤2) (fy:bk y=true) (ey:(aF vs y).e=0) (ty:(aF vs y).t=1):XC vs (.mk 4 0 name [] [y] line)
 |Zd {name field:Tx} {line:Int} {v:Vr} {q:Pn} (hv:aZ vs name=some v) (ht:2<v.ty) (hq:jS v.ty field=some q) (hf:da field=true):XC vs (.mk 5 0 name field [] line)
 |one {op line:Int} {y:Ex} (ho:op=6∨op=7) (fy:bk y=true) (ey:(aF vs y).e=0) (ty:(aF vs y).t=gd op (aF vs y).t):XC vs (.mk op 0 [] [] [y] line)
 |two {op line:Int} {y z:Ex} (ho:8≤op∧op≤21) (fy:bk y=true) (ey:(aF vs y).e=0) (fz:bk z=true) (ez:(aF vs z).e=0) (ty:(aF vs y).t=gd op (aF vs y).t) (tz:(aF vs z).t=gd op (aF vs y).t):XC vs (.mk op 0 [] [] [y,z] line)
theorem DH{vs:List Vr}{x:Ex}(hf:bk x=true)(he:(aF vs x).e=0):XC vs x:=by
 obtain⟨op,n,name,field,sub,line⟩:=x;simp only[bk,Bool.and_eq_true,decide_eq_true_eq,Bool.not_eq_true',decide_eq_false_iff_not]at hf;obtain⟨h0,hlen,eO,ma,eQ⟩:=hf;simp only[not_or,not_and]at h0;obtain⟨n1,n2,n3,n4,n5⟩:=h0;unfold aF at he;by_cases o12:op=1∨op=2
 ·rw[if_neg (by omega)]at eO ma;simp only[decide_eq_true_eq]at eO ma;subst eO ma;have hs:sub=[]:=sr (by rw[hlen];unfold dJ;rcases o12 with h|h<;>subst h<;>decide);subst hs;rcases o12 with h|h
  ·subst h;exact .num (by have:=n1 rfl;omega)
  ·subst h;have:=n2 rfl;exact .qN (by omega)
 ·rw[if_neg o12]at he;have hn:n=0:=by
   have:=n3 (by omega);simpa using this
  subst hn;by_cases VS:op=3∨op=4∨op=5
  ·rw[if_pos VS]at he;rw[if_pos VS]at eO;cases hv:aZ vs name with
   |none=>rw[hv]at he;simp[ck]at he
   |some v=>
    rw[hv]at he;simp only at he;by_cases o5:op=5
    ·subst o5;rw[if_pos rfl]at he ma;by_cases ht:v.ty≤2
     ·rw[if_pos ht]at he;simp[ck]at he
     ·rw[if_neg ht]at he;have hs:sub=[]:=sr (by rw[hlen];decide);subst hs;cases hq:jS v.ty field with
      |none=>rw[hq]at he;simp[ck]at he
      |some q=>exact .Zd hv (by omega) hq ma
    ·rw[if_neg o5]at he ma;simp only[decide_eq_true_eq]at ma;subst ma;by_cases hc:v.arr≠decide (op=4)∨2<v.ty
     ·rw[if_pos hc]at he;simp[ck]at he
     ·rw[if_neg hc]at he;simp only[not_or,ne_eq,Classical.not_not]at hc;by_cases o4:op=4
      ·subst o4;rw[if_pos rfl]at he;obtain⟨y,rfl⟩:=DE (l:=sub) (by rw[hlen];decide);simp only[bA,Bool.and_eq_true]at eQ;simp only[uT]at he;by_cases hy:(aF vs y).e=0
       ·rw[if_neg (by simpa using hy)]at he;by_cases hy2:(aF vs y).t=1
        ·exact .idx hv (by simpa using hc.1) (by omega) eQ.1 hy hy2
        ·rw[if_pos hy2]at he;simp[ck]at he
       ·rw[if_pos hy]at he;exact absurd he hy
      ·have o3:op=3:=by omega
       subst o3;have hs:sub=[]:=sr (by rw[hlen];decide);subst hs;exact .var hv (by simpa using hc.1) (by omega)
  ·rw[if_neg VS]at he eO;rw[if_neg (by omega)]at ma;simp only[decide_eq_true_eq]at eO ma;subst eO ma;by_cases o67:op=6∨op=7
   ·obtain⟨y,rfl⟩:=DE (l:=sub) (by rw[hlen];unfold dJ;rcases o67 with h|h<;>subst h<;>decide);simp only[bA,Bool.and_eq_true]at eQ;simp only[qQ]at he;obtain⟨g1,g2,g3,g4,g5⟩:=gW he;exact .one o67 eQ.1 g1 g3
   ·have Ou:sub.length=2:=by rw[hlen];unfold dJ;rw[if_neg (by omega),if_pos (by omega)]
    match sub,Ou with
    |[y,z],_=>
     simp only[bA,Bool.and_eq_true]at eQ;simp only[qQ]at he;obtain⟨g1,g2,g3,g4,g5⟩:=gW he;exact .two (by omega) eQ.1 g1 eQ.2.1 g2 g3 g4
theorem jV(vs:List Vr)(x:Ex):1≤(ak vs x).1.length:=by
 obtain⟨op,n,name,field,sub,line⟩:=x;unfold ak;split
 ·simp
 ·split
  ·simp
  ·split
   ·simp
   ·split
    ·simp
    ·simp
def jZ(n:Nat)(x:ar):ar:=if x.op=9∨x.op=10 then {x with a:=if 0≤x.a then x.a+n else 0} else x
def cG(n:Nat)(l:List ar):List ar:=l.map (jZ n)
theorem FH{n:Nat}{a:Int}(h:0≤a):jZ n (ins 9 a 0 0 0)=ins 9 (a+n) 0 0 0:=by simp[jZ,ins,h]
theorem yK{n:Nat}{a:Int}(h:0≤a):jZ n (ins 10 a 0 0 0)=ins 10 (a+n) 0 0 0:=by simp[jZ,ins,h]
@[simp] theorem mq(n:Nat)(l:List ar):(cG n l).length=l.length:=by simp[cG]
theorem px(n:Nat)(a b:List ar):cG n (a++b)=cG n a++cG n b:=by simp[cG]
@[simp] theorem u6(n:Nat):cG n []=[]:=rfl
theorem nr(n:Nat)(x:ar)(l:List ar):cG n (x::l)=jZ n x::cG n l:=rfl
theorem aeI(n k:Nat)(x:ar):jZ n (mD k x)=jZ (n+k) x:=by
 obtain⟨op,a,b,c,d⟩:=x;unfold jZ mD;by_cases h:op=9∨op=10
 ·by_cases h0:0≤a
  ·simp only[h,h0,and_self,if_true,ar.mk.injEq,true_and,and_true];rw[if_pos (by omega)];omega
  ·simp only[h,h0,and_false,if_false,if_true]
 ·simp only[h,false_and,if_false]
theorem yL(n k:Nat)(l:List ar):cG n (ig k l)=cG (n+k) l:=by
 unfold cG ig;rw[List.map_map];congr 1;funext x;exact aeI n k x
theorem Ij(n:Nat)(a b:List ar):cG n (jn a b)=cG n a++cG (n+a.length) b:=by rw[jn,px,yL]
def Flat(l:List ar):Prop:=∀x∈l,x.op≠9∧x.op≠10
theorem Flat.cG{l:List ar}(h:Flat l)(n:Nat):Am.cG n l=l:=by
 unfold Am.cG;conv=>rhs;rw[←List.map_id l]
 refine List.map_congr_left fun x hx=>?_;have:=h x hx;simp[jZ,this.1,this.2]
theorem Flat.app{a b:List ar}(ha:Flat a)(hb:Flat b):Flat (a++b):=fun x hx=>(List.mem_append.1 hx).elim (ha x) (hb x)
theorem Flat.nil:Flat []:=fun _ h=>by simp at h
theorem Flat.one{x:ar}(h:x.op≠9∧x.op≠10):Flat [x]:=fun y hy=>by simp at hy;subst hy;exact h
theorem Flat.cons{x:ar}{l:List ar}(h:x.op≠9∧x.op≠10)(hl:Flat l):Flat (x::l):=fun y hy=>by
 rcases List.mem_cons.1 hy with rfl|hy
 ·exact h
 ·exact hl y hy
def cE(k:Int):Nat→List ar→List Int
 |_,[]=>[]
 |n,x::r=>if x.op=9∧x.a=k then (n:Int)::cE k (n+1) r else cE k (n+1) r
theorem je(k:Int):∀(a b:List ar)(n:Nat),cE k n (a++b)=cE k n a++cE k (n+a.length) b
 |[],b,n=>by simp[cE]
 |x::a,b,n=>by
  simp only[List.cons_append,cE,je k a b (n+1),List.length_cons];rw[show n+1+a.length=n+(a.length+1) by omega];split<;>simp
theorem py{k:Int}{l:List ar}(h:Flat l)(n:Nat):cE k n l=[]:=by
 induction l generalizing n with
 |nil=>rfl
 |cons x r ih=>
  simp only[cE];rw[if_neg (fun hh=>(h x (by simp)).1 hh.1)];exact ih (fun y hy=>h y (by simp[hy])) _
theorem Ik{k:Int}{f:ar→ar}(h:∀x,((f x).op=9∧(f x).a=k)↔(x.op=9∧x.a=k)):∀(l:List ar)(n:Nat),cE k n (l.map f)=cE k n l
 |[],n=>rfl
 |x::r,n=>by
  simp only[List.map_cons,cE,Ik h r];by_cases hx:x.op=9∧x.a=k
  ·rw[if_pos hx,if_pos ((h x).2 hx)]
  ·rw[if_neg hx,if_neg (fun hh=>hx ((h x).1 hh))]
theorem FI{k:Int}(hk:k<0)(j:Nat)(l:List ar)(n:Nat):cE k n (ig j l)=cE k n l:=by
 refine Ik (fun x=>?_) l n;unfold mD;split
 ·rename_i h;simp only;omega
 ·exact Iff.rfl
theorem FJ{k:Int}(hk:k<0)(a b:List ar)(n:Nat):cE k n (jn a b)=cE k n a++cE k (n+a.length) b:=by rw[jn,je,FI hk]
def kI(k to:Int)(x:ar):ar:=if x.op=9∧x.a=k then {x with a:=to} else x
theorem aeJ{k to:Int}(h:to≠k):∀(l:List ar)(n:Nat),cE k n (l.map (kI k to))=[]
 |[],n=>rfl
 |x::r,n=>by
  simp only[List.map_cons,cE,aeJ h r];rw[if_neg];unfold kI;split
  ·rintro ⟨_,hh⟩;exact h hh
  ·assumption
theorem Qf{k k2 to:Int}(h1:to≠k2)(h2:k≠k2)(l:List ar)(n:Nat):cE k2 n (l.map (kI k to))=cE k2 n l:=by
 refine Ik (fun x=>?_) l n;unfold kI;split
 ·rename_i h;simp only
  constructor
  ·rintro ⟨_,hh⟩;exact absurd hh h1
  ·rintro ⟨_,hh⟩;exact absurd (h.2.symm.trans hh) h2
 ·exact Iff.rfl
def setAt(l:List ar)(i:Int)(v:Int):List ar:=l.modify i.toNat fun x=>{x with a:=v}
def jg(l:List ar)(ps:List Int)(v:Int):List ar:=ps.foldl (fun l i=>setAt l i v) l
@[simp] theorem Ti(l:List ar)(i v:Int):(setAt l i v).length=l.length:=by simp[setAt]
@[simp] theorem CM:∀(ps:List Int)(l:List ar)(v:Int),(jg l ps v).length=l.length
 |[],l,v=>rfl
 |i::r,l,v=>by
  show (jg (setAt l i v) r v).length=_;rw[CM r];simp
theorem qp(pre:List ar)(x:ar)(post:List ar)(v:Int):setAt (pre++x::post) pre.length v=pre++{x with a:=v}::post:=by
 unfold setAt;rw[Int.toNat_natCast];induction pre with
 |nil=>rfl
 |cons y r ih=>simp only[List.cons_append,List.length_cons,List.modify_succ_cons,ih]
theorem pT(l:List ar)(i:Int)(r:List Int)(v:Int):jg l (i::r) v=jg (setAt l i v) r v:=rfl
theorem aix{n:Nat}{k to:Int}{x:ar}(h:x.op=9∧x.a=k)(ht:0≤to)(hk:k<0):({jZ n x with a:=to+n}:ar)=jZ n (kI k to x):=by
 obtain⟨op,a,b,c,d⟩:=x;obtain⟨rfl,rfl⟩:=h;simp[jZ,kI,ht]
theorem qq{k to:Int}(hk:k<0)(ht:0≤to)(base:Nat):∀(l pre post:List ar)(n:Nat),pre.length=n→jg (pre++cG base l++post) (cE k n l) (to+base)=pre++cG base (l.map (kI k to))++post
 |[],pre,post,n,h=>by simp[cE,jg]
 |x::r,pre,post,n,h=>by
  have ih:=qq hk ht base r;simp only[cE,List.map_cons,nr];split
  ·rename_i hx;rw[pT];have e:pre++jZ base x::cG base r++post=pre++jZ base x::(cG base r++post):=by simp
   rw[e,←h,qp,aix hx ht hk];have:=ih (pre++[jZ base (kI k to x)]) post (pre.length+1) (by simp);simpa using this
  ·rename_i hx;have e2:kI k to x=x:=by unfold kI;rw[if_neg hx]
   rw[e2];have:=ih (pre++[jZ base x]) post (n+1) (by simp[h]);simpa using this
def jI(E:Int):Nat→List (List ar)→List (List ar)→List ar
 |_,_,[]=>[]
 |n,[],b::r=>if r=[]then cG n b else cG n b++ins 9 E 0 0 0::jI E (n+b.length+1) [] r
 |n,t::ts,b::r=>
  if r=[]then t++ins 10 (n+t.length+1+b.length) 0 0 0::cG (n+t.length+1) b
  else t++ins 10 (n+t.length+2+b.length) 0 0 0::(cG (n+t.length+1) b++ins 9 E 0 0 0::jI E (n+t.length+2+b.length) ts r)
theorem u7(E:Int):∀(n:Nat)(ts bs:List (List ar)),(jI E n ts bs).length=(cK ts bs).length
 |_,_,[]=>by simp[jI,cK]
 |n,[],b::r=>by
  simp only[jI,cK];split
  ·simp
  ·simp[u7 E _ [] r,ei];omega
 |n,t::ts,b::r=>by
  simp only[jI,cK];split
  ·rename_i h;subst h;simp[ei,cK]
  ·simp[u7 E _ ts r,ei];omega
theorem Il:∀(n:Nat)(ts bs:List (List ar)),(∀t∈ts,Flat t)→∀E:Int,E=n+(cK ts bs).length→jI E n ts bs=cG n (cK ts bs)
 |n,_,[],_,_,_=>by simp[jI,cK]
 |n,[],b::r,_,E,hE=>by
  simp only[jI,cK]at hE⊢;split
  ·rfl
  ·rename_i h;rw[if_neg h]at hE;rw[Ij,px];have e:E=((n+b.length+1:Nat):Int)+(cK [] r).length:=by rw[hE];simp[ei];omega
   rw[Il (n+b.length+1) [] r (by simp) E e];have e3:jZ n (ins 9 (b.length+1+(cK [] r).length) 0 0 0)=ins 9 E 0 0 0:=by
    rw[FH (by omega)];congr 1;omega
   have e2:cG n [ins 9 (b.length+1+(cK [] r).length) 0 0 0]=[ins 9 E 0 0 0]:=by rw[nr,e3];rfl
   rw[e2];simp[Nat.add_assoc]
 |n,t::ts,b::r,hf,E,hE=>by
  have Ze:Flat t:=hf t (by simp);simp only[jI,cK]at hE⊢;rw[Ij];by_cases h:r=[]
  ·subst h;simp only[if_true,px,yL,Ze.cG,cK,u6,List.append_nil,nr];have e:jZ n (ins 10 (t.length+1+b.length) 0 0 0)=ins 10 (n+t.length+1+b.length) 0 0 0:=by
    rw[yK (by omega)];congr 1;omega
   rw[e];simp[Nat.add_assoc]
  ·simp only[if_neg h]at hE⊢;have e:E=((n+t.length+2+b.length:Nat):Int)+(cK ts r).length:=by rw[hE];simp[ei];omega
   rw[Il (n+t.length+2+b.length) ts r (fun t ht=>hf t (by simp[ht])) E e];simp only[px,yL,Ze.cG,nr,u6,List.length_append,List.length_cons,List.length_nil,lh];have e1:jZ n (ins 10 (t.length+1+(b.length+(0+1):Nat)) 0 0 0)=ins 10 (n+t.length+2+b.length) 0 0 0:=by
    rw[yK (by omega)];congr 1;omega
   have e2:jZ (n+(t.length+1)) (ins 9 (b.length+1+(cK ts r).length) 0 0 0)=ins 9 E 0 0 0:=by
    rw[FH (by omega)];congr 1;omega
   rw[e1,e2,show n+(t.length+(0+1)+(b.length+(0+1)))=n+t.length+2+b.length by omega];simp[Nat.add_assoc]
theorem apn{k to:Int}(hk:k<0)(ht:0≤to)(j:Nat)(x:ar):kI k (to+j) (mD j x)=mD j (kI k to x):=by
 obtain⟨op,a,b,c,d⟩:=x;unfold kI mD;by_cases h:op=9∧a=k
 ·obtain⟨rfl,rfl⟩:=h;have h0:¬0≤a:=by omega
  simp[h0,ht]
 ·by_cases h2:(op=9∨op=10)∧0≤a
  ·have:¬(op=9∧a+(j:Int)=k):=by omega
   simp[h,h2,this]
  ·simp[h,h2]
theorem Zf{k to:Int}(hk:k<0)(ht:0≤to)(j:Nat)(l:List ar):(ig j l).map (kI k (to+j))=ig j (l.map (kI k to)):=by
 unfold ig;rw[List.map_map,List.map_map];congr 1;funext x;exact apn hk ht j x
theorem Tj{l:List ar}(h:Flat l)(k to:Int):l.map (kI k to)=l:=by
 conv=>rhs;rw[←List.map_id l]
 refine List.map_congr_left fun x hx=>?_;have:=h x hx;simp[kI,this.1]
theorem tw{k to:Int}{x:ar}(h:x.op=9→x.a≠k):kI k to x=x:=by
 unfold kI;rw[if_neg];exact fun hh=>h hh.1 hh.2
theorem rE(l:List ar):oz l=l.map (kI (-1) l.length):=rfl
theorem Ba{n:Nat}{x:ar}(h:x.op≠9∧x.op≠10):jZ n x=x:=by simp[jZ,h.1,h.2]
theorem Qg{out t b:List ar}(ht:Flat t){n:Nat}(hn:out.length=n){H:Int}(hH:H=n+t.length+3+b.length):
 jg (out++(ins 11 0 0 0 0::t++(ins 10 H 0 0 0::cG (n+t.length+2) b++[ins 9 n 0 0 0]))) (cE (-1) (n+t.length+2) b) H=out++cG n (gV t b):=by
 have h1:=qq (k:= -1) (to:=b.length+1) (by decide) (by omega) (n+t.length+2) b (out++(ins 11 0 0 0 0::t++[ins 10 H 0 0 0])) [ins 9 n 0 0 0] (n+t.length+2) (by simp;omega);have e0:((b.length:Int)+1)+((n+t.length+2:Nat):Int)=H:=by rw[hH];omega
 rw[e0]at h1;have e1:out++(ins 11 0 0 0 0::t++(ins 10 H 0 0 0::cG (n+t.length+2) b++[ins 9 n 0 0 0]))=out++(ins 11 0 0 0 0::t++[ins 10 H 0 0 0])++cG (n+t.length+2) b++[ins 9 n 0 0 0]:=by simp
 rw[e1,h1];unfold gV;rw[rE];have hl:((ins 11 0 0 0 0::t++[ins 10 (t.length+3+b.length) 0 0 0]++ig (t.length+2) b++[ins 9 0 0 0 0]).length:Int)=((b.length:Int)+1)+((t.length+2:Nat):Int):=by simp;omega
 rw[hl];simp only[List.map_append,List.map_cons,List.map_nil,Tj ht,Zf (show (-1:Int)<0 by decide) (show 0≤(b.length:Int)+1 by omega),px,nr,u6,ht.cG,yL];rw[tw (by simp[ins]),tw (by simp[ins]),tw (by simp[ins]),Ba (by simp[ins]),yK (by omega),FH (by omega)];have e2:ins 10 (t.length+3+b.length+n) 0 0 0=ins 10 H 0 0 0:=by congr 1;omega
 rw[e2,show n+(t.length+2)=n+t.length+2 by omega];simp
theorem Tk{k:Int}(hk:k<0)(gu:k≠ -1){t b:List ar}(ht:Flat t)(n:Nat):cE k n (gV t b)=cE k (n+t.length+2) b:=by
 unfold gV;rw[rE,Qf (by omega) (by omega)];have e0:ins 11 0 0 0 0::t++[ins 10 (t.length+3+b.length) 0 0 0]++ig (t.length+2) b++[ins 9 0 0 0 0]=[ins 11 0 0 0 0]++(t++([ins 10 (t.length+3+b.length) 0 0 0]++(ig (t.length+2) b++[ins 9 0 0 0 0]))):=by simp
 rw[e0,je];rw[py (Flat.one (by simp[ins])),je,py ht,je,je,FI hk];have e:∀m,cE k m [ins 10 (t.length+3+b.length) 0 0 0]=[]:=fun m=>by simp[cE,ins]
 have e2:∀m,cE k m [ins 9 0 0 0 0]=[]:=fun m=>by simp[cE,ins];omega
 rw[e,e2];simp only[List.nil_append,List.append_nil,List.length_cons,List.length_nil];congr 1;omega
theorem Im(l:List ar)(n:Nat):cE (-1) n (oz l)=[]:=aeJ (by omega) l n
theorem VT{out t b:List ar}(ht:Flat t){n:Nat}(hn:out.length=n){H:Int}(hH:H=n+b.length+t.length+2):
 jg (out++(cG n b++(ins 11 0 0 0 0::t++[ins 10 n 0 0 0]))) (cE (-1) n b) H=out++cG n (lA t b):=by
 have h1:=qq (k:= -1) (to:=b.length+t.length+2) (by decide) (by omega) n b out (ins 11 0 0 0 0::t++[ins 10 n 0 0 0]) n hn;have e0:((b.length:Int)+t.length+2)+(n:Int)=H:=by rw[hH];omega
 rw[e0]at h1;rw[←List.append_assoc,h1];unfold lA;rw[rE];have hl:((b++ins 11 0 0 0 0::t++[ins 10 0 0 0 0]).length:Int)=(b.length:Int)+t.length+2:=by simp;omega
 rw[hl];simp only[List.map_append,List.map_cons,List.map_nil,Tj ht,px,nr,u6,ht.cG];rw[tw (by simp[ins]),tw (by simp[ins]),Ba (by simp[ins]),yK (by omega)];simp
theorem Z1{k:Int}(hk:k<0)(gu:k≠ -1){t b:List ar}(ht:Flat t)(n:Nat):cE k n (lA t b)=cE k n b:=by
 unfold lA;rw[rE,Qf (by omega) (by omega)];have e0:b++ins 11 0 0 0 0::t++[ins 10 0 0 0 0]=b++([ins 11 0 0 0 0]++(t++[ins 10 0 0 0 0])):=by simp
 rw[e0,je,je];rw[py (Flat.one (by simp[ins])),je,py ht];have e:∀m,cE k m [ins 10 0 0 0 0]=[]:=fun m=>by simp[cE,ins]
 rw[e];simp
theorem VU{out b:List ar}{at_ cell:Int}{n:Nat}(hn:out.length=n){H:Int}(hH:H=n+b.length+8):
 jg (out++(ins 11 0 0 0 0::ins 13 at_ cell 0 0::ins 10 H 0 0 0::cG (n+3) b++[ins 2 at_ 0 0 0,ins 2 (cell+1) 0 0 0,ins 8 0 8 0 0,ins 6 at_ 0 0 0,ins 9 n 0 0 0])) (cE (-1) (n+3) b) H=out++cG n (kE at_ cell b):=by
 have h1:=qq (k:= -1) (to:=b.length+5) (by decide) (by omega) (n+3) b (out++[ins 11 0 0 0 0,ins 13 at_ cell 0 0,ins 10 H 0 0 0]) [ins 2 at_ 0 0 0,ins 2 (cell+1) 0 0 0,ins 8 0 8 0 0,ins 6 at_ 0 0 0,ins 9 n 0 0 0] (n+3) (by simp[hn]);have e0:((b.length:Int)+5)+((n+3:Nat):Int)=H:=by rw[hH];omega
 rw[e0]at h1;have e1:out++(ins 11 0 0 0 0::ins 13 at_ cell 0 0::ins 10 H 0 0 0::cG (n+3) b++[ins 2 at_ 0 0 0,ins 2 (cell+1) 0 0 0,ins 8 0 8 0 0,ins 6 at_ 0 0 0,ins 9 n 0 0 0])=out++[ins 11 0 0 0 0,ins 13 at_ cell 0 0,ins 10 H 0 0 0]++cG (n+3) b++[ins 2 at_ 0 0 0,ins 2 (cell+1) 0 0 0,ins 8 0 8 0 0,ins 6 at_ 0 0 0,ins 9 n 0 0 0]:=by simp
 rw[e1,h1];unfold kE;rw[rE];have hl:(([ins 11 0 0 0 0,ins 13 at_ cell 0 0,ins 10 (b.length+8) 0 0 0]++ig 3 b++[ins 2 at_ 0 0 0,ins 2 (cell+1) 0 0 0,ins 8 0 8 0 0,ins 6 at_ 0 0 0,ins 9 0 0 0 0]).length:Int)=((b.length:Int)+5)+((3:Nat):Int):=by simp;omega
 rw[hl];simp only[List.map_append,List.map_cons,List.map_nil,Zf (show (-1:Int)<0 by decide) (show 0≤(b.length:Int)+5 by omega),px,nr,u6,yL];have e3:∀x:ar,(x.op≠9∧x.op≠10)→∀to,jZ n (kI (-1) to x)=x:=fun x h to=>by rw[tw (fun hh=>absurd hh h.1),Ba h]
 have e4:kI (-1) (b.length+5+((3:Nat):Int)) (ins 10 (b.length+8) 0 0 0)=ins 10 (b.length+8) 0 0 0:=tw (by simp[ins]);have e5:kI (-1) (b.length+5+((3:Nat):Int)) (ins 9 0 0 0 0)=ins 9 0 0 0 0:=tw (by simp[ins]);rw[e4,e5,e3 _ (by simp[ins]),e3 (ins 13 at_ cell 0 0) (by simp[ins]),e3 (ins 2 at_ 0 0 0) (by simp[ins]),e3 (ins 2 (cell+1) 0 0 0) (by simp[ins]),e3 (ins 8 0 8 0 0) (by simp[ins]),e3 (ins 6 at_ 0 0 0) (by simp[ins]),yK (by omega),FH (by omega)];have e2:ins 10 (b.length+8+n) 0 0 0=ins 10 H 0 0 0:=by congr 1;omega
 rw[e2];simp
theorem Z2{k:Int}(hk:k<0)(gu:k≠ -1){b:List ar}{at_ cell:Int}(n:Nat):cE k n (kE at_ cell b)=cE k (n+3) b:=by
 unfold kE;rw[rE,Qf (by omega) (by omega)];rw[je,je,FI hk];have e:∀m,cE k m [ins 11 0 0 0 0,ins 13 at_ cell 0 0,ins 10 (b.length+8) 0 0 0]=[]:=fun m=>by simp[cE,ins]
 have e2:∀m,cE k m [ins 2 at_ 0 0 0,ins 2 (cell+1) 0 0 0,ins 8 0 8 0 0,ins 6 at_ 0 0 0,ins 9 0 0 0 0]=[]:=fun m=>by simp[cE,ins];omega
 rw[e,e2];simp
def fA:Nat→List (List ar)→List (List ar)→List Int
 |_,_,[]=>[]
 |n,[],b::r=>if r=[]then []else ((n+b.length:Nat):Int)::fA (n+b.length+1) [] r
 |n,t::ts,b::r=>if r=[]then []else ((n+t.length+1+b.length:Nat):Int)::fA (n+t.length+2+b.length) ts r
def tA(k:Int):Nat→List (List ar)→List (List ar)→List Int
 |_,_,[]=>[]
 |n,[],b::r=>cE k n b++(if r=[]then []else tA k (n+b.length+1) [] r)
 |n,t::ts,b::r=>cE k (n+t.length+1) b++(if r=[]then []else tA k (n+t.length+2+b.length) ts r)
theorem DI(E:Int):∀(n:Nat)(ts bs:List (List ar))(pre:List ar),pre.length=n→jg (pre++jI 0 n ts bs) (fA n ts bs) E=pre++jI E n ts bs
 |n,_,[],pre,hn=>by simp[jI,fA,jg]
 |n,[],b::r,pre,hn=>by
  simp only[jI,fA];split
  ·rfl
  ·rw[pT];have e1:pre++(cG n b++ins 9 0 0 0 0::jI 0 (n+b.length+1) [] r)=(pre++cG n b)++ins 9 0 0 0 0::jI 0 (n+b.length+1) [] r:=by simp
   have e2:((n+b.length:Nat):Int)=((pre++cG n b).length:Int):=by simp;omega
   rw[e1,e2,qp];have ih:=DI E (n+b.length+1) [] r (pre++cG n b++[ins 9 E 0 0 0]) (by simp;omega);simp only[List.append_assoc,List.singleton_append]at ih⊢;exact ih
 |n,t::ts,b::r,pre,hn=>by
  simp only[jI,fA];split
  ·rfl
  ·rw[pT];have e1:pre++(t++ins 10 (n+t.length+2+b.length) 0 0 0::(cG (n+t.length+1) b++ins 9 0 0 0 0::jI 0 (n+t.length+2+b.length) ts r))=(pre++(t++ins 10 (n+t.length+2+b.length) 0 0 0::cG (n+t.length+1) b))++ins 9 0 0 0 0::jI 0 (n+t.length+2+b.length) ts r:=by simp
   have e2:((n+t.length+1+b.length:Nat):Int)=((pre++(t++ins 10 (n+t.length+2+b.length) 0 0 0::cG (n+t.length+1) b)).length:Int):=by simp;omega
   rw[e1,e2,qp];have ih:=DI E (n+t.length+2+b.length) ts r (pre++(t++ins 10 (n+t.length+2+b.length) 0 0 0::cG (n+t.length+1) b)++[ins 9 E 0 0 0]) (by simp;omega);simp only[List.append_assoc,List.cons_append,List.singleton_append]at ih⊢;exact ih
theorem CN{k:Int}(hk:k<0):∀(n:Nat)(ts bs:List (List ar)),(∀t∈ts,Flat t)→cE k n (cK ts bs)=tA k n ts bs
 |n,_,[],_=>by simp[cK,tA,cE]
 |n,[],b::r,hf=>by
  simp only[cK,tA];split
  ·simp
  ·rw[FJ hk,je,CN hk _ [] r (by simp)];have e:∀m,cE k m [ins 9 (b.length+1+(cK [] r).length) 0 0 0]=[]:=fun m=>by simp[cE,ins];omega
   rw[e];simp[Nat.add_assoc]
 |n,t::ts,b::r,hf=>by
  have Ze:Flat t:=hf t (by simp);simp only[cK,tA];rw[FJ hk,je,je,py Ze,FI hk,CN hk _ ts r (fun t ht=>hf t (by simp[ht]))];have e:∀m a,cE k m [ins 10 a 0 0 0]=[]:=fun m a=>by simp[cE,ins]
  rw[e];by_cases h:r=[]
  ·subst h;simp[tA,Nat.add_assoc]
  ·simp only[if_neg h,je];have e2:∀m,cE k m [ins 9 (b.length+1+(cK ts r).length) 0 0 0]=[]:=fun m=>by simp[cE,ins];omega
   rw[e2];simp only[List.nil_append,List.append_nil,List.length_append,List.length_cons,List.length_nil,lh];rw[show n+(t.length+(0+1))=n+t.length+1 by omega,show n+(t.length+(0+1)+(b.length+(0+1)))=n+t.length+2+b.length by omega]
theorem Z3{pre:List ar}{n:Nat}(hn:pre.length=n){ts bs:List (List ar)}(hf:∀t∈ts,Flat t):jg (pre++jI 0 n ts bs) (fA n ts bs) (n+(cK ts bs).length)=pre++cG n (cK ts bs):=by
 rw[DI _ n ts bs pre hn,Il n ts bs hf _ rfl]
def Rm(u:Bool)(a a':EL):Prop:=a.1=0→a'.1=if u=true then 9 else 0
theorem Rm.or{u1 u2:Bool}{a a' b b':EL}(h1:Rm u1 a a')(h2:Rm u2 b b'):Rm (u1||u2) (eX a b) (eX a' b'):=by
 intro h;unfold eX at h⊢;by_cases ha:a.1=0
 ·rw[if_neg (fun h=>h ha)]at h;have h1:=h1 ha;have h2:=h2 h;cases u1 with
  |true=>simp at h1;rw[if_pos (by rw[h1];decide),h1];simp
  |false=>simp at h1;rw[if_neg (fun h=>h h1)];simpa using h2
 ·rw[if_pos ha]at h;exact absurd h ha
theorem Rm.zero:Rm false (0,0) (0,0):=fun _=>rfl
theorem Rm.same{u:Bool}{a a':EL}(hu:u=false)(h:a'=a):Rm u a a':=by
 subst hu h;intro h;simpa using h
section
variable {vs WR:List Vr} {nm:Tx} (bK:nm≠[]) (hf:∀s,aZ WR s=if s=nm then none else aZ vs s)
include bK hf
end
section
variable {vs WR:List Vr} {nm:Tx} (bK:nm≠[]) (hf:∀s,aZ WR s=if s=nm then none else aZ vs s)
include bK hf
end
theorem nK{v:Vr}(h:dj v=true):0≤bN v:=by
 simp only[dj,Bool.and_eq_true]at h;obtain⟨_,_,h,_⟩:=h;unfold bN;split
 ·rename_i ha;rw[if_pos ha]at h;have:=of_decide_eq_true h;omega
 ·split<;>omega
def pnN(k:Int):Nat:=(bC k).length
def tB(cells:Int)(x:ar):Prop:=1≤x.op∧x.op≤8∧eV pnN cells 0 0 x=true
theorem jh{cells a n:Int}(h1:0≤a)(h2:0≤n)(h3:a+n≤cells):gG cells a n=true:=by
 unfold gG;simp only[Bool.and_eq_true,decide_eq_true_eq];omega
theorem Io{op n:Int}{name field:Tx}{sub:List Ex}{line:Int}(h:bk (.mk op n name field sub line)=true):1≤op∧op≤21:=by
 simp only[bk,Bool.and_eq_true,Bool.not_eq_true',decide_eq_false_iff_not]at h;have:=h.1;omega
section
variable {vs:List Vr} {cells:Int} (cS:∀v∈vs,dj v=true) (hc:b8 vs≤cells)
include cS hc
theorem nL:∀(x:Ex)(S:List Bool),bk x=true→(aF vs x).e=0→aL S.length x≤64→
 (∃f,cQ (ak vs x).1 S=some (S++[f])∧((aF vs x).t=2→f=true))∧(ak vs x).2=decide ((aF vs x).t=2)∧((aF vs x).t=1∨(aF vs x).t=2)∧∀y∈(ak vs x).1,tB cells y
 | .mk op n name field sub line,S,hf,he,ht=>by
  obtain⟨hlen,eQ⟩:=rz hf;have cU:=Io hf;have xe:=u4 hf he;have Ad:∀v∈vs,0≤bN v:=fun v hv=>nK (cS v hv);have ih:∀y∈sub,∀S:List Bool,aL S.length y≤64→_:=fun y hy S ht=>nL y S ((gj sub).1 eQ y hy) (xe y hy) ht;unfold aL at ht;unfold ak;have mz:aF vs (.mk op n name field sub line)=aF vs (.mk op n name field sub line):=rfl;conv at mz=>rhs;unfold aF
  rw[mz]at he⊢;clear mz;by_cases jX:op=1∨op=2
  ·have hh:S.length<64:=by
    rw[if_pos (by omega)]at ht;omega
   simp only[if_pos jX];refine⟨⟨decide (n=0)||decide (n=1),?_,?_⟩,rfl,by simp[eP];exact jX,?_⟩
   ·simp[cQ,dh,ins,kH hh];rfl
   ·intro h2;have h2:op=2:=h2;subst h2;simp[bk]at hf;simp only[Bool.or_eq_true,decide_eq_true_eq];omega
   ·intro y hy;simp at hy;subst hy;simp[tB,ins,eV]
  ·simp only[if_neg jX]at he⊢;by_cases pv:op=3∨op=4∨op=5
   ·simp only[if_pos pv]at he⊢;cases hv:aZ vs name with
    |none=>rw[hv]at he;simp[ck]at he
    |some v=>
     rw[hv]at he;simp only at he⊢;have gi:=gY hv;have fY:=cS v (qo hv).1;have aO:=tv Ad hv;have AN:=fY;simp only[dj,Bool.and_eq_true]at AN;by_cases h5:op=5
     ·subst h5;have hh:S.length<64:=by
       rw[if_pos (by omega)]at ht;omega
      simp only[if_pos]at he⊢;by_cases nJ:v.ty≤2
      ·rw[if_pos nJ]at he;simp[ck]at he
      ·rw[if_neg nJ]at he⊢;cases hp:jS v.ty field with
       |none=>rw[hp]at he;simp[ck]at he
       |some p=>
        obtain⟨q1,q2,j,q3,q4⟩:=rD hv (by omega) hp;have hpt:=Ig q2;have mQ:bN v=(bC v.ty).length:=by
         unfold bN;have gp:¬v.arr=true:=by
          intro ha;have h4:=AN.2.2.1;rw[if_pos ha]at h4;have:=of_decide_eq_true h4;omega
         rw[if_neg gp,if_pos (by omega)]
        simp only[show ¬((5:Int)=3) by decide,if_false,q1];have qU:gG cells (ir vs name field).1 1=true:=jh (by rw[q3];omega) (by omega) (by rw[q3];omega);rcases hpt with e|e
        ·refine⟨⟨false,?_,fun h=>by simp[eP,e]at h⟩,decide_eq_decide.2 Iff.rfl,.inl e,?_⟩
         ·simp[cQ,dh,ins,e,kH hh]
         ·intro y hy;simp at hy;subst hy;simp[tB,ins,eV,e,qU]
        ·refine⟨⟨true,?_,fun _=>rfl⟩,decide_eq_decide.2 Iff.rfl,.inr e,?_⟩
         ·simp[cQ,dh,ins,e,kH hh]
         ·intro y hy;simp at hy;subst hy;simp[tB,ins,eV,e,qU]
     ·simp only[if_neg h5]at he⊢;by_cases yM:v.arr≠decide (op=4)∨2<v.ty
      ·rw[if_pos yM]at he;simp[ck]at he
      ·simp only[if_neg yM]at he⊢;have xE:v.arr=decide (op=4):=by
        cases hq:v.arr<;>cases hq2:decide (op=4)<;>simp_all
       have aeL:¬2<v.ty:=fun h=>yM (.inr h);have htv:v.ty=1∨v.ty=2:=by
        rcases Dw fY with h|h
        ·exact h
        ·omega
       by_cases h4:op=4
       ·subst h4;simp only[if_pos,show ¬((4:Int)=3) by decide,if_false]at he⊢;obtain⟨z,rfl⟩:∃z,sub=[z]:=by
         match sub,hlen with
         |[z],_=>exact⟨z,rfl⟩
         |[],h=>simp[dJ]at h
         |_::_::_,h=>simp[dJ]at h
        rw[if_neg (by omega)]at ht;simp only[fF]at ht;obtain⟨⟨f,i1,_⟩,_,_,i4⟩:=ih z (by simp) S (by omega);have hze:=xe z (by simp);have mz:uT vs v.ty [z]=eP v.ty:=by
         simp only[uT]at he⊢;rw[if_neg (by simpa using hze)]at he⊢;split at he
         ·simp[ck]at he
         ·rename_i hz;rw[if_neg hz]
        rw[mz];have gp:v.arr=true:=by simpa using xE
        have hb:=AN.2.2.1;rw[if_pos gp]at hb;have hb:=of_decide_eq_true hb;have mQ:bN v=v.hi-v.lo+1:=by unfold bN;rw[if_pos gp]
        have qU:gG cells (cj vs name).1 (v.hi-v.lo+1)=true:=jh (by omega) (by omega) (by omega);have hh:S.length<64:=by omega
        simp only[lz,gi];rcases htv with e|e
        ·refine⟨⟨false,?_,fun h=>by simp[eP,e]at h⟩,decide_eq_decide.2 Iff.rfl,.inl e,?_⟩
         ·rw[dN,i1];simp[cQ,dh,ins,e,yJ,kH hh]
         ·intro y hy;rcases List.mem_append.1 hy with hy|hy
          ·exact i4 y hy
          ·simp at hy;subst hy;simp[tB,ins,eV,Ho,e,qU];omega
        ·refine⟨⟨true,?_,fun _=>rfl⟩,decide_eq_decide.2 Iff.rfl,.inr e,?_⟩
         ·rw[dN,i1];simp[cQ,dh,ins,e,yJ,kH hh]
         ·intro y hy;rcases List.mem_append.1 hy with hy|hy
          ·exact i4 y hy
          ·simp at hy;subst hy;simp[tB,ins,eV,Ho,e,qU];omega
       ·have h3:op=3:=by omega
        subst h3;have hh:S.length<64:=by
         rw[if_pos (by omega)]at ht;omega
        simp only[if_pos,if_neg h4,gi]at he⊢;have gp:¬v.arr=true:=by simp[xE]
        have mQ:bN v=1:=by unfold bN;rw[if_neg gp,if_neg (by omega)]
        have qU:gG cells (cj vs name).1 1=true:=jh (by omega) (by omega) (by omega);rcases htv with e|e
        ·refine⟨⟨false,?_,fun h=>by simp[eP,e]at h⟩,decide_eq_decide.2 Iff.rfl,.inl e,?_⟩
         ·simp[cQ,dh,ins,e,kH hh]
         ·intro y hy;simp at hy;subst hy;simp[tB,ins,eV,e,qU]
        ·refine⟨⟨true,?_,fun _=>rfl⟩,decide_eq_decide.2 Iff.rfl,.inr e,?_⟩
         ·simp[cQ,dh,ins,e,kH hh]
         ·intro y hy;simp at hy;subst hy;simp[tB,ins,eV,e,qU]
   ·have h3:¬op=3:=fun h=>pv (.inl h);have h4:¬op=4:=fun h=>pv (.inr (.inl h));have h5:¬op=5:=fun h=>pv (.inr (.inr h));simp only[if_neg pv,if_neg h3,if_neg h4,if_neg h5]at he⊢;rw[if_neg (by omega)]at ht;have hh:S.length<64:=by omega
    match sub,hlen,ih,he,ht with
    |[a],hlen,ih,he,ht=>
     have Zg:op=6∨op=7:=by
      simp only[dJ]at hlen;split at hlen
      ·omega
      ·split at hlen<;>simp at hlen
     simp only[fF]at ht;obtain⟨⟨f,i1,i2⟩,i3,i4,i5⟩:=ih a (by simp) S (by omega);obtain⟨_,_,q3,_,q5⟩:=gW he;simp only[qQ]at he⊢;simp only[q5,eY];rcases Zg with e|e
     ·subst e;have Ce:(aF vs a).t=1:=by rw[q3];rfl
      have hg:(ak vs a).2=false:=by rw[i3,Ce];rfl
      simp only[hg,Bool.false_eq_true,if_false,if_true];refine⟨⟨false,?_,fun h=>by simp[eP,gH]at h⟩,rfl,.inl rfl,?_⟩
      ·rw[dN,i1];simp[cQ,dh,ins,yJ,kH hh]
      ·intro y hy;rcases List.mem_append.1 hy with hy|hy
       ·exact i5 y hy
       ·simp at hy;subst hy;simp[tB,ins,eV,vY]
     ·subst e;have Ce:(aF vs a).t=2:=by rw[q3];rfl
      have hg:(ak vs a).2=true:=by rw[i3,Ce];rfl
      obtain rfl:=i2 Ce;simp only[hg,Bool.false_eq_true,if_false,if_true];refine⟨⟨true,?_,fun _=>rfl⟩,rfl,.inr rfl,?_⟩
      ·rw[dN,i1];simp[cQ,dh,ins,CL,kH hh]
      ·intro y hy;rcases List.mem_append.1 hy with hy|hy
       ·exact i5 y hy
       ·simp at hy;subst hy;simp[tB,ins,eV,vY]
    |[a,b],hlen,ih,he,ht=>
     have h8:8≤op:=by
      simp only[dJ]at hlen;split at hlen
      ·simp at hlen
      ·split at hlen
       ·omega
       ·simp at hlen
     simp only[fF]at ht;obtain⟨⟨f,i1,i2⟩,i3,i4,i5⟩:=ih a (by simp) S (by omega);have QJ:((S++[f]).length:Int)=S.length+1:=by simp
     obtain⟨⟨g,j1,j2⟩,j3,j4,j5⟩:=ih b (by simp) (S++[f]) (by rw[QJ];omega);obtain⟨_,_,q3,q4,q5⟩:=gW he;simp only[qQ]at he⊢;simp only[q5,eY];have dV:∀y∈(ak vs a).1++(ak vs b).1,tB cells y:=by
      intro y hy;rcases List.mem_append.1 hy with hy|hy
      ·exact i5 y hy
      ·exact j5 y hy
     have bP:cQ ((ak vs a).1++(ak vs b).1) S=some (S++[f]++[g]):=by rw[dN,i1];exact j1
     have Qh:(eP (gH op)).t=if op≤12 then 1 else 2:=by
      simp only[eP,gH];by_cases h:op≤12
      ·rw[if_pos (by omega),if_pos h]
      ·rw[if_neg (by omega),if_neg h]
     have aeN:decide (op=7∨12<op)=decide ((eP (gH op)).t=2):=by
      rw[Qh];by_cases h:op≤12
      ·rw[if_pos h];simp;omega
      ·rw[if_neg h];simp;omega
     have kQ:(eP (gH op)).t=1∨(eP (gH op)).t=2:=by
      rw[Qh];split<;>simp
     have iJ:(eP (gH op)).t=2→(decide (op=7)||decide (13≤op))=true:=by
      rw[Qh];split
      ·simp
      ·intro _;simp;omega
     rcases j4 with e|e
     ·have hg:(ak vs b).2=false:=by rw[j3,e];rfl
      have hT:gd op (aF vs a).t=1:=by rw[←q4];exact e
      have h18:op≤18:=by
       by_cases h:op≤18
       ·exact h
       ·exfalso;unfold gd at hT;rw[if_neg (by omega),if_neg (by omega)]at hT;omega
      simp only[hg,Bool.false_eq_true,if_false,if_true];refine⟨⟨decide (op=7)||decide (13≤op),?_,iJ⟩,aeN,kQ,?_⟩
      ·rw[dN,bP];have hb:¬(op=6∨op=7):=by omega
       simp only[Option.bind_some,cQ,dh,ins,Bool.false_eq_true,if_false];simp only[show ¬((8:Int)=1) by decide,show ¬((8:Int)=2) by decide,show ¬((8:Int)=3∨(8:Int)=13∨(8:Int)=14) by decide,show ¬((8:Int)=4) by decide,show ¬((8:Int)=5) by decide,show ¬((8:Int)=6) by decide,show ¬((8:Int)=7) by decide,if_false,if_true,hb,show decide ((0:Int)=1)=false by decide];change (((mK 2 false (S++[f]++[g])).bind _).bind _)=_
       rw[VR];simp only[Option.bind_some,kH hh];rfl
      ·intro y hy;rcases List.mem_append.1 hy with hy|hy
       ·exact dV y hy
       ·simp at hy;subst hy;simp[tB,ins,eV,vY];exact .inr ⟨decide_eq_true (by omega),decide_eq_true (by omega)⟩
     ·have hg:(ak vs b).2=true:=by rw[j3,e];rfl
      have hT:gd op (aF vs a).t=2:=by rw[←q4];exact e
      have Ce:(aF vs a).t=2:=by rw[q3];exact hT
      obtain rfl:=i2 Ce;obtain rfl:=j2 e;have apo:op=13∨op=14∨19≤op:=by
       unfold gd at hT;split at hT
       ·omega
       ·omega
      simp only[hg,Bool.false_eq_true,if_false,if_true];refine⟨⟨decide (op=7)||decide (13≤op),?_,iJ⟩,aeN,kQ,?_⟩
      ·rw[dN,bP];have hb:¬(op=6∨op=7):=by omega
       simp only[Option.bind_some,cQ,dh,ins,if_true];simp only[show ¬((8:Int)=1) by decide,show ¬((8:Int)=2) by decide,show ¬((8:Int)=3∨(8:Int)=13∨(8:Int)=14) by decide,show ¬((8:Int)=4) by decide,show ¬((8:Int)=5) by decide,show ¬((8:Int)=6) by decide,show ¬((8:Int)=7) by decide,if_false,if_true,hb,show decide ((1:Int)=1)=true by decide];change (((mK 2 true (S++[true]++[true])).bind _).bind _)=_
       rw[Zc];simp only[Option.bind_some,kH hh];rfl
      ·intro y hy;rcases List.mem_append.1 hy with hy|hy
       ·exact dV y hy
       ·simp at hy;subst hy;simp[tB,ins,eV,vY];rcases apo with h|h|h
        ·exact .inl (.inl (.inr (decide_eq_true h)))
        ·exact .inl (.inr (decide_eq_true h))
        ·exact .inr ⟨decide_eq_true h,decide_eq_true (by omega)⟩
    |[],hlen,_,_,_=>
     exfalso;simp only[dJ,List.length_nil]at hlen;split at hlen
     ·simp at hlen
     ·split at hlen
      ·simp at hlen
      ·omega
    |a::b::c::d,hlen,_,_,_=>
     exfalso;simp only[dJ]at hlen;split at hlen
     ·simp at hlen
     ·split at hlen<;>simp at hlen
termination_by x=>SizeOf.sizeOf x
decreasing_by all_goals (simp_wf;have:=List.sizeOf_lt_of_mem hy;omega)
end
def u9(cells:Int)(x:ar):Prop:=gw x∨(eV pnN cells 0 0 x=true∧x.op≠15)
structure gm(cells:Int)(ex:Bool)(e:Nat)(l:List ar):Prop where
 le:l.length≤e
 run:cQ l []=some []
 ok:∀x∈l,u9 cells x
 jmp:∀(i:Nat) x,l[i]?=some x→gw x→0≤x.a→x.a.toNat=e∨(x.a.toNat≤l.length∧cQ (l.take x.a.toNat) []=some []∧(i<x.a.toNat∨∃y,l[x.a.toNat]?=some y∧y.op=11))
 out:∀x∈l,gw x→x.a<0→x.op=9∧(x.a= -2∨(ex=true∧x.a= -1))
def Fg(cells:Int)(ex:Bool)(l:List ar):Prop:=gm cells ex l.length l
section
variable {cells:Int} {ex:Bool}
theorem Ip{k:Nat}{x:ar}:gw (mD k x)↔gw x:=by unfold gw;rw[CI]
theorem aeO{k:Nat}{x:ar}(h:u9 cells x):u9 cells (mD k x):=by
 rcases Th k x with e|⟨e,_⟩
 ·rw[e];exact h
 ·exact .inl (Ip.2 e)
theorem Tl{k:Nat}{x:ar}(hj:gw x)(h:0≤x.a):(mD k x).a=x.a+k:=by
 unfold mD;rw[if_pos ⟨hj,h⟩]
theorem Tm{k:Nat}{x:ar}(h:x.a<0):(mD k x).a=x.a:=by
 unfold mD;rw[if_neg (by rintro ⟨_,h'⟩;omega)]
theorem VV(k j:Nat)(l:List ar):(ig k l).take j=ig k (l.take j):=by simp[ig]
theorem Nj(k i:Nat)(l:List ar):(ig k l)[i]?=(l[i]?).map (mD k):=by simp[ig]
theorem gm.wk{e e':Nat}{l:List ar}(h:gm cells ex e l)(he:e=l.length)(h':l.length≤e'):gm cells ex e' l:=by
 subst he;refine⟨h',h.run,h.ok,fun i x hx hj ha=>?_,h.out⟩;rcases h.jmp i x hx hj ha with h1|h1
 ·right;have hi:=(List.getElem?_eq_some_iff.1 hx).1;exact⟨by omega,by rw[h1,List.take_length];exact h.run,.inl (by omega)⟩
 ·exact .inr h1
theorem gm.plain{l:List ar}(hr:cQ l []=some [])(ho:∀x∈l,u9 cells x)(hj:∀x∈l,¬gw x){e:Nat}(he:l.length≤e):gm cells ex e l:=
 ⟨he,hr,ho,fun _ x hx nB=>absurd nB (hj x (List.mem_of_getElem? hx)),fun x hx nB=>absurd nB (hj x hx)⟩
theorem gm.app{e e':Nat}{A B:List ar}(hB:gm cells ex e' B)(he:e=A.length+e')(hr:cQ A []=some [])(ho:∀x∈A,u9 cells x)
 (hj:∀(i:Nat) x,A[i]?=some x→gw x→0≤x.a→x.a.toNat=e∨(x.a.toNat≤A.length+B.length∧cQ ((A++ig A.length B).take x.a.toNat) []=some []∧(i<x.a.toNat∨∃y,(A++ig A.length B)[x.a.toNat]?=some y∧y.op=11)))
 (hn:∀x∈A,gw x→x.a<0→x.op=9∧(x.a= -2∨(ex=true∧x.a= -1))):gm cells ex e (A++ig A.length B):=by
 have hle:=hB.le;refine⟨by simp;omega,?_,?_,?_,?_⟩
 ·rw[dN,hr];show cQ (ig _ B) []=_;rw[DG];exact hB.run
 ·intro x hx;rcases List.mem_append.1 hx with hx|hx
  ·exact ho x hx
  ·obtain⟨y,hy,rfl⟩:=List.mem_map.1 hx;exact aeO (hB.ok y hy)
 ·intro i x hx Tn ha;by_cases hi:i<A.length
  ·rw[List.getElem?_append_left hi]at hx;rcases hj i x hx Tn ha with h|h
   ·exact .inl h
   ·refine .inr ⟨by simp;omega,h.2⟩
  ·rw[List.getElem?_append_right (by omega),Nj]at hx;obtain⟨y,hy,rfl⟩:=Option.map_eq_some_iff.1 hx;have EY:=Ip.1 Tn;have To:0≤y.a:=by
    by_cases h:0≤y.a
    ·exact h
    ·rw[Tm (by omega)]at ha;exact ha
   rw[Tl EY To];have et:(y.a+(A.length:Int)).toNat=A.length+y.a.toNat:=by omega
   rw[et];rcases hB.jmp _ y hy EY To with h|⟨h1,h2,h3⟩
   ·exact .inl (by omega)
   ·refine .inr ⟨by simp;omega,?_,?_⟩
    ·rw[List.take_append,List.take_of_length_le (by omega),dN,hr];show cQ ((ig _ B).take _) []=_;rw[VV,DG,Nat.add_sub_cancel_left];exact h2
    ·rcases h3 with h3|⟨z,hz,sR⟩
     ·exact .inl (by omega)
     ·refine .inr ⟨mD A.length z,?_,by rw[CI];exact sR⟩;rw[List.getElem?_append_right (by omega),Nj,Nat.add_sub_cancel_left,hz];rfl
 ·intro x hx Tn ha;rcases List.mem_append.1 hx with hx|hx
  ·exact hn x hx Tn ha
  ·obtain⟨y,hy,rfl⟩:=List.mem_map.1 hx;have EY:=Ip.1 Tn;have To:y.a<0:=by
    by_cases h:0≤y.a
    ·rw[Tl EY h]at ha;omega
    ·omega
   rw[Tm To,CI];exact hB.out y hy EY To
theorem gm.jn{e e':Nat}{a b:List ar}(ha:gm cells ex e a)(hb:gm cells ex e' b)(he:e=a.length+e'):gm cells ex e (jn a b):=by
 refine hb.app he ha.run ha.ok ?_ ha.out;intro i x hx hj h0;rcases ha.jmp i x hx hj h0 with h|⟨h1,h2,h3⟩
 ·exact .inl h
 ·refine .inr ⟨by omega,?_,?_⟩
  ·rw[List.take_append_of_le_length h1];exact h2
  ·rcases h3 with h3|⟨y,hy,nU⟩
   ·exact .inl h3
   ·exact .inr ⟨y,by rw[List.getElem?_append_left (List.getElem?_eq_some_iff.1 hy).1];exact hy,nU⟩
theorem Fg.jn{a b:List ar}(ha:Fg cells ex a)(hb:Fg cells ex b):Fg cells ex (jn a b):=by
 unfold Fg;rw[ei];exact gm.jn (ha.wk rfl (by omega)) hb rfl
theorem gm.tail{e e0:Nat}{l q:List ar}(h:gm cells ex e0 l)(h0:e0=e)(hr:cQ q []=some [])(ho:∀x∈q,u9 cells x)(hq:∀x∈q,gw x→x.a=0)
 (ht:∃y,(l++q)[0]?=some y∧y.op=11) (hl:(l++q).length≤e):gm cells ex e (l++q):=by
 subst h0;refine⟨hl,?_,?_,?_,?_⟩
 ·rw[dN,h.run];exact hr
 ·intro x hx;rcases List.mem_append.1 hx with hx|hx
  ·exact h.ok x hx
  ·exact ho x hx
 ·intro i x hx hj h0;by_cases hi:i<l.length
  ·rw[List.getElem?_append_left hi]at hx;rcases h.jmp i x hx hj h0 with h|⟨h1,h2,h3⟩
   ·exact .inl h
   ·refine .inr ⟨by simp;omega,by rw[List.take_append_of_le_length h1];exact h2,?_⟩;rcases h3 with h3|⟨y,hy,nU⟩
    ·exact .inl h3
    ·exact .inr ⟨y,by rw[List.getElem?_append_left (List.getElem?_eq_some_iff.1 hy).1];exact hy,nU⟩
  ·rw[List.getElem?_append_right (by omega)]at hx;have:=hq x (List.mem_of_getElem? hx) hj;rw[this];exact .inr ⟨by simp,rfl,.inr ht⟩
 ·intro x hx hj h0;rcases List.mem_append.1 hx with hx|hx
  ·exact h.out x hx hj h0
  ·have:=hq x hx hj;omega
theorem aeP{k:Int}{x:ar}(hk:0≤k):(sq k x).a<0→x.a<0∧¬(x.op=9∧x.a= -1)∧sq k x=x:=by
 unfold sq;split
 ·rename_i h;intro h';simp only at h';omega
 ·rename_i h;exact fun h'=>⟨h',h,rfl⟩
theorem Fg.Qi{l:List ar}(h:Fg cells true l):Fg cells ex (oz l):=by
 have hJ:∀x,gw (sq l.length x)↔gw x:=fun x=>by unfold gw;rw[H7]
 unfold Fg;rw[nq];refine⟨by simp,?_,?_,?_,?_⟩
 ·rw[oz,wu (Ii _)];exact h.run
 ·intro x hx;obtain⟨y,hy,rfl⟩:=List.mem_map.1 hx;rcases Ii (l.length:Int) y with e|⟨e,_⟩
  ·rw[e];exact h.ok y hy
  ·exact .inl ((hJ y).2 e)
 ·intro i x hx hj h0;unfold oz at hx;rw[List.getElem?_map]at hx;obtain⟨y,hy,rfl⟩:=Option.map_eq_some_iff.1 hx;by_cases D0:y.op=9∧y.a= -1
  ·left;unfold sq;rw[if_pos D0];simp
  ·have e:sq l.length y=y:=by unfold sq;rw[if_neg D0]
   rw[e]at h0⊢;rcases h.jmp i y hy ((hJ y).1 hj) h0 with h1|⟨h1,h2,h3⟩
   ·exact .inl h1
   ·refine .inr ⟨by simpa using h1,?_,?_⟩
    ·unfold oz;rw[←List.map_take,wu (Ii _)];exact h2
    ·rcases h3 with h3|⟨z,hz,sR⟩
     ·exact .inl h3
     ·refine .inr ⟨sq l.length z,?_,by rw[H7];exact sR⟩;unfold oz;rw[List.getElem?_map,hz];rfl
 ·intro x hx hj h0;obtain⟨y,hy,rfl⟩:=List.mem_map.1 hx;obtain⟨h1,h2,h3⟩:=aeP (by omega) h0;rw[h3]at h0⊢;obtain⟨q1,q2⟩:=h.out y hy ((hJ y).1 hj) h1;refine⟨q1,?_⟩;rcases q2 with q2|⟨_,q2⟩
  ·exact .inl q2
  ·exact absurd ⟨q1,q2⟩ h2
end
section
variable {cells:Int} {ex:Bool}
theorem ss{x:ar}(h:tB cells x):u9 cells x∧¬gw x:=by
 obtain⟨h1,h2,h3⟩:=h;exact⟨.inr ⟨h3,by omega⟩,by unfold gw;omega⟩
def Iq(cells:Int)(t:List ar):Prop:=cQ t []=some [true]∧∀x∈t,u9 cells x∧¬gw x
theorem Nk{e:Nat}(h:1≤e):gm cells ex e [ins 9 (e:Int) 0 0 0]:=by
 refine⟨by simpa using h,by simp[cQ,dh,ins,kz],?_,?_,?_⟩
 ·intro x hx;simp at hx;subst hx;exact .inl (.inl rfl)
 ·intro i x hx hj h0;cases i with
  |zero=>simp at hx;subst hx;exact .inl (by simp[ins])
  |succ i=>simp at hx
 ·intro x hx hj h0;simp at hx;subst hx;simp only[ins]at h0;omega
theorem Nl{e:Nat}{t p:List ar}(ht:Iq cells t)(hp:gm cells ex e p):gm cells ex (t.length+1+e) (t++[ins 10 ((t.length:Int)+1+p.length) 0 0 0]++ig (t.length+1) p):=by
 have hr:cQ (t++[ins 10 ((t.length:Int)+1+p.length) 0 0 0]) []=some []:=by
  rw[dN,ht.1];have:=CL [];simp only[List.nil_append]at this;simp[cQ,dh,ins,this,kz]
 have hl:(t++[ins 10 ((t.length:Int)+1+p.length) 0 0 0]).length=t.length+1:=by simp
 have:=hp.app (e:=t.length+1+e) (A:=t++[ins 10 ((t.length:Int)+1+p.length) 0 0 0]) (by rw[hl]) hr ?_ ?_ ?_
 ·rw[hl]at this;exact this
 ·intro x hx;rcases List.mem_append.1 hx with hx|hx
  ·exact (ht.2 x hx).1
  ·simp at hx;subst hx;exact .inl (.inr rfl)
 ·intro i x hx hj h0;by_cases hi:i<t.length
  ·rw[List.getElem?_append_left hi]at hx;exact absurd hj (ht.2 x (List.mem_of_getElem? hx)).2
  ·rw[List.getElem?_append_right (by omega)]at hx;have:i-t.length=0:=by
    have:=(List.getElem?_eq_some_iff.1 hx).1;simp at this;omega
   rw[this]at hx;simp at hx;subst hx;have e1:((ins 10 ((t.length:Int)+1+p.length) 0 0 0).a).toNat=t.length+1+p.length:=by simp only[ins];omega
   rw[e1];refine .inr ⟨by simp,?_,.inl (by omega)⟩;rw[List.take_of_length_le (by simp;omega)];rw[dN,hr];show cQ (ig _ p) []=_;rw[DG];exact hp.run
 ·intro x hx hj h0;rcases List.mem_append.1 hx with hx|hx
  ·exact absurd hj (ht.2 x hx).2
  ·simp at hx;subst hx;simp only[ins]at h0;omega
theorem zA(b:List ar)(r:List (List ar)):cK [] (b::r)=if r=[]then b else jn (b++[ins 9 ((b.length:Int)+1+(cK [] r).length) 0 0 0]) (cK [] r):=by rw[cK]
theorem Nn(b:List ar)(n:Nat):b++[ins 9 ((b.length:Int)+1+n) 0 0 0]=jn b [ins 9 (((1+n:Nat)):Int) 0 0 0]:=by
 simp only[jn,ig,List.map_cons,List.map_nil];congr 2;unfold mD;rw[if_pos ⟨.inl rfl,by simp only[ins];omega⟩];simp only[ins,ar.mk.injEq,true_and,and_true];omega
theorem FK:∀(ts bs:List (List ar)),(∀t∈ts,Iq cells t)→(∀b∈bs,Fg cells ex b)→Fg cells ex (cK ts bs)
 |[],[],_,_=>by
  rw[cK];exact gm.plain rfl (by simp) (by simp) (by simp)
 |_::_,[],_,_=>by
  rw[cK];exact gm.plain rfl (by simp) (by simp) (by simp)
 |[],b::r,ht,hb=>by
  have F0:=hb b (by simp);have ih:=FK [] r ht (fun x hx=>hb x (by simp[hx]));rw[zA];split
  ·exact F0
  ·generalize cK [] r=out at ih⊢;rw[Nn];have h1:gm cells ex (b.length+(1+out.length)) (jn b [ins 9 (((1+out.length:Nat)):Int) 0 0 0]):=gm.jn (F0.wk rfl (by omega)) (Nk (by omega)) rfl;unfold Fg;rw[ei];have e:(jn b [ins 9 (((1+out.length:Nat)):Int) 0 0 0]).length=b.length+1:=by rw[ei];rfl
   rw[e];have:=gm.jn (e:=b.length+1+out.length) (b:=out) (e':=out.length) (by rw[show b.length+1+out.length=b.length+(1+out.length) by omega];exact h1) ih (by rw[e]);exact this
 |t::ts,b::r,ht,hb=>by
  have F0:=hb b (by simp);have DV:=ht t (by simp);have ih:=FK ts r (fun x hx=>ht x (by simp[hx])) (fun x hx=>hb x (by simp[hx]));rw[cK];generalize cK ts r=out at ih⊢;split
  ·have h1:=Nl DV F0;have hl:(t++[ins 10 ((t.length:Int)+1+b.length) 0 0 0]++ig (t.length+1) b).length=t.length+1+b.length:=by simp;omega
   unfold Fg;rw[ei,hl];refine gm.jn (e':=out.length) ?_ ih (by rw[hl]);exact (show gm cells ex (t.length+1+b.length) _ from h1).wk hl.symm (by rw[hl];omega)
  ·rw[Nn];have h1:gm cells ex (b.length+(1+out.length)) (jn b [ins 9 (((1+out.length:Nat)):Int) 0 0 0]):=gm.jn (F0.wk rfl (by omega)) (Nk (by omega)) rfl;have h2:=Nl DV h1;have e:(jn b [ins 9 (((1+out.length:Nat)):Int) 0 0 0]).length=b.length+1:=by rw[ei];rfl
   generalize jn b [ins 9 (((1+out.length:Nat)):Int) 0 0 0]=part at h2 e⊢;have hl:(t++[ins 10 ((t.length:Int)+1+part.length) 0 0 0]++ig (t.length+1) part).length=t.length+1+(b.length+1):=by simp[e];omega
   unfold Fg;rw[ei,hl];refine gm.jn (e':=out.length) ?_ ih (by rw[hl]);rw[show t.length+1+(b.length+1)+out.length=t.length+1+(b.length+(1+out.length)) by omega];exact h2
theorem nM:u9 cells (ins 11 0 0 0 0)∧¬gw (ins 11 0 0 0 0):=⟨.inr ⟨by simp[eV,ins],by simp[ins]⟩,by simp[gw,ins]⟩
theorem Bb(S:List ar):cQ (ins 11 0 0 0 0::S) []=cQ S []:=by simp[cQ,dh,ins,kz]
theorem VW{t b:List ar}(ht:Iq cells t)(hb:Fg cells true b):Fg cells ex (gV t b):=by
 unfold gV;refine Fg.Qi ?_;have hl:(ins 11 0 0 0 0::t).length=t.length+1:=by simp
 have nJ:Iq cells (ins 11 0 0 0 0::t):=⟨by rw[Bb];exact ht.1,fun x hx=>by
  rcases List.mem_cons.1 hx with rfl|hx
  ·exact nM
  ·exact ht.2 x hx⟩
 --zO test leads behind zO jump back
 have hr:cQ (ins 11 0 0 0 0::t++[ins 10 ((t.length:Int)+3+b.length) 0 0 0]) []=some []:=by
  rw[dN,nJ.1];have:=CL [];simp only[List.nil_append]at this;simp[cQ,dh,ins,this,kz]
 have hA:(ins 11 0 0 0 0::t++[ins 10 ((t.length:Int)+3+b.length) 0 0 0]).length=t.length+2:=by simp
 have hBw:gm cells true (b.length+1) b:=gm.wk hb rfl (by omega);have h1:=hBw.app (e:=t.length+3+b.length) (A:=ins 11 0 0 0 0::t++[ins 10 ((t.length:Int)+3+b.length) 0 0 0]) (by rw[hA];omega) hr ?_ ?_ ?_
 ·rw[hA]at h1;unfold Fg;have e:(ins 11 0 0 0 0::t++[ins 10 ((t.length:Int)+3+b.length) 0 0 0]++ig (t.length+2) b++[ins 9 0 0 0 0]).length=t.length+3+b.length:=by simp;omega
  have h3:=gm.tail h1 (e:=t.length+3+b.length) rfl (q:=[ins 9 0 0 0 0]) (by simp[cQ,dh,ins,kz]) (by
   intro x hx;simp at hx;subst hx;exact .inl (.inl rfl)) (by
   intro x hx _;simp at hx;subst hx;rfl) ⟨ins 11 0 0 0 0,by simp,rfl⟩ (by rw[e];omega)
  rw[e];exact h3
 ·intro x hx;rcases List.mem_append.1 hx with hx|hx
  ·exact (nJ.2 x hx).1
  ·simp at hx;subst hx;exact .inl (.inr rfl)
 ·intro i x hx hj h0;by_cases hi:i<(ins 11 0 0 0 0::t).length
  ·rw[List.getElem?_append_left hi]at hx;exact absurd hj (nJ.2 x (List.mem_of_getElem? hx)).2
  ·rw[List.getElem?_append_right (by omega)]at hx;have:i-(ins 11 0 0 0 0::t).length=0:=by
    have:=(List.getElem?_eq_some_iff.1 hx).1;simp at this⊢;omega
   rw[this]at hx;simp at hx;subst hx;left;simp only[ins];omega
 ·intro x hx hj h0;rcases List.mem_append.1 hx with hx|hx
  ·exact absurd hj (nJ.2 x hx).2
  ·simp at hx;subst hx;simp only[ins]at h0;omega
theorem aeR{t b:List ar}(ht:Iq cells t)(hb:Fg cells true b)(hh:b=[]∨∃y,b[0]?=some y∧y.op=11):Fg cells ex (lA t b):=by
 unfold lA;refine Fg.Qi ?_;unfold Fg;have e:b++ins 11 0 0 0 0::t++[ins 10 0 0 0 0]=b++(ins 11 0 0 0 0::t++[ins 10 0 0 0 0]):=by simp
 rw[e];refine gm.tail (gm.wk hb rfl (by simp)) rfl ?_ ?_ ?_ ?_ (Nat.le_refl _)
 ·rw[dN,Bb,ht.1];have:=CL [];simp only[List.nil_append]at this;simp[cQ,dh,ins,this,kz]
 ·intro x hx;rcases List.mem_append.1 hx with hx|hx
  ·rcases List.mem_cons.1 hx with rfl|hx
   ·exact (nM (cells:=cells)).1
   ·exact (ht.2 x hx).1
  ·simp at hx;subst hx;exact .inl (.inr rfl)
 ·intro x hx hj;rcases List.mem_append.1 hx with hx|hx
  ·rcases List.mem_cons.1 hx with rfl|hx
   ·exact absurd hj (nM (cells:=cells)).2
   ·exact absurd hj (ht.2 x hx).2
  ·simp at hx;subst hx;rfl
 ·rcases hh with rfl|⟨y,hy,nU⟩
  ·exact⟨ins 11 0 0 0 0,by simp,rfl⟩
  ·exact⟨y,by rw[List.getElem?_append_left (List.getElem?_eq_some_iff.1 hy).1];exact hy,nU⟩
theorem aeS{a c:Int}{b:List ar}(ha:gG cells a 1=true)(hc:gG cells c 2=true)(sJ:gG cells (c+1) 1=true)(hb:Fg cells true b):Fg cells ex (kE a c b):=by
 unfold kE;refine Fg.Qi ?_;have hr:cQ [ins 11 0 0 0 0,ins 13 a c 0 0,ins 10 ((b.length:Int)+8) 0 0 0] []=some []:=by
  have:=CL [];simp only[List.nil_append]at this;simp[cQ,dh,ins,this,kz,nc]
 have hBw:gm cells true (b.length+5) b:=gm.wk hb rfl (by omega);have h1:=hBw.app (e:=b.length+8) (A:=[ins 11 0 0 0 0,ins 13 a c 0 0,ins 10 ((b.length:Int)+8) 0 0 0]) (by simp;omega) hr ?_ ?_ ?_
 ·unfold Fg;have e:([ins 11 0 0 0 0,ins 13 a c 0 0,ins 10 ((b.length:Int)+8) 0 0 0]++ig 3 b++[ins 2 a 0 0 0,ins 2 (c+1) 0 0 0,ins 8 0 8 0 0,ins 6 a 0 0 0,ins 9 0 0 0 0]).length=b.length+8:=by simp
  have h3:=gm.tail h1 (e:=b.length+8) rfl (q:=[ins 2 a 0 0 0,ins 2 (c+1) 0 0 0,ins 8 0 8 0 0,ins 6 a 0 0 0,ins 9 0 0 0 0]) (by
   have h2:=VR [] false false;have h1:=yJ [] false;simp only[List.nil_append,List.cons_append]at h1 h2;simp[cQ,dh,ins,kz,nc,h1,h2]) (by
   intro x hx;simp at hx;rcases hx with rfl|rfl|rfl|rfl|rfl
   ·exact .inr ⟨by simp[eV,ins,ha],by simp[ins]⟩
   ·exact .inr ⟨by simp[eV,ins,sJ],by simp[ins]⟩
   ·exact .inr ⟨by simp[eV,ins,vY],by simp[ins]⟩
   ·exact .inr ⟨by simp[eV,ins,ha],by simp[ins]⟩
   ·exact .inl (.inl rfl)) (by
   intro x hx hj;simp at hx;rcases hx with rfl|rfl|rfl|rfl|rfl
   ·simp[gw,ins]at hj
   ·simp[gw,ins]at hj
   ·simp[gw,ins]at hj
   ·simp[gw,ins]at hj
   ·rfl) ⟨ins 11 0 0 0 0,rfl,rfl⟩ (by rw[←e];exact Nat.le_refl _)
  rw[e];exact h3
 ·intro x hx;simp at hx;rcases hx with rfl|rfl|rfl
  ·exact (nM (cells:=cells)).1
  ·exact .inr ⟨by simp[eV,ins,ha,hc],by simp[ins]⟩
  ·exact .inl (.inr rfl)
 ·intro i x hx hj h0;match i,hx with
  |0,hx=>simp at hx;subst hx;exact absurd hj (nM (cells:=cells)).2
  |1,hx=>simp at hx;subst hx;simp[gw,ins]at hj
  |2,hx=>
   simp at hx;subst hx;left;simp only[ins];omega
  |i+3,hx=>simp at hx
 ·intro x hx hj h0;simp at hx;rcases hx with rfl|rfl|rfl
  ·exact absurd hj (nM (cells:=cells)).2
  ·simp[gw,ins]at hj
  ·simp only[ins]at h0;omega
end
section
variable {vs:List Vr}
mutual
theorem yN:∀(s:Sm)(c:Int),c≤(cM vs s c).2
 | .mk op name to val conds labels fields blocks line,c=>by
  have h1:=oB blocks;have h2:=EZ blocks;unfold cM;split
  ·exact Int.le_refl _
  ·split
   ·exact h1 c
   ·split
    ·have:=h1 (c+1);simp only;omega
    ·split
     ·have:=h2 (c+2);simp only;omega
     ·split
      ·exact h2 c
      ·split
       ·exact h2 c
       ·split
        ·exact Int.le_refl _
        ·split<;>exact Int.le_refl _
theorem gI:∀(l:List Sm)(c:Int),c≤(ag vs l c).2
 |[],c=>Int.le_refl _
 |x::r,c=>by
  have h1:=yN x c;have h2:=gI r (cM vs x c).2;simp only[ag];omega
theorem oB:∀(l:List (List Sm))(c:Int),c≤(aw vs l c).2
 |[],c=>Int.le_refl _
 |b::r,c=>by
  have h1:=gI b c;have h2:=oB r (ag vs b c).2;simp only[aw];omega
theorem EZ:∀(l:List (List Sm))(c:Int),c≤(kF vs l c).2
 |[],c=>Int.le_refl _
 |b::r,c=>gI b c
end
end
theorem Qj(vs:List Vr):∀(l:List Sm)(c:Int),(ag vs l c).1=[]∨∃y,(ag vs l c).1[0]?=some y∧y.op=11
 |[],c=>.inl rfl
 |x::r,c=>.inr ⟨ins 11 0 0 0 0,by simp[ag,jn],rfl⟩
theorem No{h:Int}:∀{l:List Ex},jU l≤h→∀x∈l,aL 0 x≤h
 |y::r,ht,x,hx=>by
  simp only[jU]at ht;rcases List.mem_cons.1 hx with rfl|hx
  ·omega
  ·exact No (by omega) x hx
section
variable {vs:List Vr} {cells:Int} (cS:∀v∈vs,dj v=true) (hc:b8 vs≤cells)
include cS hc
theorem Ir{x:Ex}(hf:bk x=true)(hw:(dn vs x 2).1=0)(ht:aL 0 x≤64):Iq cells (ak vs x).1:=by
 obtain⟨h1,h2⟩:=gX.1 hw;obtain⟨⟨f,i1,i2⟩,_,_,i4⟩:=nL cS hc x [] hf h1 (by simpa using ht);obtain rfl:=i2 h2;exact⟨i1,fun y hy=>ss (i4 y hy)⟩
theorem It{ex:Bool}{x:Ex}{a:Int}(hf:bk x=true)(he:(aF vs x).e=0)(ht:aL 0 x≤64)(ha:gG cells a 1=true):cQ ((ak vs x).1++[ins 6 a 0 0 0]) []=some []∧∀y∈(ak vs x).1++[ins 6 a 0 0 0],u9 cells y∧¬gw y:=by
 obtain⟨⟨f,i1,i2⟩,_,_,i4⟩:=nL cS hc x [] hf he (by simpa using ht);constructor
 ·rw[dN,i1];have:=yJ [] f;simp only[List.nil_append]at this;simp[cQ,dh,ins,this]
 ·intro y hy;rcases List.mem_append.1 hy with hy|hy
  ·exact ss (i4 y hy)
  ·simp at hy;subst hy;exact⟨.inr ⟨by simp[eV,ins,ha],by simp[ins]⟩,by simp[gw,ins]⟩
theorem su{ex:Bool}{l:List ar}(h:cQ l []=some []∧∀y∈l,u9 cells y∧¬gw y):Fg cells ex l:=
 gm.plain h.1 (fun x hx=>(h.2 x hx).1) (fun x hx=>(h.2 x hx).2) (Nat.le_refl _)
omit cS in
theorem Z4{c:Int}(h:gG cells c 1=true)(l:List Int):Iq cells (ins 1 0 0 0 0::dH c l):=by
 have key:∀(n:Nat)(l:List Int),l.length≤n→cQ (dH c l) [true]=some [true]∧∀x∈dH c l,u9 cells x∧¬gw x:=by
  intro n;induction n with
  |zero=>
   intro l hl;obtain rfl:l=[]:=List.eq_nil_of_length_eq_zero (by omega);exact⟨rfl,by simp[dH]⟩
  |succ n ih=>
   intro l hl;match l,hl with
   |[],_=>exact⟨rfl,by simp[dH]⟩
   |[a],_=>exact⟨rfl,by simp[dH]⟩
   |a::b::r,hl=>
    obtain⟨i1,i2⟩:=ih r (by simp at hl;omega);constructor
    ·have:=Zc [];simp only[List.nil_append,List.cons_append]at this;simp[dH,cQ,dh,ins,nc,this,i1]
    ·intro x hx;simp only[dH,List.mem_cons]at hx;rcases hx with rfl|rfl|hx
     ·exact⟨.inr ⟨by simp[eV,ins,h],by simp[ins]⟩,by simp[gw,ins]⟩
     ·exact⟨.inr ⟨by simp[eV,ins,vY],by simp[ins]⟩,by simp[gw,ins]⟩
     ·exact i2 x hx
 obtain⟨i1,i2⟩:=key l.length l (Nat.le_refl _);refine⟨by simp[cQ,dh,ins,nc,i1],fun x hx=>?_⟩;rcases List.mem_cons.1 hx with rfl|hx
 ·exact⟨.inr ⟨by simp[eV,ins],by simp[ins]⟩,by simp[gw,ins]⟩
 ·exact i2 x hx
theorem Iu{s:Tx}{v:Vr}(h:aZ vs s=some v)(ha:¬v.arr=true)(ht:v.ty≤2):gG cells (cj vs s).1 1=true:=by
 have Ad:∀v∈vs,0≤bN v:=fun v hv=>nK (cS v hv);have aO:=tv Ad h;have mQ:bN v=1:=by unfold bN;rw[if_neg ha,if_neg (by omega)]
 exact jh (by omega) (by omega) (by omega)
theorem Z5{s:Tx}{v:Vr}(h:aZ vs s=some v)(ha:v.arr=true):Ho cells (ins 7 (cj vs s).1 0 v.lo v.hi)=true:=by
 have Ad:∀v∈vs,0≤bN v:=fun v hv=>nK (cS v hv);have aO:=tv Ad h;have fY:=cS v (qo h).1;simp only[dj,Bool.and_eq_true]at fY;have hb:=fY.2.2.1;rw[if_pos ha]at hb;have hb:=of_decide_eq_true hb;have mQ:bN v=v.hi-v.lo+1:=by unfold bN;rw[if_pos ha]
 have qU:gG cells (cj vs s).1 (v.hi-v.lo+1)=true:=jh (by omega) (by omega) (by omega);unfold Ho;simp only[Bool.and_eq_true];exact⟨⟨⟨decide_eq_true (show (0:Int)≤v.lo by omega),decide_eq_true (show v.lo≤v.hi by omega)⟩,decide_eq_true (show v.hi≤255 by omega)⟩,qU⟩
theorem E0{s:Tx}{v:Vr}(h:aZ vs s=some v)(ht:2<v.ty):0≤(cj vs s).1∧(cj vs s).1+(bC v.ty).length≤cells∧0<(bC v.ty).length:=by
 have Ad:∀v∈vs,0≤bN v:=fun v hv=>nK (cS v hv);have aO:=tv Ad h;have fY:=cS v (qo h).1;have hk:om v.ty=true:=by
  rcases Dw fY with h|h
  ·omega
  ·exact h.2.2
 simp only[dj,Bool.and_eq_true]at fY;have gp:¬v.arr=true:=by
  intro ha;have hb:=fY.2.2.1;rw[if_pos ha]at hb;have hb:=of_decide_eq_true hb;omega
 have mQ:bN v=(bC v.ty).length:=by unfold bN;rw[if_neg gp,if_pos ht]
 refine⟨by omega,by omega,?_⟩;unfold om at hk;have:=of_decide_eq_true hk;omega
theorem aiy{ex:Bool}{to val:Ex}{line:Int}(h3:bW to=3∨bW to=4)(f1:bk to=true)(f2:bk val=true)(h:(Ae vs to val line).1=0)(ht:(if bW to=3 then aL 0 val else max (fF 0 (cN to)) (aL 1 val))≤64):
 Fg cells ex (if bW to=3 then (ak vs val).1++[ins 6 (cj vs (dA to)).1 0 0 0]else lz vs (cN to)++((ak vs val).1++[ins 7 (cj vs (dA to)).1 0 (cj vs (dA to)).2.lo (cj vs (dA to)).2.hi])):=by
 obtain⟨op,n,name,field,sub,l⟩:=to;simp only[mZ,yz,m4]at h3 ht⊢;unfold Ae at h;simp only[yz]at h;cases hv:aZ vs name with
 |none=>rw[hv]at h;simp at h
 |some v=>
  rw[hv]at h;simp only at h;split at h
  ·simp at h
  ·obtain⟨q1,q2'⟩:=bH.1 h;obtain⟨apq,_⟩:=bH.1 q2';have q1:(aF vs (.mk op n name field sub l)).e=0:=q1;have q2:(aF vs val).e=0:=apq;have xe:=u4 f1 q1;obtain⟨hlen,eQ⟩:=rz f1;have gi:=gY hv;unfold aF at q1;rw[if_neg (by omega),if_pos (by omega),hv]at q1;simp only at q1;rw[if_neg (by omega)]at q1;by_cases yM:v.arr≠decide (op=4)∨2<v.ty
   ·rw[if_pos yM]at q1;simp[ck]at q1
   ·have xE:v.arr=decide (op=4):=by
     cases hq:v.arr<;>cases hq2:decide (op=4)<;>simp_all
    have aeL:¬2<v.ty:=fun h=>yM (.inr h);by_cases ho:op=3
    ·subst ho;have ht:aL 0 val≤64:=ht;have gp:¬v.arr=true:=by rw[xE];decide
     exact su (l:=(ak vs val).1++[ins 6 (cj vs name).1 0 0 0]) cS hc (It (ex:=ex) cS hc f2 q2 ht (Iu cS hc hv gp (by omega)))
    ·have ho4:op=4:=by omega
     subst ho4;have ht:max (fF 0 sub) (aL 1 val)≤64:=ht;obtain⟨z,rfl⟩:∃z,sub=[z]:=by
      match sub,hlen with
      |[z],_=>exact⟨z,rfl⟩
      |[],h=>simp[dJ]at h
      |_::_::_,h=>simp[dJ]at h
     simp only[fF]at ht;have hz:=(gj _).1 eQ z (by simp);obtain⟨⟨f,i1,_⟩,_,_,i4⟩:=nL cS hc z [] hz (xe z (by simp)) (by simp;omega);obtain⟨⟨g,j1,_⟩,_,_,j4⟩:=nL cS hc val [f] f2 q2 (by simp;omega);have gp:v.arr=true:=by rw[xE];decide
     have hb:=Z5 cS hc hv gp;simp only[lz,gi];refine su (l:=(ak vs z).1++((ak vs val).1++[ins 7 (cj vs name).1 0 v.lo v.hi])) cS hc ⟨?_,?_⟩
     ·rw[dN,i1];simp only[List.nil_append,Option.bind_some];rw[dN,j1];have:=VR [] f g;simp only[List.nil_append,List.cons_append]at this;simp[cQ,dh,ins,this]
     ·intro y hy;rcases List.mem_append.1 hy with hy|hy
      ·exact ss (i4 y hy)
      ·rcases List.mem_append.1 hy with hy|hy
       ·exact ss (j4 y hy)
       ·simp at hy;subst hy;refine⟨.inr ⟨?_,by simp[ins]⟩,by simp[gw,ins]⟩;unfold eV;simp only[ins]at hb⊢;simpa using hb
theorem Np{name:Tx}{v:Vr}{line:Int}(hv:aZ vs name=some v)(ht:2<v.ty):∀(fs:List Tx)(xs:List Ex)(p:List Tx),xs.length=fs.length→bA xs=true→(gQ vs v.ty line fs xs p).1=0→jU xs≤64→
 cQ (dw vs name fs xs) []=some []∧∀y∈dw vs name fs xs,u9 cells y∧¬gw y
 |[],[],p,_,_,_,_=>⟨rfl,by simp[dw]⟩
 |f::fs,x::xs,p,hl,hf,h,BA=>by
  simp only[bA,Bool.and_eq_true]at hf;simp only[jU]at BA;unfold gQ at h;cases hp:jS v.ty f with
  |none=>rw[hp]at h;simp at h
  |some q=>
   rw[hp]at h;simp only at h;split at h
   ·simp at h
   ·split at h
    ·simp at h
    ·obtain⟨h3,h4⟩:=bH.1 h;obtain⟨i1,i2⟩:=Np hv ht fs xs (p++[f]) (by simpa using hl) hf.2 h4 (by omega);obtain⟨_,q2,j,q3,q4⟩:=rD hv ht hp;obtain⟨b1,b2,b3⟩:=E0 cS hc hv ht;have qU:gG cells (ir vs name f).1 1=true:=jh (by rw[q3];omega) (by omega) (by rw[q3];omega);obtain⟨j1,j2⟩:=It (ex:=false) cS hc hf.1 (gX.1 h3).1 (by omega) qU;have e:dw vs name (f::fs) (x::xs)=((ak vs x).1++[ins 6 (ir vs name f).1 0 0 0])++dw vs name fs xs:=by simp[dw]
     rw[e];constructor
     ·rw[dN,j1];exact i1
     ·intro y hy;rcases List.mem_append.1 hy with hy|hy
      ·exact j2 y hy
      ·exact i2 y hy
 |[],_::_,_,hl,_,_,_=>by simp at hl
 |_::_,[],_,hl,_,_,_=>by simp at hl
end
theorem qt{vs:List Vr}{loops:Bool}:∀{cs:List Ex}{l:List (List Sm)},cs.length≤l.length→(fu vs loops cs l).1=0→∀x∈cs,(dn vs x 2).1=0
 |c::cs,b::r,hl,h,x,hx=>by
  obtain⟨h1,h2⟩:=bH.1 h;obtain⟨_,h3⟩:=bH.1 h2;rcases List.mem_cons.1 hx with rfl|hx
  ·exact h1
  ·exact qt (by simpa using hl) h3 x hx
 |_::_,[],hl,_,_,_=>by simp at hl
section
variable {vs:List Vr} {cells:Int} (cS:∀v∈vs,dj v=true) (hc:b8 vs≤cells)
include cS hc
mutual
theorem Z6(loops:Bool):∀(s:Sm)(c:Int),iH s=true→(jk vs loops s).1=0→gq s≤64→0≤c→(cM vs s c).2≤cells→Fg cells loops (cM vs s c).1
 | .mk op name to val conds labels fields blocks line,c,hf,h,ht,gR,eT=>by
  simp only[iH,Bool.and_eq_true,decide_eq_true_eq]at hf;obtain⟨cU,eO,cC,cm,ej,bJ,rB,rC,dI⟩:=hf;have vf:(op=1∨op=3∨op=5∨op=6)→bk val=true:=by
   intro h1;rw[if_pos h1]at cm;simp only[Bool.and_eq_true]at cm;exact cm.2
  unfold jk at h;unfold gq at ht;unfold cM at eT⊢;by_cases h1:op=1
  ·subst h1;rw[if_pos rfl]at h;rw[if_pos rfl]at cC;simp only[Bool.and_eq_true,decide_eq_true_eq]at cC;simp only[if_true]at ht⊢;exact aiy cS hc cC.1 cC.2 (vf (.inl rfl)) h ht
  ·rw[if_neg h1]at h ht;simp only[if_neg h1]at eT⊢;by_cases h2:op=2
   ·subst h2;rw[if_pos rfl]at h ht;simp only[if_true]at eT⊢;have hs:bG 2 conds.length labels.length fields.length blocks.length=true:=bJ;simp[bG]at hs;refine FK _ _ ?_ (wA loops conds blocks c dI h (by omega) gR eT);intro t DV;obtain⟨x,hx,rfl⟩:=List.mem_map.1 DV;exact Ir cS hc ((gj _).1 ej x hx) (qt (by omega) h x hx) (No (by omega) x hx)
   ·rw[if_neg h2]at h ht;simp only[if_neg h2]at eT⊢;by_cases h3:op=3
    ·subst h3;rw[if_pos rfl]at h ht;simp only[if_true]at eT⊢;obtain⟨q1,q2⟩:=bH.1 h;have hm:=oB (vs:=vs) blocks (c+1);have nS:gG cells c 1=true:=jh gR (by omega) (by omega);refine Fg.jn (su cS hc (It (ex:=loops) cS hc (vf (.inr (.inl rfl))) (gX.1 q1).1 (by omega) nS)) ?_;refine FK _ _ ?_ (wA loops [] blocks (c+1) dI q2 (by omega) (by omega) eT);intro t DV;obtain⟨l,hl,rfl⟩:=List.mem_map.1 DV;exact Z4 hc nS l
    ·rw[if_neg h3]at h ht;simp only[if_neg h3]at eT⊢;by_cases h4:op=4
     ·subst h4;rw[if_pos rfl]at h ht;simp only[if_true]at eT⊢;have hs:bG 4 conds.length labels.length fields.length blocks.length=true:=bJ;simp[bG]at hs;obtain⟨aO,_,_,fG⟩:=hs;cases hv:aZ vs name with
      |none=>rw[hv]at h;simp at h
      |some v=>
       rw[hv]at h;simp only at h;split at h
       ·simp at h
       ·split at h
        ·simp at h
        ·rename_i g2;obtain⟨q1,q2⟩:=bH.1 h;have hm:=EZ (vs:=vs) blocks (c+2);have oN:=Iu cS hc hv (fun e=>g2 (.inl e)) (by omega);have c1:gG cells c 1=true:=jh gR (by omega) (by omega);have c2:gG cells (c+1) 1=true:=jh (by omega) (by omega) (by omega);have c3:gG cells c 2=true:=jh gR (by omega) (by omega);refine Fg.jn ?_ (aeS oN c3 c2 (DJ blocks (c+2) dI q2 fG (by omega) (by omega) eT));obtain⟨x,y,z,rfl⟩:∃x y z,conds=[x,y,z]:=by
          match conds,aO with
          |[x,y,z],_=>exact⟨x,y,z,rfl⟩
         obtain⟨w1,w2⟩:=bH.1 q1;obtain⟨w2,w3⟩:=bH.1 w2;obtain⟨w3,_⟩:=bH.1 w3;simp only[bA,Bool.and_eq_true]at ej;simp only[fF,Int.zero_add,Int.reduceAdd]at ht;obtain⟨⟨f,i1,_⟩,_,_,i4⟩:=nL cS hc x [] ej.1 (gX.1 w1).1 (by simp;omega);obtain⟨⟨g,j1,_⟩,_,_,j4⟩:=nL cS hc y [f] ej.2.1 (gX.1 w2).1 (by simp;omega);obtain⟨⟨k,k1,_⟩,_,_,k4⟩:=nL cS hc z [f,g] ej.2.2.1 (gX.1 w3).1 (by simp;omega);refine su cS hc ⟨?_,?_⟩
         ·simp only[eY];rw[dN,dN,i1];simp only[List.nil_append,Option.bind_some];rw[dN,j1];simp only[List.cons_append,List.nil_append,Option.bind_some];rw[k1];have t1:=yJ [f,g] k;have t2:=yJ [f] g;have t3:=yJ [] f;simp only[List.cons_append,List.nil_append]at t1 t2 t3;simp[cQ,dh,ins,t1,t2,t3]
         ·intro a ha;simp only[eY,List.mem_append,List.mem_cons,List.not_mem_nil,or_false]at ha;rcases ha with (ha|ha|ha)|rfl|rfl|rfl
          ·exact ss (i4 a ha)
          ·exact ss (j4 a ha)
          ·exact ss (k4 a ha)
          ·exact⟨.inr ⟨by simp[eV,ins,c2],by simp[ins]⟩,by simp[gw,ins]⟩
          ·exact⟨.inr ⟨by simp[eV,ins,c1],by simp[ins]⟩,by simp[gw,ins]⟩
          ·exact⟨.inr ⟨by simp[eV,ins,oN],by simp[ins]⟩,by simp[gw,ins]⟩
     ·rw[if_neg h4]at h ht;simp only[if_neg h4]at eT⊢;by_cases h5:op=5
      ·subst h5;rw[if_pos rfl]at h;rw[if_pos (.inl rfl)]at ht;simp only[if_true]at eT⊢;have hs:bG 5 conds.length labels.length fields.length blocks.length=true:=bJ;simp[bG]at hs;obtain⟨q1,q2⟩:=bH.1 h;exact VW (Ir cS hc (vf (.inr (.inr (.inl rfl)))) q1 (by omega)) (DJ blocks c dI q2 hs.2.2.2 (by omega) gR eT)
      ·rw[if_neg h5]at h;simp only[if_neg h5]at eT⊢;by_cases h6:op=6
       ·subst h6;rw[if_pos rfl]at h;rw[if_pos (.inr rfl)]at ht;simp only[if_true]at eT⊢;have hs:bG 6 conds.length labels.length fields.length blocks.length=true:=bJ;simp[bG]at hs;obtain⟨q1,q2⟩:=bH.1 h;refine aeR (Ir cS hc (vf (.inr (.inr (.inr rfl)))) q2 (by omega)) (DJ blocks c dI q1 hs.2.2.2 (by omega) gR eT) ?_;match blocks,hs.2.2.2 with
        |[b],_=>exact Qj vs b c
       ·rw[if_neg h6]at h;rw[if_neg (by omega)]at ht;simp only[if_neg h6]at eT⊢;by_cases h7:op=7
        ·subst h7;rw[if_pos rfl]at h;simp only[if_true]at⊢;split at h
         ·rename_i cJ;subst cJ;refine⟨Nat.le_refl _,by simp[cQ,dh,ins,kz],?_,?_,?_⟩
          ·intro x hx;simp at hx;subst hx;exact .inl (.inl rfl)
          ·intro i x hx hj h0;cases i with
           |zero=>simp at hx;subst hx;simp[ins]at h0
           |succ i=>simp at hx
          ·intro x hx hj h0;simp at hx;subst hx;exact⟨rfl,.inr ⟨rfl,rfl⟩⟩
         ·simp at h
        ·rw[if_neg h7]at h;simp only[if_neg h7]at⊢;by_cases h8:op=8
         ·subst h8;simp only[if_true];refine⟨Nat.le_refl _,by simp[cQ,dh,ins,kz],?_,?_,?_⟩
          ·intro x hx;simp at hx;subst hx;exact .inl (.inl rfl)
          ·intro i x hx hj h0;cases i with
           |zero=>simp at hx;subst hx;simp[ins]at h0
           |succ i=>simp at hx
          ·intro x hx hj h0;simp at hx;subst hx;exact⟨rfl,.inl rfl⟩
         ·have h9:op=9:=by omega
          subst h9;rw[if_pos rfl]at h;rw[if_neg (by omega)]at ht;simp only[if_neg h8];have hs:bG 9 conds.length labels.length fields.length blocks.length=true:=bJ;simp[bG]at hs;cases hv:aZ vs name with
          |none=>rw[hv]at h;simp at h
          |some v=>
           rw[hv]at h;simp only at h;split at h
           ·simp at h
           ·rename_i g1;have gi:=gY hv;obtain⟨i1,i2⟩:=Np cS hc hv (by omega) fields conds [] hs.1 ej h ht;obtain⟨b1,b2,b3⟩:=E0 cS hc hv (by omega);refine su cS hc ⟨?_,?_⟩
            ·rw[dN,i1];simp[cQ,dh,ins,kz]
            ·intro y hy;rcases List.mem_append.1 hy with hy|hy
             ·exact i2 y hy
             ·simp at hy;subst hy;refine⟨.inr ⟨?_,by simp[ins]⟩,by simp[gw,ins]⟩;rw[gi];have qU:gG cells (cj vs name).1 (bC v.ty).length=true:=jh b1 (by omega) b2;simp[eV,ins,pnN,qU];exact decide_eq_true b3
theorem sw(loops:Bool):∀(l:List Sm)(c:Int),eh l=true→(er vs loops l).1=0→bg l≤64→0≤c→(ag vs l c).2≤cells→Fg cells loops (ag vs l c).1
 |[],c,_,_,_,_,_=>gm.plain rfl (by simp[ag]) (by simp[ag]) (Nat.le_refl _)
 |x::r,c,hf,h,ht,gR,eT=>by
  simp only[eh,Bool.and_eq_true]at hf;simp only[bg]at ht;obtain⟨h1,h2⟩:=bH.1 h;simp only[ag]at eT⊢;have m1:=yN (vs:=vs) x c;have m2:=gI (vs:=vs) r (cM vs x c).2;have i1:=Z6 loops x c hf.1 h1 (by omega) gR (by omega);have i2:=sw loops r (cM vs x c).2 hf.2 h2 (by omega) (by omega) eT;have tk:Fg cells loops [ins 11 0 0 0 0]:=gm.plain (by rw[Bb];rfl) (fun x hx=>by simp at hx;subst hx;exact nM.1) (fun x hx=>by simp at hx;subst hx;exact (nM (cells:=cells)).2) (Nat.le_refl _);exact Fg.jn (Fg.jn tk i1) i2
theorem wA(loops:Bool):∀(cs:List Ex)(l:List (List Sm))(c:Int),cB l=true→(fu vs loops cs l).1=0→b6 l≤64→0≤c→(aw vs l c).2≤cells→∀b∈(aw vs l c).1,Fg cells loops b
 |_,[],c,_,_,_,_,_,b,hb=>by simp[aw]at hb
 |[],x::r,c,hf,h,ht,gR,eT,b,hb=>by
  simp only[cB,Bool.and_eq_true]at hf;simp only[b6]at ht;obtain⟨h1,h2⟩:=bH.1 h;simp only[aw]at eT hb;have m1:=gI (vs:=vs) x c;have m2:=oB (vs:=vs) r (ag vs x c).2;have i1:=sw loops x c hf.1 h1 (by omega) gR (by omega);have i2:=wA loops [] r (ag vs x c).2 hf.2 h2 (by omega) (by omega) eT;rcases List.mem_cons.1 hb with rfl|hb
  ·exact i1
  ·exact i2 b hb
 |_::cs,x::r,c,hf,h,ht,gR,eT,b,hb=>by
  simp only[cB,Bool.and_eq_true]at hf;simp only[b6]at ht;obtain⟨_,h⟩:=bH.1 h;obtain⟨h1,h2⟩:=bH.1 h;simp only[aw]at eT hb;have m1:=gI (vs:=vs) x c;have m2:=oB (vs:=vs) r (ag vs x c).2;have i1:=sw loops x c hf.1 h1 (by omega) gR (by omega);have i2:=wA loops cs r (ag vs x c).2 hf.2 h2 (by omega) (by omega) eT;rcases List.mem_cons.1 hb with rfl|hb
  ·exact i1
  ·exact i2 b hb
theorem DJ:∀(l:List (List Sm))(c:Int),cB l=true→(sm vs l).1=0→l.length=1→b6 l≤64→0≤c→(kF vs l c).2≤cells→Fg cells true (kF vs l c).1
 |[b],c,hf,h,_,ht,gR,eT=>by
  simp only[cB,Bool.and_true]at hf;simp only[b6]at ht;exact sw true b c hf h (by omega) gR eT
 |[],_,_,_,hl,_,_,_=>by simp at hl
 |_::_::_,_,_,_,hl,_,_,_=>by simp at hl
end
end
theorem sx{op a b n m:Int}(h:op<9∨10<op):Flat [ins op a b n m]:=Flat.one (by simp[ins];omega)
section
variable {vs:List Vr}
mutual
theorem lG:∀x:Ex,bk x=true→(aF vs x).e=0→Flat (ak vs x).1
 | .mk op n name field sub line,hf,h=>by
  have cU:=Io hf;simp only[bk,Bool.and_eq_true,decide_eq_true_eq]at hf;obtain⟨_,hlen,_,_,eQ⟩:=hf;unfold aF at h;unfold ak;by_cases jX:op=1∨op=2
  ·simp only[if_pos jX];exact sx (by omega)
  ·rw[if_neg jX]at h⊢;by_cases pv:op=3∨op=4∨op=5
   ·rw[if_pos pv]at h;cases hv:aZ vs name with
    |none=>rw[hv]at h;simp[ck]at h
    |some v=>
     rw[hv]at h;simp only at h;have gi:(cj vs name).2=v:=gY hv;by_cases h5:op=5
     ·rw[if_pos h5]at h;rw[if_neg (by omega),if_pos h5];split at h
      ·simp[ck]at h
      ·rename_i mz;cases hp:jS v.ty field with
       |none=>rw[hp]at h;simp[ck]at h
       |some p=>
        obtain⟨_,hm,j,hj,_⟩:=Ih (i:=0) hp;have hpa:=rD hv (by omega) hp;have hpt:=Ig hm;have:(ir vs name field).2=p:=by
         obtain⟨_,_,_,_⟩:=hpa;simp_all
        simp only[this];exact sx (by omega)
     ·rw[if_neg h5]at h;split at h
      ·simp[ck]at h
      ·rename_i yM;simp only[not_or,Int.not_lt]at yM;by_cases h4:op=4
       ·rw[if_pos h4]at h;rw[if_neg (by omega),if_neg h5,if_pos h4];simp only[gi];refine Flat.app (aiz sub v.ty eQ h) (sx (by omega))
       ·rw[if_pos (by omega)];simp only[gi];exact sx (by omega)
   ·rw[if_neg pv]at h;rw[if_neg (by omega),if_neg (by omega),if_neg (by omega)];exact Flat.app (aiA sub op line eQ h (by rw[hlen];unfold dJ;split<;>(try split)<;>omega)) (sx (by omega))
theorem aiz:∀(l:List Ex)(t:Int),bA l=true→(uT vs t l).e=0→Flat (lz vs l)
 |[],t,_,_=>by unfold lz;exact Flat.nil
 |x::r,t,hf,h=>by
  simp only[bA,Bool.and_eq_true]at hf;unfold lz;unfold uT at h;split at h
  ·rename_i he;exact absurd h he
  ·rename_i he;exact lG x hf.1 (by simpa using he)
theorem aiA:∀(l:List Ex)(op line:Int),bA l=true→(qQ vs op line l).e=0→l.length≤2→Flat (eY vs l).1
 |[],_,_,_,_,_=>by unfold eY;exact Flat.nil
 |[x],op,line,hf,h,_=>by
  simp only[bA,Bool.and_true]at hf;unfold qQ at h;unfold eY;exact lG x hf (gW h).1
 |[x,y],op,line,hf,h,_=>by
  simp only[bA,Bool.and_true,Bool.and_eq_true]at hf;unfold qQ at h;obtain⟨h1,h2,_⟩:=gW h;unfold eY eY;exact Flat.app (lG x hf.1 h1) (lG y hf.2 h2)
 |x::y::z::r,_,_,_,_,hl=>by simp at hl
end
theorem jJ{x:Ex}{t:Int}(h:(dn vs x t).1=0):(aF vs x).e=0∧(aF vs x).t=t:=by
 unfold dn at h;split at h
 ·rename_i he;exact absurd h he
 ·rename_i he;split at h
  ·simp at h
  ·rename_i ht;exact⟨by simpa using he,by simpa using ht⟩
theorem Zh(c:Int):∀l:List Int,Flat (dH c l)
 |[]=>by unfold dH;exact Flat.nil
 |[_]=>by unfold dH;exact Flat.nil
 |a::b::r=>by
  unfold dH;exact Flat.cons (by simp[ins]) (Flat.cons (by simp[ins]) (Zh c r))
end
def jf(ex:Bool)(x:ar):Prop:=(x.op=10→0≤x.a)∧(x.op=9→0≤x.a∨x.a= -2∨(ex=true∧x.a= -1))
def Jf(ex:Bool)(l:List ar):Prop:=∀x∈l,jf ex x
section
variable {ex:Bool}
theorem Flat.jf{l:List ar}(h:Flat l):Jf ex l:=fun x hx=>⟨fun h9=>absurd h9 (h x hx).2,fun h9=>absurd h9 (h x hx).1⟩
theorem Jf.app{a b:List ar}(ha:Jf ex a)(hb:Jf ex b):Jf ex (a++b):=fun x hx=>(List.mem_append.1 hx).elim (ha x) (hb x)
theorem Jf.nil:Jf ex []:=fun _ h=>by simp at h
theorem Jf.one{x:ar}(h:Am.jf ex x):Jf ex [x]:=fun y hy=>by simp at hy;subst hy;exact h
theorem Jf.mv{l:List ar}(h:Jf ex l)(k:Nat):Jf ex (ig k l):=by
 intro x hx;obtain⟨y,hy,rfl⟩:=List.mem_map.1 hx;have:=h y hy;unfold Am.jf mD at*;split
 ·rename_i hc;exact⟨fun _=>by simp only;omega,fun _=>.inl (by simp only;omega)⟩
 ·exact this
theorem Jf.jn{a b:List ar}(ha:Jf ex a)(hb:Jf ex b):Jf ex (jn a b):=ha.app (hb.mv _)
theorem Jf.out{l:List ar}(h:Jf true l):Jf ex (oz l):=by
 intro x hx;obtain⟨y,hy,rfl⟩:=List.mem_map.1 hx;have:=h y hy;unfold Am.jf sq at*;split
 ·exact⟨fun _=>by simp only;omega,fun _=>.inl (by simp only;omega)⟩
 ·rename_i hc;refine⟨this.1,fun h9=>?_⟩;rcases this.2 h9 with h|h|h
  ·exact .inl h
  ·exact .inr (.inl h)
  ·exact absurd ⟨h9,h.2⟩ hc
end
theorem Iw{vs:List Vr}{name:Tx}:∀(fs:List Tx)(xs:List Ex),bA xs=true→(∀x∈xs,(aF vs x).e=0)→Flat (dw vs name fs xs)
 |[],xs,_,_=>by cases xs<;>simp only[dw]<;>exact Flat.nil
 |_::_,[],_,_=>by simp only[dw];exact Flat.nil
 |f::fs,x::xs,hf,h=>by
  simp only[bA,Bool.and_eq_true]at hf;simp only[dw];exact Flat.app (lG x hf.1 (h x (by simp))) (Flat.cons (by simp[ins]) (Iw fs xs hf.2 (fun y hy=>h y (by simp[hy]))))
end Go.Am
end
section
namespace Go.Am
open Go Go.Proofs
variable [Inhabited bX]
set_option maxRecDepth 20000
@[simp] def dc(x:ar):D:=.agg [.int .i64 x.op,.int .i64 x.a,.int .i64 x.b,.int .i64 x.n,.int .i64 x.m]
@[simp] def ayz(ins:List ar)(vars cells:Int)(x y:AV):aE:=.box [.d (.list (ins.map dc)),.d (.int .i64 vars),.d (.int .i64 cells),x,y]
@[simp] def bD(l:List Bool):List D:=l.map .bool
section
variable (ins:List ar) (vars cells:Int) (s1 o1 n1 s2 o2 n2:Nat) (S T:List D)
end
structure Mk where
 out:List ar
 cells:Int
 most:Int
 ex:List (List Int)
 lv:List Int
@[simp] def dC(n:Int):D:=.int .i64 n
@[simp] def fL(l:List Int):List D:=l.map dC
@[simp] def mkB(p:Pg)(m:Mk)(h:Int):aE:=.box [.d (.str p.name),.d (.list (p.vars.map bI)),.d (.list (p.body.map b5)),.vec 1 0 0 m.out.length,.d (.int .i64 m.cells),.d (.int .i64 h),.d (.int .i64 m.most),.vec 2 0 0 m.ex.length,.vec 3 0 0 m.lv.length]
@[simp] def fM(p:Pg)(m:Mk)(h:Int):List aE:=[mkB p m h,.vec 5 (m.out.map dc),.vv (m.ex.map fL) none,.vec 1 (m.lv.map dC)]
@[simp] def Nq(p:Pg)(m:Mk)(h:Int)(v1 v2 v3:Nat):List (Nat×aE):=[(0,.box [.d (.str p.name),.d (.list (p.vars.map bI)),.d (.list (p.body.map b5)),.vec 1 v1 0 m.out.length,.d (.int .i64 m.cells),.d (.int .i64 h),.d (.int .i64 m.most),.vec 2 v2 0 m.ex.length,.vec 3 v3 0 m.lv.length]),(v1,.vec 5 (m.out.map dc)),(v2,.vv (m.ex.map fL) none),(v3,.vec 1 (m.lv.map dC))]
@[simp] def gJ(p:Pg)(m:Mk)(h:Int)(a b c va vb vc:Nat):aE:=.box [.d (.str p.name),.d (.list (p.vars.map bI)),.d (.list (p.body.map b5)),.vec a va 0 m.out.length,.d (.int .i64 m.cells),.d (.int .i64 h),.d (.int .i64 m.most),.vec b vb 0 m.ex.length,.vec c vc 0 m.lv.length]
def fO(p:Pg)(m:Mk)(h:Int)(o:Out)(r:bS):Prop:=∃v1 v2 v3,r=some (o,Nq p m h v1 v2 v3)
def Mk.put(m:Mk)(x:ar)(t:Int):Mk:={m with out:=m.out++[x],most:=max m.most t}
theorem mxI(a b:Int):(if a<b then b else a)=max a b:=by
 rw[Int.max_def];by_cases h:a<b
 ·rw[if_pos h,if_pos (by omega)]
 ·by_cases h2:a=b
  ·subst h2;simp
  ·rw[if_neg h,if_neg (by omega)]
theorem CO(p:Pg)(m:Mk)(h:Int):ai ctx 143 [.ptr 0 0 0] (fM p m h)=some (.ret (.d (.int .i64 m.out.length)),Nq p m h 0 0 0):=by
 rw[acX (by simp)];simp[Tryz.f143]
theorem ji(p:Pg)(m:Mk)(h im:Int)(x:ar)(hl:m.out.length<100000000)(hw:IntKind.i64.wrap (h+im)=h+im):fO p (m.put x (h+im)) (h+im) (.ret (.d (.int .i64 m.out.length))) (ai ctx 53 [.ptr 0 0 0,.d (dc x),.d (.int .i64 im)] (fM p m h)):=by
 have w0:IntKind.i64.wrap (m.out.length:Int)=m.out.length:=au (by unfold aX;omega);have w3:m.out.length≤4611686018427387903:=by omega
 have w4:(m.out.length+1)*40≤140737488355328:=by omega
 rw[P2 (by simp)];simp[Tryz.f53,aq,hw,w0,w3,w4,mxI];exact⟨1,0,0,by simp[Mk.put]⟩
theorem Tp(p:Pg)(m:Mk)(h n:Int)(hw:IntKind.i64.wrap (m.cells+n)=m.cells+n):fO p {m with cells:=m.cells+n} h (.ret (.d (.int .i64 m.cells))) (ai ctx 207 [.ptr 0 0 0,.d (.int .i64 n)] (fM p m h)):=by
 rw[adg (by simp)];simp[Tryz.f207,hw];exact⟨_,_,_,rfl⟩
theorem pz(p:Pg)(m:Mk)(h at_:Int)(hl:m.out.length<100000000)(hw:IntKind.i64.wrap (h+ -1)=h+ -1):fO p (m.put (ins 6 at_ 0 0 0) (h+ -1)) (h+ -1) (.ret (.aW [])) (ai ctx 203 [.ptr 0 0 0,.d (.int .i64 at_)] (fM p m h)):=by
 obtain⟨v1,v2,v3,ha⟩:=ji p m h (-1) (ins 6 at_ 0 0 0) hl hw;generalize m.put (ins 6 at_ 0 0 0) (h+ -1)=M at*;rw[ada (by simp)];simp[ins]at ha;simp[Tryz.f203,ha];exact⟨_,_,_,rfl⟩
theorem mb(p:Pg)(m:Mk)(h:Int)(hl:m.out.length<100000000)(hw:IntKind.i64.wrap h=h):fO p (m.put (ins 11 0 0 0 0) h) h (.ret (.aW [])) (ai ctx 133 [.ptr 0 0 0] (fM p m h)):=by
 obtain⟨v1,v2,v3,ha⟩:=ji p m h 0 (ins 11 0 0 0 0) hl (by simpa using hw);rw[show h+0=h by omega]at ha;generalize m.put (ins 11 0 0 0 0) h=M at*;rw[acS (by simp)];simp[ins]at ha;simp[Tryz.f133,ha];exact⟨_,_,_,rfl⟩
theorem wB(p:Pg)(m:Mk)(h to:Int)(hl:m.out.length<100000000)(hw:IntKind.i64.wrap (h+ -1)=h+ -1):fO p (m.put (ins 10 to 0 0 0) (h+ -1)) (h+ -1) (.ret (.d (.int .i64 m.out.length))) (ai ctx 204 [.ptr 0 0 0,.d (.int .i64 to)] (fM p m h)):=by
 obtain⟨v1,v2,v3,ha⟩:=ji p m h (-1) (ins 10 to 0 0 0) hl hw;generalize m.put (ins 10 to 0 0 0) (h+ -1)=M at*;rw[adb (by simp)];simp[ins]at ha;simp[Tryz.f204,ha];exact⟨_,_,_,rfl⟩
theorem CP(p:Pg)(m:Mk)(h to:Int)(hl:m.out.length<100000000)(hw:IntKind.i64.wrap h=h):fO p (m.put (ins 9 to 0 0 0) h) h (.ret (.d (.int .i64 m.out.length))) (ai ctx 141 [.ptr 0 0 0,.d (.int .i64 to)] (fM p m h)):=by
 obtain⟨v1,v2,v3,ha⟩:=ji p m h 0 (ins 9 to 0 0 0) hl (by simpa using hw);rw[show h+0=h by omega]at ha;generalize m.put (ins 9 to 0 0 0) h=M at*;rw[Hu (by simp)];simp[ins]at ha;simp[Tryz.f141,ha];exact⟨_,_,_,rfl⟩
theorem CQ(p:Pg)(m:Mk)(h at_ t:Int)(hl:m.out.length<100000000)(hw:IntKind.i64.wrap (h+1)=h+1):fO p (m.put (ins (if t=2 then 3 else 2) at_ 0 0 0) (h+1)) (h+1) (.ret (.aW [])) (ai ctx 205 [.ptr 0 0 0,.d (.int .i64 at_),.d (.int .i64 t)] (fM p m h)):=by
 obtain⟨v1,v2,v3,ha⟩:=ji p m h 1 (ins (if t=2 then 3 else 2) at_ 0 0 0) hl hw;generalize m.put (ins (if t=2 then 3 else 2) at_ 0 0 0) (h+1)=M at*;rw[ade (by simp)];by_cases ht:t=2
 ·simp[ins,ht]at ha;simp[Tryz.f205,ht,ha];exact⟨_,_,_,rfl⟩
 ·simp[ins,ht]at ha;simp[Tryz.f205,ht,ha];exact⟨_,_,_,rfl⟩
def Mk.lead(m:Mk)(at_:Int):Mk:={m with out:=setAt m.out at_ m.out.length}
theorem Tq:∀(l:List ar)(i:Nat)(v:Int)(hi:i<l.length),(l.map dc).set i (.agg [.int .i64 l[i].op,.int .i64 v,.int .i64 l[i].b,.int .i64 l[i].n,.int .i64 l[i].m])=(setAt l i v).map dc
 |x::l,0,v,hi=>by simp[setAt]
 |x::l,i+1,v,hi=>by
  have ih:=Tq l i v (by simpa using hi);simp only[setAt,Int.toNat_natCast]at ih⊢;have e:((i+1:Nat):Int).toNat=i+1:=by omega
  try rw[e]
  simp only[List.map_cons,List.set_cons_succ,List.getElem_cons_succ,List.modify_succ_cons];rw[ih]
theorem qu(p:Pg)(m:Mk)(h:Int)(i:Nat)(hi:i<m.out.length)(hl:m.out.length<100000000):ai ctx 92 [.ptr 0 0 0,.d (.int .i64 i)] (fM p m h)=some (.ret (.aW []),Nq p (m.lead i) h 0 0 0):=by
 have ha:=CO p m h;have hs:=Tq m.out i m.out.length hi;rw[aii (by simp)];simp at ha hs;simp[Tryz.f92,ha,hi,Dr,FB,FA,vV,yq,ze,lP,nb,ob,q9,BZ,B0,B1,B3,eZ,q8,tS,Di,sW,AI,J3,Rd,GK,dZ,dstep,kR,pN,aU.app];simp[hs,Mk.lead]
def Mk.cA(m:Mk)(ps:List Int):Mk:={m with out:=jg m.out ps m.out.length}
theorem sy(m:Mk)(i:Int)(ps:List Int):m.cA (i::ps)=(m.lead i).cA ps:=by
 unfold Mk.cA Mk.lead;simp only[pT,Ti]
@[simp] theorem Bc(m:Mk)(i:Int):(m.lead i).out.length=m.out.length:=by simp[Mk.lead]
def Pl(n:Nat)(ps:List Int):Prop:=∀i∈ps,∃k:Nat,i=k∧k<n
theorem yO(p:Pg)(h:Int)(l:List Int)(bn:l.length<100000000)(k:Kt)(R:bS):∀(rest pre:List Int)(m:Mk),l=pre++rest→m.out.length<100000000→Pl m.out.length rest→
 (∀Y:Env,k (.exit 0) ⟨16,aC,Y,[⟨0,0,gJ p (m.cA rest) h 2 3 4 0 0 0⟩,⟨1,0,.vec 1 (l.map dC)⟩,⟨2,0,.vec 5 ((m.cA rest).out.map dc)⟩,⟨3,0,.vv (m.ex.map fL) none⟩,⟨4,0,.vec 1 (m.lv.map dC)⟩]⟩=R)→
 aI ctx 52 (.loop (Code.at (aY Tryz.f52) [1,0,0])) ⟨16,aC,[(0,true,.ptr 0 0 0),(6,true,.vec 1 0 0 l.length),(7,true,.d (.int .i64 l.length)),(8,true,.d (.int .i64 pre.length))],[⟨0,0,gJ p m h 2 3 4 0 0 0⟩,⟨1,0,.vec 1 (l.map dC)⟩,⟨2,0,.vec 5 (m.out.map dc)⟩,⟨3,0,.vv (m.ex.map fL) none⟩,⟨4,0,.vec 1 (m.lv.map dC)⟩]⟩ k=R
 |[],pre,m,hd,hl,hp,hx=>by
  have cf:pre.length=l.length:=by rw[hd];simp
  have e:m.cA []=m:=rfl;rw[e]at hx;simp at hx;rw[cf,ah];simp[Tryz.f52,hx]
 |i::rest,pre,m,hd,hl,hp,hx=>by
  obtain⟨j,rfl,hj⟩:=hp i (by simp);have aR:pre.length<l.length:=by rw[hd];simp
  have aV:l[pre.length]=(j:Int):=by simp[hd]
  have hle:=qu p m h j hj hl;have w1:IntKind.i64.wrap ((pre.length:Int)+1)=(pre.length:Int)+1:=au (by unfold aX;omega);have ih:=yO p h l bn k R rest (pre++[(j:Int)]) (m.lead j) (by simp[hd]) (by simpa using hl) (fun i hi=>by simpa using hp i (by simp[hi])) (fun Y=>by have:=hx Y;rw[sy]at this;exact this);clear hx;generalize m.lead j=M at*;rw[ah];simp[Tryz.f52]at ih hle⊢;simp[aR,aV,hle,w1,ih]
theorem tC(p:Pg)(m:Mk)(h:Int)(l:List Int)(bn:l.length<100000000)(hl:m.out.length<100000000)(hp:Pl m.out.length l):ai ctx 52 [.ptr 0 0 0,.vec 1 0 0 l.length] [gJ p m h 2 3 4 0 0 0,.vec 1 (l.map dC),.vec 5 (m.out.map dc),.vv (m.ex.map fL) none,.vec 1 (m.lv.map dC)]=
 some (.ret (.aW []),[(0,gJ p (m.cA l) h 2 3 4 0 0 0),(0,.vec 1 (l.map dC)),(0,.vec 5 ((m.cA l).out.map dc)),(0,.vv (m.ex.map fL) none),(0,.vec 1 (m.lv.map dC))]):=by
 have cJ:=fun k R hx=>yO p h l bn k R l [] m rfl hl hp hx;rw[YW (by simp)];simp[Tryz.f52]at cJ⊢;have e1:(m.cA l).ex=m.ex:=rfl;have e2:(m.cA l).lv=m.lv:=rfl;rw[cJ _ (some (.ret (.aW []),[(0,gJ p (m.cA l) h 2 3 4 0 0 0),(0,.vec 1 (l.map dC)),(0,.vec 5 ((m.cA l).out.map dc)),(0,.vv (m.ex.map fL) none),(0,.vec 1 (m.lv.map dC))])) (fun Y=>by simp[e1,e2])];simp
theorem Al(p:Pg)(h:Int)(l:List Int)(bn:l.length<100000000)(k:Kt)(R:bS):∀(rest pre:List Int)(m:Mk),l=m.lv→l=pre++rest→m.out.length<100000000→Pl m.out.length rest→
 (∀Y:Env,k (.exit 0) ⟨16,aC,Y,[⟨0,0,gJ p (m.cA rest) h 2 3 1 0 0 0⟩,⟨1,0,.vec 1 (m.lv.map dC)⟩,⟨2,0,.vec 5 ((m.cA rest).out.map dc)⟩,⟨3,0,.vv (m.ex.map fL) none⟩]⟩=R)→
 aI ctx 52 (.loop (Code.at (aY Tryz.f52) [1,0,0])) ⟨16,aC,[(0,true,.ptr 0 0 0),(6,true,.vec 1 0 0 l.length),(7,true,.d (.int .i64 l.length)),(8,true,.d (.int .i64 pre.length))],[⟨0,0,gJ p m h 2 3 1 0 0 0⟩,⟨1,0,.vec 1 (m.lv.map dC)⟩,⟨2,0,.vec 5 (m.out.map dc)⟩,⟨3,0,.vv (m.ex.map fL) none⟩]⟩ k=R
 |[],pre,m,nA,hd,hl,hp,hx=>by
  have cf:pre.length=l.length:=by rw[hd];simp
  have e:m.cA []=m:=rfl;rw[e]at hx;simp at hx;rw[cf,ah];simp[Tryz.f52,hx]
 |i::rest,pre,m,nA,hd,hl,hp,hx=>by
  obtain⟨j,rfl,hj⟩:=hp i (by simp);have aR:pre.length<m.lv.length:=by rw[←nA,hd];simp
  have aV:m.lv[pre.length]=(j:Int):=by
   have:l[pre.length]?=some (j:Int):=by rw[hd];simp
   rw[nA]at this;exact (List.getElem?_eq_some_iff.1 this).2
  have tD:l.length=m.lv.length:=by rw[nA]
  have hle:=qu p m h j hj hl;have w1:IntKind.i64.wrap ((pre.length:Int)+1)=(pre.length:Int)+1:=au (by unfold aX;omega);have ih:=Al p h l bn k R rest (pre++[(j:Int)]) (m.lead j) nA (by simp[hd]) (by simpa using hl) (fun i hi=>by simpa using hp i (by simp[hi])) (fun Y=>by have:=hx Y;rw[sy]at this;exact this);have e2:(m.lead j).lv=m.lv:=rfl;clear hx;generalize m.lead j=M at*;rw[ah];simp[Tryz.f52]at ih hle⊢;rw[e2]at ih hle;simp[aR,aV,tD,hle,w1,ih];simp[tD]at ih;exact ih
theorem VX(p:Pg)(m:Mk)(h:Int)(bn:m.lv.length<100000000)(hl:m.out.length<100000000)(hp:Pl m.out.length m.lv):ai ctx 52 [.ptr 0 0 0,.vec 1 0 0 m.lv.length] [gJ p m h 2 3 1 0 0 0,.vec 1 (m.lv.map dC),.vec 5 (m.out.map dc),.vv (m.ex.map fL) none]=
 some (.ret (.aW []),[(0,gJ p (m.cA m.lv) h 2 3 1 0 0 0),(0,.vec 1 (m.lv.map dC)),(0,.vec 5 ((m.cA m.lv).out.map dc)),(0,.vv (m.ex.map fL) none)]):=by
 have cJ:=fun k R hx=>Al p h m.lv bn k R m.lv [] m rfl rfl hl hp hx;rw[YW (by simp)];simp[Tryz.f52]at cJ⊢;have e1:(m.cA m.lv).ex=m.ex:=rfl;have e2:(m.cA m.lv).lv=m.lv:=rfl;rw[cJ _ (some (.ret (.aW []),[(0,gJ p (m.cA m.lv) h 2 3 1 0 0 0),(0,.vec 1 (m.lv.map dC)),(0,.vec 5 ((m.cA m.lv).out.map dc)),(0,.vv (m.ex.map fL) none)])) (fun Y=>by simp[e1,e2])];simp
theorem Nr(l:List Vr)(bn:l.length≤1000)(hf:∀v∈l,dj v=true)(s:Tx)(E:cI)(hE:E.key=200)(k:Kt)(R:bS)(RP:Int→Vr→bS)
 (hr:∀(n:Int)(w:Vr) v1 v2 X2,k .ret ⟨29,aC,[(4,true,.d (.int .i64 n)),(5,true,.ptr 350 v1 0),(6,true,.d (.bool true))],[E,⟨350,v1,ie w⟩,⟨550,v2,X2⟩]⟩=RP n w)
 (hx:∀(Y:Env) v1 v2 X2,k (.exit 0) ⟨29,aC,(1,true,.d (.str s))::(5,true,.ptr 350 v1 0)::Y,[E,⟨350,v1,ie Ak⟩,⟨550,v2,X2⟩]⟩=R):∀(rest pre:List Vr)(n:Int)(v1 v2:Nat)(X2:aE),l=pre++rest→0≤n→n≤1000*pre.length→
 aI ctx 202 (.loop (Code.at (aY Tryz.f202) [1,1,0,1,0,0])) ⟨29,aC,[(1,true,.d (.str s)),(5,true,.ptr 350 v1 0),(7,true,.d (.int .i64 n)),(11,true,.d (.list (l.map bI))),(12,true,.d (.int .i64 l.length)),(13,true,.d (.int .i64 pre.length))],[E,⟨350,v1,ie Ak⟩,⟨550,v2,X2⟩]⟩ k=if (aZ rest s).isSome=true then RP (oW rest s n).1 (oW rest s n).2 else R
 |[],pre,n,v1,v2,X2,hd,h0,hn=>by
  have cf:pre.length=l.length:=by rw[hd];simp
  simp[ie,Ak]at hx;rw[cf,ah];simp[Tryz.f202,ie,Ak,aZ];exact hx _ _ _ _
 |w::rest,pre,n,v1,v2,X2,hd,h0,hn=>by
  have aR:pre.length<l.length:=by rw[hd];simp
  have aV:l[pre.length]=w:=by simp[hd]
  have hc:=Hv (hf w (by rw[hd];simp));have kX:=pR (hf w (by rw[hd];simp));have ih:=fun v2 X2=>Nr l bn hf s E hE k R RP hr hx rest (pre++[w]) (n+bN w) v1 v2 X2 (by simp[hd]) (by omega) (by simp;omega);have w1:IntKind.i64.wrap ((pre.length:Int)+1)=(pre.length:Int)+1:=au (by unfold aX;omega);have w2:IntKind.i64.wrap (n+bN w)=n+bN w:=au (by unfold aX;omega);rw[ah];simp only[aZ,oW];by_cases hs:w.name=s
  ·simp[Tryz.f202];have:=hr n w v1 (v2+1);simp[ie,hs]at this;simp[aR,aV,hE,bI,eD,hs,aq,this]
  ·simp[Tryz.f202,bI,eD]at ih hc⊢;simp[aR,aV,hE,bI,eD,hs,hc,w1,w2,ih]
abbrev mc(p:Pg):D:=.agg [.str p.name,.list (p.vars.map bI),.list (p.body.map b5)]
theorem pA(p:Pg)(bn:p.vars.length≤1000)(hf:∀v∈p.vars,dj v=true)(s:Tx):ai ctx 202 [.d (mc p),.d (.str s)] []=some (.ret (.aW [.d (.int .i64 (cj p.vars s).1),.d (bI (cj p.vars s).2),.d (.bool (aZ p.vars s).isSome)]),[]):=by
 have cJ:=fun E hE k R RP hr hx v1 v2 X2=>Nr p.vars bn hf s E hE k R RP hr hx p.vars [] 0 v1 v2 X2 rfl (by omega) (by simp);have key:(if (aZ p.vars s).isSome=true then some (.ret (.aW [.d (.int .i64 (oW p.vars s 0).1),.d (bI (oW p.vars s 0).2),.d (.bool true)]),([]:List (Nat×aE)))else some (.ret (.aW [.d (.int .i64 0),.d (bI Ak),.d (.bool false)]),[]))=some (Out.ret (.aW [.d (.int .i64 (cj p.vars s).1),.d (bI (cj p.vars s).2),.d (.bool (aZ p.vars s).isSome)]),([]:List (Nat×aE))):=by
  unfold cj;cases h:(aZ p.vars s).isSome with
  |true=>simp
  |false=>
   have h0:∀(l:List Vr) n,(aZ l s).isSome=false→oW l s n=(0,Ak):=by
    intro l;induction l with
    |nil=>intro n _;rfl
    |cons v r ih=>
     intro n hn;simp only[aZ,oW]at hn⊢;split at hn
     ·cases hn
     ·rename_i bK;rw[if_neg bK];exact ih _ hn
   simp[h0 _ _ h]
 rw[ac9 (by simp)];simp[Tryz.f202,ie,Ak]at cJ⊢;rw[cJ _ rfl _ (some (.ret (.aW [.d (.int .i64 0),.d (bI Ak),.d (.bool false)]),[])) (fun n w=>some (.ret (.aW [.d (.int .i64 n),.d (bI w),.d (.bool true)]),[]))]
 ·exact key
 ·intro n w v1 v2 X2;simp[bI,eD]
 ·intro Y v1 v2 X2;simp[bI,eD,Ak,aq]
theorem Z7(s:Tx)(q:Pn):ai ctx 263 [.d (cW q),.ptr 0 0 0] [.box [.d (.str s)]]=some (.ret (.d (.bool (decide (q.name=s)))),[(0,.box [.d (.str s)])]):=by
 rw[adv (by simp)];simp[Tryz.f263,cW]
theorem E1(s:Tx):∀(rest pre:List Pn),(pre++rest).length<1000000→∀k:Kt,
 aI ctx 262 (.loop (Code.at (aY Tryz.f262) [1,0,1,0,0])) ⟨19,aC,[(0,true,.d (.list ((pre++rest).map cW))),(1,true,.fn 263 [.ptr 0 0 0]),(7,true,.d (.int .i64 (pre++rest).length)),(8,true,.d (.int .i64 pre.length))],[⟨0,0,.box [.d (.str s)]⟩]⟩ k=
  if oq (fun q:Pn=>decide (q.name=s)) rest pre.length<0 then k (.exit 0) ⟨19,aC,[(0,true,.d (.list ((pre++rest).map cW))),(1,true,.fn 263 [.ptr 0 0 0]),(7,true,.d (.int .i64 (pre++rest).length)),(8,true,.d (.int .i64 (pre++rest).length)),(9,true,.d (.bool false))],[⟨0,0,.box [.d (.str s)]⟩]⟩
  else k .ret ⟨19,aC,[(4,true,.d (.int .i64 (oq (fun q:Pn=>decide (q.name=s)) rest pre.length)))],[⟨0,0,.box [.d (.str s)]⟩]⟩
 |[],pre,hl,k=>by
  rw[ah];simp[Tryz.f262,oq]
 |x::rest,pre,hl,k=>by
  obtain⟨b,hb⟩:∃b,b=(fun q:Pn=>decide (q.name=s)) x:=⟨_,rfl⟩;have hs:ai ctx 263 [.d (cW x),.ptr 0 0 0] [.box [.d (.str s)]]=some (.ret (.d (.bool b)),[(0,.box [.d (.str s)])]):=by rw[hb];exact Z7 s x
  have key:oq (fun q:Pn=>decide (q.name=s)) (x::rest) pre.length=if b=true then (pre.length:Int)else oq (fun q:Pn=>decide (q.name=s)) rest (pre.length+1):=by rw[hb];rfl
  have ih:=E1 s rest (pre++[x]) (by simpa using hl) k;have h1:(pre.length:Int)<pre.length+(rest.length+1):=by omega
  have h2:IntKind.i64.wrap ((pre.length:Int)+1)=pre.length+1:=au (by unfold aX;simp at hl;omega);have h3:¬((pre.length:Int)<0):=by omega
  try simp[cW]at hs
  rw[ah,key];clear hb key;cases b with
  |true=>simp[Tryz.f262,h1,h2,h3,hs,cW]
  |false=>
   simp[Tryz.f262,cW]at ih⊢;simp[h1,h2,hs,ih,cW]
theorem Z8(s:Tx)(l:List Pn)(hl:l.length<1000000):ai ctx 262 [.d (.list (l.map cW)),.fn 263 [.ptr 0 0 0]] [.box [.d (.str s)]]=some (.ret (.d (.int .i64 (oq (fun q:Pn=>decide (q.name=s)) l 0))),[(0,.box [.d (.str s)])]):=by
 have h:=fun k=>E1 s l [] (by simpa using hl) k;rw[adu (by simp)];simp[Tryz.f262]at h⊢;simp[h];intro h;rcases Cz (fun q:Pn=>decide (q.name=s)) l 0 with h1|h1
 ·exact h1.symm
 ·omega
theorem Ix(s:Tx):∀(l:List Pn)(n:Nat),(match yF l s n with
 |some (i,q)=>oq (fun q:Pn=>decide (q.name=s)) l n=i∧n≤i∧l[i-n]?=some q
 |none=>oq (fun q:Pn=>decide (q.name=s)) l n= -1)
 |[],n=>rfl
 |q::l,n=>by
  have ih:=Ix s l (n+1);simp only[yF,oq];by_cases h:q.name=s
  ·rw[if_pos h];simp[h]
  ·rw[if_neg h];simp only[h,decide_false,Bool.false_eq_true,if_false];cases hp:yF l s (n+1)with
   |none=>rw[hp]at ih;exact ih
   |some x=>
    obtain⟨i,w⟩:=x;rw[hp]at ih;obtain⟨h1,h2,h3⟩:=ih;refine⟨h1,by omega,?_⟩;rw[show i-n=(i-(n+1))+1 by omega];simpa using h3
theorem Iy(p:Pg)(bn:p.vars.length≤1000)(hf:∀v∈p.vars,dj v=true)(s f:Tx):∃b,ai ctx 206 [.d (mc p),.d (.str s),.d (.str f)] []=some (.ret (.aW [.d (.int .i64 (ir p.vars s f).1),.d (cW (ir p.vars s f).2),.d (.bool b)]),[]):=by
 have ha:=pA p bn hf s;have gi:0≤(cj p.vars s).1∧(cj p.vars s).1≤1000*1000:=by
  have key:∀(l:List Vr)(n:Int),(∀v∈l,dj v=true)→0≤n→(oW l s n).1=0∨(n≤(oW l s n).1∧(oW l s n).1≤n+1000*l.length):=by
   intro l;induction l with
   |nil=>intro n _ _;exact .inl rfl
   |cons v r ih=>
    intro n hv hn;have hc:=pR (hv v (by simp));simp only[oW];split
    ·exact .inr ⟨by omega,by simp;omega⟩
    ·rcases ih (n+bN v) (fun w hw=>hv w (by simp[hw])) (by omega)with h|h
     ·exact .inl h
     ·exact .inr ⟨by omega,by simp;omega⟩
  unfold cj;rcases key p.vars 0 hf (by omega)with h|h<;>omega
 have hsp:=ML (cj p.vars s).2.ty;have dF:=yA (cj p.vars s).2.ty;have Zi:=Z8 f (bC (cj p.vars s).2.ty) (by omega);have jz:=Ix f (bC (cj p.vars s).2.ty) 0;unfold ir;generalize (cj p.vars s)=A at*;obtain⟨n,w⟩:=A;simp only at*;rw[adf (by simp)];cases hv:aZ p.vars s with
 |none=>
  rw[hv]at ha;exact⟨_,by simp[Tryz.f206,ha,bI,eD,DC,cW];rfl⟩
 |some v=>
  rw[hv]at ha;by_cases ht:2<w.ty
  ·by_cases Zj:f=[]
   ·exact⟨_,by simp[Tryz.f206,ha,bI,eD,DC,cW,ht,Zj];rfl⟩
   ·cases hp:yF (bC w.ty) f 0 with
    |none=>
     rw[hp]at jz;simp only at jz;rw[jz]at Zi;refine⟨false,?_⟩;simp[Tryz.f206,ha,bI,eD,DC,cW,ht,Zj,hsp,Zi]
    |some x=>
     obtain⟨i,q⟩:=x;rw[hp]at jz;obtain⟨g1,g2,g3⟩:=jz;refine⟨true,?_⟩;rw[g1]at Zi;have hi:i<(bC w.ty).length:=by
      have:=(List.getElem?_eq_some_iff.1 g3).1;simpa using this
     have hq:(bC w.ty)[i]=q:=by
      have:=(List.getElem?_eq_some_iff.1 g3).2;simpa using this
     have w1:IntKind.i64.wrap (n+i)=n+i:=au (by unfold aX;omega);have w2:¬((i:Int)<0):=by omega
     simp[Tryz.f206,ha,bI,eD,ht,Zj,hsp,Zi,aq,w1,w2,hi,hq,cW]
  ·have nJ:w.ty≤2:=by omega
   exact⟨_,by simp[Tryz.f206,ha,bI,eD,DC,cW,ht,nJ];rfl⟩
def Mk.az(m:Mk)(l:List ar)(t:Int):Mk:={m with out:=m.out++l,most:=max m.most t}
def KE(p:Pg)(x:Ex):Prop:=∀(m:Mk)(h:Int),0≤h→h≤m.out.length→0≤m.most→m.out.length+(ak p.vars x).1.length<100000000→
 fO p (m.az (ak p.vars x).1 (aL h x)) (h+1) (.ret (.d (.bool (ak p.vars x).2))) (ai ctx 137 [.ptr 0 0 0,.d (.agg [.int .i64 (bW x),.int .i64 (ic x),.str (dA x),.str (fq x),.list ((cN x).map bM),.int .i64 (jG x)])] (fM p m h))
theorem Z9{k:Int}{q:Pn}(h:q∈bC k):q.ty=1∨q.ty=2:=by
 by_cases hb:k∈iM
 ·have all:∀q∈bC k,q.ty=1∨q.ty=2:=by
   simp only[iM,List.mem_cons,List.not_mem_nil,or_false]at hb;rcases hb with rfl|rfl|rfl|rfl|rfl|rfl|rfl|rfl|rfl|rfl|rfl|rfl|rfl|rfl|rfl|rfl|rfl|rfl|rfl|rfl|rfl<;>decide
  exact all q h
 ·rw[rm hb]at h;simp at h
section
variable {p:Pg} (bn:p.vars.length≤1000) (hf:∀v∈p.vars,dj v=true)
theorem aeU{n line:Int}:KE p (.mk 1 n [] [] [] line):=by
 intro m h h0 hh hm hl;simp[ak]at hl;obtain⟨v1,v2,v3,ha⟩:=ji p m h 1 (ins 1 0 0 n 0) (by omega) (au (by unfold aX;omega));have e:m.az (ak p.vars (.mk 1 n [] [] [] line)).1 (aL h (.mk 1 n [] [] [] line))=m.put (ins 1 0 0 n 0) (h+1):=by simp[ak,aL,Mk.az,Mk.put]
 rw[e];generalize m.put (ins 1 0 0 n 0) (h+1)=M at*;simp[ins]at ha;rw[sl (by simp)];simp[Tryz.f137,ha,ak];exact⟨_,_,_,rfl⟩
theorem aeV{n line:Int}:KE p (.mk 2 n [] [] [] line):=by
 intro m h h0 hh hm hl;simp[ak]at hl;obtain⟨v1,v2,v3,ha⟩:=ji p m h 1 (ins 1 0 0 n 0) (by omega) (au (by unfold aX;omega));have e:m.az (ak p.vars (.mk 2 n [] [] [] line)).1 (aL h (.mk 2 n [] [] [] line))=m.put (ins 1 0 0 n 0) (h+1):=by simp[ak,aL,Mk.az,Mk.put]
 rw[e];generalize m.put (ins 1 0 0 n 0) (h+1)=M at*;simp[ins]at ha;rw[sl (by simp)];simp[Tryz.f137,ha,ak];exact⟨_,_,_,rfl⟩
include bn hf
theorem aeW{s:Tx}{v:Vr}(hv:aZ p.vars s=some v)(ht:v.ty≤2):v.ty=1∨v.ty=2:=by
 have hm:v∈p.vars:=by
  have key:∀l:List Vr,aZ l s=some v→v∈l:=by
   intro l;induction l with
   |nil=>intro h;simp[aZ]at h
   |cons w r ih=>
    intro h;simp only[aZ]at h;split at h
    ·cases h;simp
    ·exact List.mem_cons_of_mem _ (ih h)
  exact key _ hv
 have:=hf v hm;simp only[dj,Bool.and_eq_true,Bool.or_eq_true,decide_eq_true_eq]at this;rcases this.2.1.2 with h|h
 ·exact h
 ·have:v.ty∉iM∨v.ty∈iM:=by by_cases h:v.ty∈iM<;>simp[h]
  rcases this with h2|h2
  ·unfold om at h;rw[rm h2]at h;simp at h
  ·simp only[iM,List.mem_cons,List.not_mem_nil,or_false]at h2;omega
theorem aeX{name:Tx}{line:Int}{v:Vr}(hv:aZ p.vars name=some v)(ht:v.ty≤2):KE p (.mk 3 0 name [] [] line):=by
 intro m h h0 hh hm hl;simp[ak]at hl;have gi:=pA p bn hf name;have e2:=gY hv;rw[hv]at gi;have jX:=aeW bn hf hv ht;obtain⟨v1,v2,v3,ha⟩:=CQ p m h (cj p.vars name).1 v.ty (by omega) (au (by unfold aX;omega));have e3:(if v.ty=2 then (3:Int)else 2)=1+v.ty:=by rcases jX with h|h<;>rw[h]<;>rfl
 rw[e3]at ha;have e:m.az (ak p.vars (.mk 3 0 name [] [] line)).1 (aL h (.mk 3 0 name [] [] line))=m.put (ins (1+v.ty) (cj p.vars name).1 0 0 0) (h+1):=by simp[ak,aL,Mk.az,Mk.put,e2]
 have e4:(ak p.vars (.mk 3 0 name [] [] line)).2=decide (v.ty=2):=by simp[ak,e2]
 rw[e,e4];rw[e2]at gi;generalize m.put (ins (1+v.ty) (cj p.vars name).1 0 0 0) (h+1)=M at*;simp at ha;rw[sl (by simp)];simp[Tryz.f137,gi,bI,eD,ha,aq];exact⟨_,_,_,rfl⟩
theorem aeY{name field:Tx}{line:Int}{v:Vr}{q:Pn}(hv:aZ p.vars name=some v)(ht:2<v.ty)(hq:jS v.ty field=some q)(wP:da field=true):KE p (.mk 5 0 name field [] line):=by
 intro m h h0 hh hm hl;simp[ak]at hl;obtain⟨b,gi⟩:=Iy p bn hf name field;have e2:(ir p.vars name field).2=q:=(rD hv ht hq).1;have jX:q.ty=1∨q.ty=2:=Z9 (rD hv ht hq).2.1;obtain⟨v1,v2,v3,ha⟩:=CQ p m h (ir p.vars name field).1 q.ty (by omega) (au (by unfold aX;omega));have e3:(if q.ty=2 then (3:Int)else 2)=1+q.ty:=by rcases jX with h|h<;>rw[h]<;>rfl
 rw[e3]at ha;have e:m.az (ak p.vars (.mk 5 0 name field [] line)).1 (aL h (.mk 5 0 name field [] line))=m.put (ins (1+q.ty) (ir p.vars name field).1 0 0 0) (h+1):=by simp[ak,aL,Mk.az,Mk.put,e2]
 have e4:(ak p.vars (.mk 5 0 name field [] line)).2=decide (q.ty=2):=by simp[ak,e2]
 rw[e,e4];rw[e2]at gi;generalize m.put (ins (1+q.ty) (ir p.vars name field).1 0 0 0) (h+1)=M at*;simp at ha;simp[cW]at gi;rw[sl (by simp)];simp[Tryz.f137,gi,ha,aq];exact⟨_,_,_,rfl⟩
theorem aeZ{name:Tx}{line:Int}{v:Vr}{y:Ex}(hv:aZ p.vars name=some v)(ht:v.ty≤2)(hy:KE p y):KE p (.mk 4 0 name [] [y] line):=by
 intro m h h0 hh hm hl;have e2:=gY hv;have eg:(ak p.vars (.mk 4 0 name [] [y] line))=((ak p.vars y).1++[ins (3+v.ty) (cj p.vars name).1 0 v.lo v.hi],decide (v.ty=2)):=by simp[ak,lz,e2]
 rw[eg]at hl;simp at hl;have gi:=pA p bn hf name;rw[hv,e2]at gi;have jX:=aeW bn hf hv ht;obtain⟨v1,v2,v3,hk⟩:=hy m h h0 hh hm (by omega);have ni:=jV p.vars y;obtain⟨u1,u2,u3,ha⟩:=ji p (m.az (ak p.vars y).1 (aL h y)) (h+1) 0 (ins (3+v.ty) (cj p.vars name).1 0 v.lo v.hi) (by simp[Mk.az];omega) (au (by unfold aX;omega));have e:m.az (ak p.vars (.mk 4 0 name [] [y] line)).1 (aL h (.mk 4 0 name [] [y] line))=(m.az (ak p.vars y).1 (aL h y)).put (ins (3+v.ty) (cj p.vars name).1 0 v.lo v.hi) (h+1+0):=by
  rw[eg];simp[aL,fF,Mk.az,Mk.put];omega
 rw[e,eg];generalize (m.az (ak p.vars y).1 (aL h y)).put (ins (3+v.ty) (cj p.vars name).1 0 v.lo v.hi) (h+1+0)=M at*;generalize m.az (ak p.vars y).1 (aL h y)=N at*;simp[ins]at ha hk;rw[sl (by simp)];rcases jX with h2|h2
 ·simp[h2]at ha;simp[Tryz.f137,gi,bI,eD,aD,hk,ha,aq,h2];exact⟨_,_,_,rfl⟩
 ·simp[h2]at ha;simp[Tryz.f137,gi,bI,eD,aD,hk,ha,aq,h2];exact⟨_,_,_,rfl⟩
end
section
variable {p:Pg}
theorem ae0{op line:Int}{y:Ex}(ho:op=6∨op=7)(hy:KE p y):KE p (.mk op 0 [] [] [y] line):=by
 intro m h h0 hh hm hl;have n1:¬(op=1∨op=2):=by omega
 have n3:¬op=3:=by omega
 have n4:¬op=4:=by omega
 have n5:¬op=5:=by omega
 have Ts:¬op=1:=by omega
 have Tt:¬op=2:=by omega
 have eg:(ak p.vars (.mk op 0 [] [] [y] line))=((ak p.vars y).1++[ins 8 (if (ak p.vars y).2=true then 1 else 0) op 0 0],decide (op=7∨12<op)):=by simp[ak,eY,n1,n3,n4,n5];rfl
 rw[eg]at hl;simp at hl;obtain⟨v1,v2,v3,hk⟩:=hy m h h0 hh hm (by omega);have ni:=jV p.vars y;obtain⟨u1,u2,u3,ha⟩:=ji p (m.az (ak p.vars y).1 (aL h y)) (h+1) 0 (ins 8 (if (ak p.vars y).2=true then 1 else 0) op 0 0) (by simp[Mk.az];omega) (au (by unfold aX;omega));have e:m.az (ak p.vars (.mk op 0 [] [] [y] line)).1 (aL h (.mk op 0 [] [] [y] line))=(m.az (ak p.vars y).1 (aL h y)).put (ins 8 (if (ak p.vars y).2=true then 1 else 0) op 0 0) (h+1+0):=by
  rw[eg];have n13:¬(op=1∨op=2∨op=3∨op=5):=by omega
  simp[aL,fF,Mk.az,Mk.put,n13];omega
 rw[e,eg];generalize (m.az (ak p.vars y).1 (aL h y)).put (ins 8 (if (ak p.vars y).2=true then 1 else 0) op 0 0) (h+1+0)=M at*;generalize m.az (ak p.vars y).1 (aL h y)=N at*;generalize (ak p.vars y).2=B at*;have w1:IntKind.i64.wrap 1=1:=rfl;have w0:IntKind.i64.wrap 0=0:=rfl;simp[ins]at ha hk;rw[sl (by simp)];have e5:decide (13≤op)=decide (12<op):=by rw[decide_eq_decide];omega
 cases B with
 |true=>
  simp at ha;simp[Tryz.f137,Ts,Tt,n3,n4,n5,aD];rw[ah];simp[Tryz.f137,aD,hk,w1,w0];rw[ah];simp[Tryz.f137,hk,ha,w1,w0,e5];exact⟨_,_,_,rfl⟩
 |false=>
  simp at ha;simp[Tryz.f137,Ts,Tt,n3,n4,n5,aD];rw[ah];simp[Tryz.f137,aD,hk,w1,w0];rw[ah];simp[Tryz.f137,hk,ha,w1,w0,e5];exact⟨_,_,_,rfl⟩
theorem ae2{op line:Int}{y z:Ex}(ho:8≤op)(hy:KE p y)(hz:KE p z):KE p (.mk op 0 [] [] [y,z] line):=by
 intro m h h0 hh hm hl;have n1:¬(op=1∨op=2):=by omega
 have n3:¬op=3:=by omega
 have n4:¬op=4:=by omega
 have n5:¬op=5:=by omega
 have Ts:¬op=1:=by omega
 have Tt:¬op=2:=by omega
 have eg:(ak p.vars (.mk op 0 [] [] [y,z] line))=((ak p.vars y).1++((ak p.vars z).1++[ins 8 (if (ak p.vars z).2=true then 1 else 0) op 0 0]),decide (op=7∨12<op)):=by simp[ak,eY,n1,n3,n4,n5];rfl
 rw[eg]at hl;simp at hl;have ni:=jV p.vars y;have av7:=jV p.vars z;obtain⟨v1,v2,v3,hk⟩:=hy m h h0 hh hm (by omega);obtain⟨t1,t2,t3,cw⟩:=hz (m.az (ak p.vars y).1 (aL h y)) (h+1) (by omega) (by simp[Mk.az];omega) (by simp[Mk.az];omega) (by simp[Mk.az];omega);obtain⟨u1,u2,u3,ha⟩:=ji p ((m.az (ak p.vars y).1 (aL h y)).az (ak p.vars z).1 (aL (h+1) z)) (h+1+1) (-1) (ins 8 (if (ak p.vars z).2=true then 1 else 0) op 0 0) (by simp[Mk.az];omega) (au (by unfold aX;omega));rw[show h+1+1+ -1=h+1 by omega]at ha;have e:m.az (ak p.vars (.mk op 0 [] [] [y,z] line)).1 (aL h (.mk op 0 [] [] [y,z] line))=((m.az (ak p.vars y).1 (aL h y)).az (ak p.vars z).1 (aL (h+1) z)).put (ins 8 (if (ak p.vars z).2=true then 1 else 0) op 0 0) (h+1):=by
  rw[eg];have n13:¬(op=1∨op=2∨op=3∨op=5):=by omega
  simp[aL,fF,Mk.az,Mk.put,n13];omega
 rw[e,eg];generalize ((m.az (ak p.vars y).1 (aL h y)).az (ak p.vars z).1 (aL (h+1) z)).put (ins 8 (if (ak p.vars z).2=true then 1 else 0) op 0 0) (h+1)=M at*;generalize (m.az (ak p.vars y).1 (aL h y)).az (ak p.vars z).1 (aL (h+1) z)=N2 at*;generalize m.az (ak p.vars y).1 (aL h y)=N at*;generalize (ak p.vars z).2=B at*;generalize (ak p.vars y).2=B2 at*;have w1:IntKind.i64.wrap 1=1:=rfl;have w0:IntKind.i64.wrap 0=0:=rfl;have w2:IntKind.i64.wrap 2=2:=rfl;have w3:IntKind.i64.wrap (-1)= -1:=rfl;have e5:decide (13≤op)=decide (12<op):=by rw[decide_eq_decide];omega
 simp[ins]at ha hk cw;rw[sl (by simp)];cases B with
 |true=>
  simp at ha cw;simp[Tryz.f137,Ts,Tt,n3,n4,n5,aD];rw[ah];simp[Tryz.f137,aD,hk,w1,w0];rw[ah];simp[Tryz.f137,aD,cw,w1,w0,w2];rw[ah];simp[Tryz.f137,ha,w1,w0,w2,w3,e5];exact⟨_,_,_,rfl⟩
 |false=>
  simp at ha cw;simp[Tryz.f137,Ts,Tt,n3,n4,n5,aD];rw[ah];simp[Tryz.f137,aD,hk,w1,w0];rw[ah];simp[Tryz.f137,aD,cw,w1,w0,w2];rw[ah];simp[Tryz.f137,ha,w1,w0,w2,w3,e5];exact⟨_,_,_,rfl⟩
end
theorem ld{p:Pg}(bn:p.vars.length≤1000)(hf:∀v∈p.vars,dj v=true):∀x:Ex,bk x=true→(aF p.vars x).e=0→KE p x
 | .mk op n name field sub line,fx,ex=>by
  have ih:∀y∈sub,bk y=true→(aF p.vars y).e=0→KE p y:=fun y hy=>ld bn hf y;have hc:=DH fx ex;cases hc with
  |num h=>exact aeU
  |qN h=>exact aeV
  |var hv ha ht=>exact aeX bn hf hv ht
  |idx hv ha ht fy ey ty=>exact aeZ bn hf hv ht (ih _ (by simp) fy ey)
  |Zd hv ht hq wP=>exact aeY bn hf hv ht hq wP
  |one ho fy ey ty=>exact ae0 ho (ih _ (by simp) fy ey)
  |two ho fy ey fz ez ty tz=>exact ae2 ho.1 (ih _ (by simp) fy ey) (ih _ (by simp) fz ez)
termination_by x=>SizeOf.sizeOf x
decreasing_by all_goals (simp_wf;have:=List.sizeOf_lt_of_mem hy;omega)
end Go.Am
end
section
namespace Go.Am
open Go
def gK(ex:List (List Int))(a:List Int):List (List Int):=
 match ex.getLast? with
 |some r=>ex.dropLast++[r++a]
 |none=>[]
theorem iT(ex:List (List Int))(r a:List Int):gK (ex++[r]) a=ex++[r++a]:=by simp[gK]
theorem me(ex:List (List Int)):gK ex []=ex:=by
 rcases List.eq_nil_or_concat ex with h|⟨l,r,h⟩
 ·subst h;rfl
 ·rw[h,List.concat_eq_append,iT,List.append_nil]
theorem E2(ex:List (List Int))(a b:List Int):gK (gK ex a) b=gK ex (a++b):=by
 rcases List.eq_nil_or_concat ex with h|⟨l,r,h⟩
 ·subst h;rfl
 ·rw[h,List.concat_eq_append,iT,iT,iT,List.append_assoc]
@[simp] theorem Tu(ex:List (List Int))(a:List Int):(gK ex a).length=ex.length:=by
 rcases List.eq_nil_or_concat ex with h|⟨l,r,h⟩
 ·subst h;rfl
 ·rw[h,List.concat_eq_append,iT];simp
def Mk.aM(m:Mk)(l:List ar)(c t:Int):Mk:=
 ⟨m.out++cG m.out.length l,c,max m.most t,gK m.ex (cE (-1) m.out.length l),m.lv++cE (-2) m.out.length l⟩
theorem zB(m:Mk)(a b:List ar)(c c' t t':Int):(m.aM a c t).aM b c' t'=m.aM (jn a b) c' (max t t'):=by
 unfold Mk.aM;simp only[Mk.mk.injEq,List.length_append,mq];rw[Ij,FJ (by decide),FJ (by decide),E2];simp[List.append_assoc,Int.max_assoc]
theorem VY(m:Mk)(h:0≤m.most):m.aM [] m.cells 0=m:=by
 unfold Mk.aM;simp[cE,me];cases m;simp at h⊢;omega
theorem nN{m:Mk}{l:List ar}(h:Flat l)(t:Int):m.aM l m.cells t=m.az l t:=by
 unfold Mk.aM Mk.az;rw[h.cG,py h,py h,me];simp
theorem wC{m:Mk}{l:List ar}{x:ar}{t u:Int}:(m.az l t).put x u=m.az (l++[x]) (max t u):=by
 unfold Mk.az Mk.put;simp[List.append_assoc,Int.max_assoc]
theorem E3{m:Mk}{l r:List ar}{t u:Int}:(m.az l t).az r u=m.az (l++r) (max t u):=by
 unfold Mk.az;simp[List.append_assoc,Int.max_assoc]
theorem VZ{m:Mk}{x:ar}{u:Int}:m.put x u=m.az [x] u:=rfl
theorem tE{m:Mk}{l:List ar}{t u:Int}(h:max m.most t=max m.most u):m.az l t=m.az l u:=by
 unfold Mk.az;rw[h]
theorem mf{m:Mk}{l:List ar}{c t u:Int}(h:max m.most t=max m.most u):m.aM l c t=m.aM l c u:=by
 unfold Mk.aM;rw[h]
theorem lj(h:Int)(x:Ex):h+1≤aL h x:=by
 obtain⟨op,n,name,field,sub,line⟩:=x;unfold aL;split
 ·exact Int.le_refl _
 ·omega
theorem yP(k:Int):∀(l:List ar)(n:Nat),∀i∈cE k n l,∃j:Nat,i=j∧j<n+l.length
 |[],n,i,h=>by simp[cE]at h
 |x::r,n,i,h=>by
  simp only[cE]at h;have key:i∈cE k (n+1) r→∃j:Nat,i=j∧j<n+(x::r).length:=fun h=>by
   obtain⟨j,e,hj⟩:=yP k r (n+1) i h;exact⟨j,e,by simp;omega⟩
  split at h
  ·rcases List.mem_cons.1 h with rfl|h
   ·exact⟨n,rfl,by simp⟩
   ·exact key h
  ·exact key h
theorem pD(k:Int):∀(l:List ar)(n:Nat),(cE k n l).length≤l.length
 |[],n=>by simp[cE]
 |x::r,n=>by
  have:=pD k r (n+1);simp only[cE];split<;>simp<;>omega
def iu(m:Mk):Prop:=m.lv.length≤m.out.length∧∀r∈m.ex,r.length≤m.out.length
theorem Tv{ex:List (List Int)}{a r:List Int}(h:r∈gK ex a):∃r0∈ex,r.length≤r0.length+a.length:=by
 rcases List.eq_nil_or_concat ex with e|⟨l,q,e⟩
 ·subst e;simp[gK]at h
 ·rw[e,List.concat_eq_append]at h⊢;rw[iT]at h;rcases List.mem_append.1 h with h|h
  ·exact⟨r,by simp[h],by omega⟩
  ·simp at h;subst h;exact⟨q,by simp,by simp⟩
theorem iu.put{m:Mk}(h:iu m)(x:ar)(t:Int):iu (m.put x t):=
 ⟨by have:=h.1;simp[Mk.put];omega,fun r hr=>by have:=h.2 r hr;simp[Mk.put];omega⟩
theorem iu.az{m:Mk}(h:iu m)(l:List ar)(t:Int):iu (m.az l t):=
 ⟨by have:=h.1;simp[Mk.az];omega,fun r hr=>by have:=h.2 r hr;simp[Mk.az];omega⟩
theorem iu.aM{m:Mk}(h:iu m)(l:List ar)(c t:Int):iu (m.aM l c t):=by
 refine⟨?_,fun r hr=>?_⟩
 ·have:=h.1;have:=pD (-2) l m.out.length;simp[Mk.aM];omega
 ·obtain⟨r0,h0,hr⟩:=Tv hr;have:=h.2 r0 h0;have:=pD (-1) l m.out.length;simp[Mk.aM];omega
theorem iu.lead{m:Mk}(h:iu m)(i:Int):iu (m.lead i):=by
 have e:(m.lead i).out.length=m.out.length:=by simp[Mk.lead]
 exact⟨by rw[e];exact h.1,fun r hr=>by rw[e];exact h.2 r hr⟩
end Go.Am
end
section
namespace Go.Am
open Go Go.Proofs
variable [Inhabited bX]
set_option maxRecDepth 20000
section
variable {p:Pg} (bn:p.vars.length≤1000) (hf:∀v∈p.vars,dj v=true)
include bn hf
theorem Tw{name:Tx}{l1 l2:Int}{v:Vr}{val:Ex}(hv:aZ p.vars name=some v)(fv:bk val=true)(ev:(aF p.vars val).e=0)(m:Mk)(hm:0≤m.most)(hl:m.out.length+(ak p.vars val).1.length<99999999):
 fO p (m.az ((ak p.vars val).1++[ins 6 (cj p.vars name).1 0 0 0]) (aL 0 val)) 0 (.ret (.aW [])) (ai ctx 134 [.ptr 0 0 0,.d (b5 (.mk 1 [] (.mk 3 0 name [] [] l1) val [] [] [] [] l2))] (fM p m 0)):=by
 have gi:=pA p bn hf name;rw[hv]at gi;obtain⟨v1,v2,v3,hk⟩:=ld bn hf val fv ev m 0 (by omega) (by omega) hm (by omega);obtain⟨u1,u2,u3,hs⟩:=pz p (m.az (ak p.vars val).1 (aL 0 val)) 1 (cj p.vars name).1 (by simp[Mk.az];omega) (by decide);have e:m.az ((ak p.vars val).1++[ins 6 (cj p.vars name).1 0 0 0]) (aL 0 val)=(m.az (ak p.vars val).1 (aL 0 val)).put (ins 6 (cj p.vars name).1 0 0 0) (1+ -1):=by
  rw[wC];exact tE (by have:=lj 0 val;omega)
 rw[e];generalize (m.az (ak p.vars val).1 (aL 0 val)).put (ins 6 (cj p.vars name).1 0 0 0) (1+ -1)=M at*;generalize m.az (ak p.vars val).1 (aL 0 val)=N at*;simp at hk hs;rw[SJ (by simp)];simp[Tryz.f134,ef,gi,bI,eD,hk,hs,aq];exact⟨_,_,_,rfl⟩
theorem Ty{name:Tx}{l1 l2:Int}{v:Vr}{y val:Ex}(hv:aZ p.vars name=some v)(fy:bk y=true)(ey:(aF p.vars y).e=0)(fv:bk val=true)(ev:(aF p.vars val).e=0)(m:Mk)(hm:0≤m.most)(hl:m.out.length+(ak p.vars y).1.length+(ak p.vars val).1.length<99999999):
 fO p (m.az ((ak p.vars y).1++((ak p.vars val).1++[ins 7 (cj p.vars name).1 0 v.lo v.hi])) (max (aL 0 y) (aL 1 val))) 0 (.ret (.aW [])) (ai ctx 134 [.ptr 0 0 0,.d (b5 (.mk 1 [] (.mk 4 0 name [] [y] l1) val [] [] [] [] l2))] (fM p m 0)):=by
 have gi:=pA p bn hf name;rw[hv,gY hv]at gi;obtain⟨v1,v2,v3,hk⟩:=ld bn hf y fy ey m 0 (by omega) (by omega) hm (by omega);have ni:=jV p.vars y;obtain⟨t1,t2,t3,cw⟩:=ld bn hf val fv ev (m.az (ak p.vars y).1 (aL 0 y)) 1 (by omega) (by simp[Mk.az];omega) (by simp[Mk.az];omega) (by simp[Mk.az];omega);obtain⟨u1,u2,u3,hs⟩:=ji p ((m.az (ak p.vars y).1 (aL 0 y)).az (ak p.vars val).1 (aL 1 val)) 2 (-2) (ins 7 (cj p.vars name).1 0 v.lo v.hi) (by simp[Mk.az];omega) (by decide);have e:m.az ((ak p.vars y).1++((ak p.vars val).1++[ins 7 (cj p.vars name).1 0 v.lo v.hi])) (max (aL 0 y) (aL 1 val))=((m.az (ak p.vars y).1 (aL 0 y)).az (ak p.vars val).1 (aL 1 val)).put (ins 7 (cj p.vars name).1 0 v.lo v.hi) (2+ -2):=by
  rw[E3,wC,List.append_assoc];exact tE (by have:=lj 0 y;omega)
 rw[e];generalize ((m.az (ak p.vars y).1 (aL 0 y)).az (ak p.vars val).1 (aL 1 val)).put (ins 7 (cj p.vars name).1 0 v.lo v.hi) (2+ -2)=M at*;generalize (m.az (ak p.vars y).1 (aL 0 y)).az (ak p.vars val).1 (aL 1 val)=N2 at*;generalize m.az (ak p.vars y).1 (aL 0 y)=N at*;simp[ins]at hk cw hs;rw[SJ (by simp)];simp[Tryz.f134,ef,gi,bI,eD,aD,hk,cw,hs,aq];exact⟨_,_,_,rfl⟩
end
@[simp] def Zk(p:Pg)(m:Mk)(h:Int)(v1 v2 v3:Nat):List cI:=[⟨0,0,.box [.d (.str p.name),.d (.list (p.vars.map bI)),.d (.list (p.body.map b5)),.vec 1 v1 0 m.out.length,.d (.int .i64 m.cells),.d (.int .i64 h),.d (.int .i64 m.most),.vec 2 v2 0 m.ex.length,.vec 3 v3 0 m.lv.length]⟩,⟨1,v1,.vec 5 (m.out.map dc)⟩,⟨2,v2,.vv (m.ex.map fL) none⟩,⟨3,v3,.vec 1 (m.lv.map dC)⟩]
section
variable {p:Pg} (bn:p.vars.length≤1000) (hf:∀v∈p.vars,dj v=true)
include bn hf
theorem CS(x:Sm)(xS:(dR x).length<100000000)(at_:AV)(v:Vr)(k:Kt)(Q:Mk→bS→Prop)
 (hx:∀(Y:Env) M v1 v2 v3 v6 X6,Q M (k (.exit 0) ⟨60,aC,(0,true,.ptr 0 0 0)::(3,true,.ptr 250 1 0)::(4,true,at_)::(5,true,.ptr 350 1 0)::Y,Zk p M 0 v1 v2 v3++[⟨250,1,bh x⟩,⟨350,1,ie v⟩,⟨600,v6,X6⟩]⟩)):
 ∀(fr fp:List Tx)(cr cp:List Ex)(m:Mk)(v1 v2 v3 v6:Nat)(X6:aE),dR x=fp++fr→cy x=cp++cr→fp.length=cp.length→fr.length=cr.length→(∀c∈cr,bk c=true∧(aF p.vars c).e=0)→0≤m.most→m.out.length+(dw p.vars (gU x) fr cr).length<99999999→
 Q (m.az (dw p.vars (gU x) fr cr) (jU cr)) (aI ctx 142 (.loop (Code.at (aY Tryz.f142) [1,1,0,1,0,0])) ⟨60,aC,[(0,true,.ptr 0 0 0),(3,true,.ptr 250 1 0),(4,true,at_),(5,true,.ptr 350 1 0),(24,true,.d (.list ((dR x).map .str))),(25,true,.d (.int .i64 (dR x).length)),(26,true,.d (.int .i64 fp.length))],Zk p m 0 v1 v2 v3++[⟨250,1,bh x⟩,⟨350,1,ie v⟩,⟨600,v6,X6⟩]⟩ k)
 |[],fp,cr,cp,m,v1,v2,v3,v6,X6,h1,h2,h3,h4,hK,hm,hl=>by
  have hc:cr=[]:=sr (by simpa using h4.symm);subst hc;have e:m.az (dw p.vars (gU x) [] []) (jU [])=m:=by
   simp[dw,jU,Mk.az];cases m;simp at hm⊢;omega
  rw[e];have cf:fp.length=(dR x).length:=by rw[h1];simp
  have:=hx [(24,true,.d (.list ((dR x).map .str))),(25,true,.d (.int .i64 (dR x).length)),(26,true,.d (.int .i64 (dR x).length)),(27,true,.d (.bool false))] m v1 v2 v3 v6 X6;simp at this;rw[cf,ah];simp[Tryz.f142,this]
 |f::fr,fp,cr,cp,m,v1,v2,v3,v6,X6,h1,h2,h3,h4,hK,hm,hl=>by
  obtain⟨c,cr,rfl⟩:∃c r,cr=c::r:=by
   cases cr with
   |nil=>simp at h4
   |cons c r=>exact⟨c,r,rfl⟩
  have ni:=jV p.vars c;have eC:dw p.vars (gU x) (f::fr) (c::cr)=((ak p.vars c).1++[ins 6 (ir p.vars (gU x) f).1 0 0 0])++dw p.vars (gU x) fr cr:=by simp[dw]
  rw[eC]at hl⊢;simp at hl;obtain⟨fc,ec⟩:=hK c (by simp);obtain⟨b,ae3⟩:=Iy p bn hf (gU x) f;obtain⟨s1,s2,s3,hk⟩:=ld bn hf c fc ec m 0 (by omega) (by omega) hm (by omega);obtain⟨u1,u2,u3,hs⟩:=pz p (m.az (ak p.vars c).1 (aL 0 c)) 1 (ir p.vars (gU x) f).1 (by simp[Mk.az];omega) (by decide);have e:m.az (((ak p.vars c).1++[ins 6 (ir p.vars (gU x) f).1 0 0 0])++dw p.vars (gU x) fr cr) (jU (c::cr))=((m.az (ak p.vars c).1 (aL 0 c)).put (ins 6 (ir p.vars (gU x) f).1 0 0 0) (1+ -1)).az (dw p.vars (gU x) fr cr) (jU cr):=by
   rw[wC,E3];exact tE (by have:=lj 0 c;simp only[jU];omega)
  rw[e];have m5:0≤((m.az (ak p.vars c).1 (aL 0 c)).put (ins 6 (ir p.vars (gU x) f).1 0 0 0) (1+ -1)).most:=by simp[Mk.put,Mk.az];omega
  have oC:((m.az (ak p.vars c).1 (aL 0 c)).put (ins 6 (ir p.vars (gU x) f).1 0 0 0) (1+ -1)).out.length=m.out.length+(ak p.vars c).1.length+1:=by simp[Mk.put,Mk.az];omega
  have ih:=fun v1 v2 v3 v6 X6=>CS x xS at_ v k Q hx fr (fp++[f]) cr (cp++[c]) ((m.az (ak p.vars c).1 (aL 0 c)).put (ins 6 (ir p.vars (gU x) f).1 0 0 0) (1+ -1)) v1 v2 v3 v6 X6 (by simp[h1]) (by simp[h2]) (by simp[h3]) (by simpa using h4) (fun c hc=>hK c (by simp[hc])) m5 (by rw[oC];omega);clear hx hK e;generalize (m.az (ak p.vars c).1 (aL 0 c)).put (ins 6 (ir p.vars (gU x) f).1 0 0 0) (1+ -1)=M at*;generalize m.az (ak p.vars c).1 (aL 0 c)=N at*;have aR:fp.length<(dR x).length:=by rw[h1];simp
  have aV:(dR x)[fp.length]=f:=by simp[h1]
  have tD:fp.length<(cy x).length:=by rw[h2,h3];simp
  have yQ:(cy x)[fp.length]=c:=by simp[h2,h3]
  have w1:IntKind.i64.wrap ((fp.length:Int)+1)=(fp.length:Int)+1:=au (by unfold aX;omega);rw[ah];simp at hk hs ae3;simp[Tryz.f142]at ih⊢;simp[aR,aV,tD,yQ,aD,cW,ae3,hk,hs,aq,w1,ih]
theorem aaa{name:Tx}{to val:Ex}{conds:List Ex}{fields:List Tx}{line:Int}{v:Vr}(hv:aZ p.vars name=some v)(hl4:conds.length=fields.length)(xS:fields.length<100000000)(hK:∀c∈conds,bk c=true∧(aF p.vars c).e=0)(m:Mk)(hm:0≤m.most)(hl:m.out.length+(dw p.vars name fields conds).length<99999998):
 fO p (m.az (dw p.vars name fields conds++[ins 12 (cj p.vars name).1 v.ty 0 0]) (jU conds)) 0 (.ret (.aW [])) (ai ctx 142 [.ptr 0 0 0,.d (b5 (.mk 9 name to val conds [] fields [] line))] (fM p m 0)):=by
 have gi:=pA p bn hf name;rw[hv,gY hv]at gi;have ha:=fun (N:Mk) (h:N.out.length<100000000)=>ji p N 0 0 (ins 12 (cj p.vars name).1 v.ty 0 0) h (by decide);have e:m.az (dw p.vars name fields conds++[ins 12 (cj p.vars name).1 v.ty 0 0]) (jU conds)=(m.az (dw p.vars name fields conds) (jU conds)).put (ins 12 (cj p.vars name).1 v.ty 0 0) (0+0):=by
  rw[wC];exact tE (by omega)
 rw[e];obtain⟨u1,u2,u3,hu⟩:=ha (m.az (dw p.vars name fields conds) (jU conds)) (by simp[Mk.az];omega);have cJ:=fun (at_:AV) (k:Kt) (Q:Mk→bS→Prop) hx v6 X6=>CS bn hf (.mk 9 name to val conds [] fields [] line) xS at_ v k Q hx fields [] conds [] m 0 0 0 v6 X6 rfl rfl rfl hl4.symm hK hm (by simpa using (by omega:m.out.length+(dw p.vars name fields conds).length<99999999));rw[acW (by simp)];generalize (m.az (dw p.vars name fields conds) (jU conds)).put (ins 12 (cj p.vars name).1 v.ty 0 0) (0+0)=M at*;simp only[ab5,R3,R0]at cJ;generalize m.az (dw p.vars name fields conds) (jU conds)=N at*;simp[ins]at hu;simp[Tryz.f142]at cJ⊢;simp[ef,gi,bI,eD,aq];refine cJ _ _ (fun X r=>X=N→fO p M 0 (.ret (.aW [])) r) (fun Y X v1 v2 v3 v6 X6 hX=>?_) _ _ rfl;subst hX;simp[Tryz.f142,hu];exact⟨_,_,_,rfl⟩
end
end Go.Am
end
section
namespace Go.Am
open Go
def dy:List (List ar×Int)→Int
 |[]=>0
 |t::r=>max t.2 (dy r)
def dp(ts:List (List ar×Int)):List (List ar):=ts.map (·.1)
def Mk.dg(m:Mk)(ts:List (List ar×Int))(bs:List (List ar))(c t:Int):Mk:=
 ⟨m.out++jI 0 m.out.length (dp ts) bs,c,max m.most t,gK m.ex (tA (-1) m.out.length (dp ts) bs),m.lv++tA (-2) m.out.length (dp ts) bs⟩
theorem Iz(m:Mk)(ts:List (List ar×Int))(h:0≤m.most):m.dg ts [] m.cells 0=m:=by
 unfold Mk.dg;have e1:jI 0 m.out.length (dp ts) []=[]:=by unfold jI;rfl
 have e2:∀k,tA k m.out.length (dp ts) []=[]:=fun k=>by unfold tA;rfl
 rw[e1,e2,e2,me];cases m;simp at h⊢;omega
def Mk.fQ(m:Mk)(t:List ar×Int):Mk:=(m.az t.1 t.2).put (ins 10 0 0 0 0) 0
theorem wD(a b c:List ar)(x:ar)(v:Int)(k:Int)(hk:k=((a.length+b.length:Nat):Int)):setAt (a++b++x::c) k v=a++b++{x with a:=v}::c:=by
 have:=qp (a++b) x c v;simp only[List.length_append]at this;rw[hk];exact this
theorem Ns(m:Mk)(t:List ar×Int)(ts:List (List ar×Int))(b:List ar)(c u:Int)(h0:0≤m.most):
 ((m.fQ t).aM b c u).lead (m.out.length+t.1.length:Nat)=m.dg (t::ts) [b] c (max t.2 u):=by
 unfold Mk.fQ Mk.az Mk.put Mk.aM Mk.lead Mk.dg dp;simp only[List.map_cons,jI,tA,if_true,List.append_nil,Mk.mk.injEq,true_and];have hlen:(m.out++t.1++[ins 10 0 0 0 0]).length=m.out.length+t.1.length+1:=by simp;omega
 rw[hlen];refine⟨?_,by omega,rfl,rfl⟩;have:=wD m.out t.1 (cG (m.out.length+t.1.length+1) b) (ins 10 0 0 0 0) ((m.out.length+t.1.length+1+b.length:Nat):Int) ((m.out.length+t.1.length:Nat):Int) rfl;simp only[ins]at this⊢;have e2:((m.out++t.1++[({op:=10,a:=0,b:=0,n:=0,m:=0}:ar)]++cG (m.out.length+t.1.length+1) b).length:Int)=((m.out.length+t.1.length+1+b.length:Nat):Int):=by simp;omega
 rw[e2];have e3:m.out++t.1++[({op:=10,a:=0,b:=0,n:=0,m:=0}:ar)]++cG (m.out.length+t.1.length+1) b=m.out++t.1++({op:=10,a:=0,b:=0,n:=0,m:=0}:ar)::cG (m.out.length+t.1.length+1) b:=by simp
 rw[e3,this];simp
theorem Nt(m:Mk)(t:List ar×Int)(ts:List (List ar×Int))(b:List ar)(bs:List (List ar))(c c' u u':Int)(h0:0≤m.most)(hb:bs≠[]):
 ((((m.fQ t).aM b c u).put (ins 9 0 0 0 0) 0).lead (m.out.length+t.1.length:Nat)).dg ts bs c' u'=m.dg (t::ts) (b::bs) c' (max t.2 (max u u')):=by
 have kJ:((((m.fQ t).aM b c u).put (ins 9 0 0 0 0) 0).lead (m.out.length+t.1.length:Nat)).out.length=m.out.length+t.1.length+2+b.length:=by
  simp[Mk.fQ,Mk.az,Mk.put,Mk.aM,Mk.lead];omega
 have ho:((((m.fQ t).aM b c u).put (ins 9 0 0 0 0) 0).lead (m.out.length+t.1.length:Nat)).out=m.out++(t.1++ins 10 (m.out.length+t.1.length+2+b.length) 0 0 0::(cG (m.out.length+t.1.length+1) b++[ins 9 0 0 0 0])):=by
  unfold Mk.fQ Mk.az Mk.put Mk.aM Mk.lead;simp only
  have hlen:(m.out++t.1++[ins 10 0 0 0 0]).length=m.out.length+t.1.length+1:=by simp;omega
  rw[hlen];have:=wD m.out t.1 (cG (m.out.length+t.1.length+1) b++[ins 9 0 0 0 0]) (ins 10 0 0 0 0) ((m.out.length+t.1.length+2+b.length:Nat):Int) ((m.out.length+t.1.length:Nat):Int) rfl;have e2:((m.out++t.1++[ins 10 0 0 0 0]++cG (m.out.length+t.1.length+1) b++[ins 9 0 0 0 0]).length:Int)=((m.out.length+t.1.length+2+b.length:Nat):Int):=by simp;omega
  rw[e2];have e3:m.out++t.1++[ins 10 0 0 0 0]++cG (m.out.length+t.1.length+1) b++[ins 9 0 0 0 0]=m.out++t.1++ins 10 0 0 0 0::(cG (m.out.length+t.1.length+1) b++[ins 9 0 0 0 0]):=by simp
  rw[e3,this];simp[ins]
 have hex:((((m.fQ t).aM b c u).put (ins 9 0 0 0 0) 0).lead (m.out.length+t.1.length:Nat)).ex=gK m.ex (cE (-1) (m.out.length+t.1.length+1) b):=by
  unfold Mk.fQ Mk.az Mk.put Mk.aM Mk.lead;simp only
  have hlen:(m.out++t.1++[ins 10 0 0 0 0]).length=m.out.length+t.1.length+1:=by simp;omega
  rw[hlen]
 have nA:((((m.fQ t).aM b c u).put (ins 9 0 0 0 0) 0).lead (m.out.length+t.1.length:Nat)).lv=m.lv++cE (-2) (m.out.length+t.1.length+1) b:=by
  unfold Mk.fQ Mk.az Mk.put Mk.aM Mk.lead;simp only
  have hlen:(m.out++t.1++[ins 10 0 0 0 0]).length=m.out.length+t.1.length+1:=by simp;omega
  rw[hlen]
 have hmo:((((m.fQ t).aM b c u).put (ins 9 0 0 0 0) 0).lead (m.out.length+t.1.length:Nat)).most=max m.most (max t.2 u):=by
  simp[Mk.fQ,Mk.az,Mk.put,Mk.aM,Mk.lead];omega
 generalize (((m.fQ t).aM b c u).put (ins 9 0 0 0 0) 0).lead (m.out.length+t.1.length:Nat)=M at*;unfold Mk.dg;rw[kJ,ho,hex,nA,hmo];simp only[dp,List.map_cons,jI,tA,if_neg hb,Mk.mk.injEq,true_and,E2,List.append_assoc];exact⟨by simp,by omega,trivial⟩
theorem Nu(m:Mk)(b:List ar)(c u:Int):m.aM b c u=m.dg [] [b] c u:=by
 unfold Mk.aM Mk.dg dp;simp[jI,tA]
end Go.Am
end
section
namespace Go.Am
open Go Go.Proofs
variable [Inhabited bX]
set_option maxRecDepth 20000
def E4(p:Pg)(m:Mk)(h:Int)(s:Sm)(o:Out)(r:bS):Prop:=∃v1 v2 v3,r=some (o,[(0,.box [.ptr 2 0 0]),(0,bh s),(0,gJ p m h 3 4 5 v1 v2 v3),(v1,.vec 5 (m.out.map dc)),(v2,.vv (m.ex.map fL) none),(v3,.vec 1 (m.lv.map dC))])
section
variable {p:Pg} (bn:p.vars.length≤1000) (hf:∀v∈p.vars,dj v=true)
include bn hf
theorem aab(s:Sm)(i:Nat)(c:Ex)(hc:(cy s)[i]?=some c)(fc:bk c=true)(ec:(aF p.vars c).e=0)(m:Mk)(hm:0≤m.most)(hl:m.out.length+(ak p.vars c).1.length<99999999):
 E4 p (m.az (ak p.vars c).1 (aL 0 c)) 1 s (.ret (.aW [])) (ai ctx 136 [.d (.int .i64 i),.ptr 0 0 0,.ptr 1 0 0] [.box [.ptr 2 0 0],bh s,gJ p m 0 3 4 5 0 0 0,.vec 5 (m.out.map dc),.vv (m.ex.map fL) none,.vec 1 (m.lv.map dC)]):=by
 obtain⟨v1,v2,v3,hk⟩:=ld bn hf c fc ec m 0 (by omega) (by omega) hm (by omega);have aR:i<(cy s).length:=(List.getElem?_eq_some_iff.1 hc).1;have aV:(cy s)[i]=c:=(List.getElem?_eq_some_iff.1 hc).2;generalize m.az (ak p.vars c).1 (aL 0 c)=M at*;simp at hk;rw[acT (by simp)];simp[Tryz.f136,aq,aR,aV,aD,hk];exact⟨_,_,_,rfl⟩
end
mutual
def vd:Sm→Nat
 | .mk _ _ _ _ _ _ _ blocks _=>uk blocks+1
def iw:List Sm→Nat
 |[]=>0
 |x::r=>max (vd x) (iw r)
def uk:List (List Sm)→Nat
 |[]=>0
 |b::r=>max (iw b) (uk r)
end
theorem Be:∀{l:List (List Sm)}{b:List Sm},b∈l→iw b≤uk l
 |c::r,b,h=>by
  simp only[uk];rcases List.mem_cons.1 h with rfl|h
  ·omega
  ·have:=Be h;omega
def sA(p:Pg)(lp:Bool)(b:List Sm):Prop:=∀(m:Mk),0≤m.most→0≤m.cells→iu m→(lp=true→m.ex≠[])→m.out.length+(ag p.vars b m.cells).1.length<99999990→(ag p.vars b m.cells).2<99999990→m.ex.length+iw b<99999990→
 fO p (m.aM (ag p.vars b m.cells).1 (ag p.vars b m.cells).2 (bg b)) 0 (.ret (.aW [])) (ai ctx 51 [.ptr 0 0 0,.d (.list (b.map b5))] (fM p m 0))
@[simp] def An(p:Pg)(m:Mk)(s:Sm)(E:List Int)(v1 v2 v3 ve:Nat):List cI:=[⟨0,0,gJ p m 0 3 4 5 v1 v2 v3⟩,⟨1,0,.box [.ptr 0 0 0]⟩,⟨2,0,bh s⟩,⟨3,v1,.vec 5 (m.out.map dc)⟩,⟨4,v2,.vv (m.ex.map fL) none⟩,⟨5,v3,.vec 1 (m.lv.map dC)⟩,⟨500,ve,.vec 1 (E.map dC)⟩]
theorem aac{p:Pg}{s:Sm}{blocks:List (List Sm)}{n i:Nat}{b:List Sm}(aR:i<blocks.length)(aV:blocks[i]=b)(cD:i<n)(hn:n<99999990)(jA:i+1<blocks.length)(fG:blocks.length<99999990)
 {m m1 m3:Mk} (h1:E4 p m1 1 s (.ret (.aW [])) (ai ctx 136 [.d (.int .i64 i),.ptr 0 0 0,.ptr 1 0 0] [.box [.ptr 2 0 0],bh s,gJ p m 0 3 4 5 0 0 0,.vec 5 (m.out.map dc),.vv (m.ex.map fL) none,.vec 1 (m.lv.map dC)]))
 (kJ:m1.out.length<99999990)
 (h3:fO p m3 0 (.ret (.aW [])) (ai ctx 51 [.ptr 0 0 0,.d (.list (b.map b5))] (fM p (m1.put (ins 10 0 0 0 0) 0) 0)))
 (vg:m1.out.length<m3.out.length∧m3.out.length<99999990) (E:List Int) (hE:E.length<99999990) (k:Kt) (Q:bS→Prop)
 (hx:∀v1 v2 v3 ve,Q (aI ctx 135 (.loop (Code.at (aY Tryz.f135) [1,0,1,0,0])) ⟨49,aC,[(0,true,.ptr 0 0 0),(1,true,.d (.list (blocks.map df))),(2,true,.d (.int .i64 n)),(3,true,.fn 136 [.ptr 1 0 0,.ptr 2 0 0]),(8,true,.vec 500 ve 0 (E.length+1)),(12,true,.d (.list (blocks.map df))),(13,true,.d (.int .i64 blocks.length)),(14,true,.d (.int .i64 (i+1)))],An p ((m3.put (ins 9 0 0 0 0) 0).lead m1.out.length) s (E++[(m3.out.length:Int)]) v1 v2 v3 ve⟩ k))
 (v1 v2 v3 ve:Nat):
 Q (aI ctx 135 (.loop (Code.at (aY Tryz.f135) [1,0,1,0,0])) ⟨49,aC,[(0,true,.ptr 0 0 0),(1,true,.d (.list (blocks.map df))),(2,true,.d (.int .i64 n)),(3,true,.fn 136 [.ptr 1 0 0,.ptr 2 0 0]),(8,true,.vec 500 ve 0 E.length),(12,true,.d (.list (blocks.map df))),(13,true,.d (.int .i64 blocks.length)),(14,true,.d (.int .i64 i))],An p m s E v1 v2 v3 ve⟩ k):=by
 obtain⟨a1,a2,a3,h1⟩:=h1;obtain⟨c1,c2,c3,h2⟩:=wB p m1 1 0 (by omega) (by decide);rw[show (1:Int)+ -1=0 by omega]at h2;obtain⟨d1,d2,d3,h3⟩:=h3;obtain⟨e1,e2,e3,h4⟩:=CP p m3 0 0 (by omega) (by decide);have CT:(m3.put (ins 9 0 0 0 0) 0).out.length=m3.out.length+1:=by simp[Mk.put]
 have h5:=qu p (m3.put (ins 9 0 0 0 0) 0) 0 m1.out.length (by rw[CT];omega) (by rw[CT];omega);have w1:IntKind.i64.wrap ((i:Int)+1)=(i:Int)+1:=au (by unfold aX;omega);have w2:IntKind.i64.wrap ((blocks.length:Int)-1)=(blocks.length:Int)-1:=au (by unfold aX;omega);have w3:(i:Int)<(blocks.length:Int)-1:=by omega
 have w4:E.length≤4611686018427387903:=by omega
 have w5:(E.length+1)*8≤140737488355328:=by omega
 have w6:(0:Int)≤m1.out.length:=by omega
 generalize (m3.put (ins 9 0 0 0 0) 0).lead m1.out.length=M5 at*;generalize m3.put (ins 9 0 0 0 0) 0=M4 at*;generalize m1.put (ins 10 0 0 0 0) 0=M2 at*;rw[ah];simp at h1 h2 h3 h4 h5;simp[Tryz.f135]at hx⊢;simp[aR,aV,df,cD,h1,h2,h3,h4,h5,w1,w2,w3,w4,w5,w6,hx]
theorem aad{p:Pg}{s:Sm}{blocks:List (List Sm)}{n i:Nat}{b:List Sm}(aR:i<blocks.length)(aV:blocks[i]=b)(cD:i<n)(hn:n<99999990)(jA:¬i+1<blocks.length)(fG:blocks.length<99999990)
 {m m1 m3:Mk} (h1:E4 p m1 1 s (.ret (.aW [])) (ai ctx 136 [.d (.int .i64 i),.ptr 0 0 0,.ptr 1 0 0] [.box [.ptr 2 0 0],bh s,gJ p m 0 3 4 5 0 0 0,.vec 5 (m.out.map dc),.vv (m.ex.map fL) none,.vec 1 (m.lv.map dC)]))
 (kJ:m1.out.length<99999990)
 (h3:fO p m3 0 (.ret (.aW [])) (ai ctx 51 [.ptr 0 0 0,.d (.list (b.map b5))] (fM p (m1.put (ins 10 0 0 0 0) 0) 0)))
 (vg:m1.out.length<m3.out.length∧m3.out.length<99999990) (E:List Int) (hE:E.length<99999990) (k:Kt) (Q:bS→Prop)
 (hx:∀v1 v2 v3 ve,Q (aI ctx 135 (.loop (Code.at (aY Tryz.f135) [1,0,1,0,0])) ⟨49,aC,[(0,true,.ptr 0 0 0),(1,true,.d (.list (blocks.map df))),(2,true,.d (.int .i64 n)),(3,true,.fn 136 [.ptr 1 0 0,.ptr 2 0 0]),(8,true,.vec 500 ve 0 E.length),(12,true,.d (.list (blocks.map df))),(13,true,.d (.int .i64 blocks.length)),(14,true,.d (.int .i64 (i+1)))],An p (m3.lead m1.out.length) s E v1 v2 v3 ve⟩ k))
 (v1 v2 v3 ve:Nat):
 Q (aI ctx 135 (.loop (Code.at (aY Tryz.f135) [1,0,1,0,0])) ⟨49,aC,[(0,true,.ptr 0 0 0),(1,true,.d (.list (blocks.map df))),(2,true,.d (.int .i64 n)),(3,true,.fn 136 [.ptr 1 0 0,.ptr 2 0 0]),(8,true,.vec 500 ve 0 E.length),(12,true,.d (.list (blocks.map df))),(13,true,.d (.int .i64 blocks.length)),(14,true,.d (.int .i64 i))],An p m s E v1 v2 v3 ve⟩ k):=by
 obtain⟨a1,a2,a3,h1⟩:=h1;obtain⟨c1,c2,c3,h2⟩:=wB p m1 1 0 (by omega) (by decide);rw[show (1:Int)+ -1=0 by omega]at h2;obtain⟨d1,d2,d3,h3⟩:=h3;have h5:=qu p m3 0 m1.out.length (by omega) (by omega);have w1:IntKind.i64.wrap ((i:Int)+1)=(i:Int)+1:=au (by unfold aX;omega);have w2:IntKind.i64.wrap ((blocks.length:Int)-1)=(blocks.length:Int)-1:=au (by unfold aX;omega);have w3:¬(i:Int)<(blocks.length:Int)-1:=by omega
 have w6:(0:Int)≤m1.out.length:=by omega
 generalize m3.lead m1.out.length=M5 at*;generalize m1.put (ins 10 0 0 0 0) 0=M2 at*;rw[ah];simp at h1 h2 h3 h5;simp[Tryz.f135]at hx⊢;simp[aR,aV,df,cD,h1,h2,h3,h5,w1,w2,w3,w6,hx]
theorem aae{p:Pg}{s:Sm}{blocks:List (List Sm)}{n i:Nat}{b:List Sm}(aR:i<blocks.length)(aV:blocks[i]=b)(cD:¬i<n)(hn:n<99999990)(jA:¬i+1<blocks.length)(fG:blocks.length<99999990)
 {m m3:Mk}
 (h3:fO p m3 0 (.ret (.aW [])) (ai ctx 51 [.ptr 0 0 0,.d (.list (b.map b5))] (fM p m 0)))
 (E:List Int) (k:Kt) (Q:bS→Prop)
 (hx:∀v1 v2 v3 ve,Q (aI ctx 135 (.loop (Code.at (aY Tryz.f135) [1,0,1,0,0])) ⟨49,aC,[(0,true,.ptr 0 0 0),(1,true,.d (.list (blocks.map df))),(2,true,.d (.int .i64 n)),(3,true,.fn 136 [.ptr 1 0 0,.ptr 2 0 0]),(8,true,.vec 500 ve 0 E.length),(12,true,.d (.list (blocks.map df))),(13,true,.d (.int .i64 blocks.length)),(14,true,.d (.int .i64 (i+1)))],An p m3 s E v1 v2 v3 ve⟩ k))
 (v1 v2 v3 ve:Nat):
 Q (aI ctx 135 (.loop (Code.at (aY Tryz.f135) [1,0,1,0,0])) ⟨49,aC,[(0,true,.ptr 0 0 0),(1,true,.d (.list (blocks.map df))),(2,true,.d (.int .i64 n)),(3,true,.fn 136 [.ptr 1 0 0,.ptr 2 0 0]),(8,true,.vec 500 ve 0 E.length),(12,true,.d (.list (blocks.map df))),(13,true,.d (.int .i64 blocks.length)),(14,true,.d (.int .i64 i))],An p m s E v1 v2 v3 ve⟩ k):=by
 obtain⟨d1,d2,d3,h3⟩:=h3;have w1:IntKind.i64.wrap ((i:Int)+1)=(i:Int)+1:=au (by unfold aX;omega);have w2:IntKind.i64.wrap ((blocks.length:Int)-1)=(blocks.length:Int)-1:=au (by unfold aX;omega);have w3:¬(i:Int)<(blocks.length:Int)-1:=by omega
 rw[ah];simp at h3;simp[Tryz.f135]at hx⊢;simp[aR,aV,df,cD,h3,w1,w2,w3,hx]
theorem Bf{p:Pg}{s:Sm}{blocks:List (List Sm)}{n:Nat}{m:Mk}(E:List Int)(k:Kt)(Q:bS→Prop)
 (hx:∀(Y:Env) v1 v2 v3 ve,Q (k (.exit 0) ⟨49,aC,(0,true,.ptr 0 0 0)::(1,true,.d (.list (blocks.map df)))::(2,true,.d (.int .i64 n))::(3,true,.fn 136 [.ptr 1 0 0,.ptr 2 0 0])::(8,true,.vec 500 ve 0 E.length)::Y,An p m s E v1 v2 v3 ve⟩))
 (v1 v2 v3 ve:Nat) {i:Nat} (hi:i=blocks.length):
 Q (aI ctx 135 (.loop (Code.at (aY Tryz.f135) [1,0,1,0,0])) ⟨49,aC,[(0,true,.ptr 0 0 0),(1,true,.d (.list (blocks.map df))),(2,true,.d (.int .i64 n)),(3,true,.fn 136 [.ptr 1 0 0,.ptr 2 0 0]),(8,true,.vec 500 ve 0 E.length),(12,true,.d (.list (blocks.map df))),(13,true,.d (.int .i64 blocks.length)),(14,true,.d (.int .i64 i))],An p m s E v1 v2 v3 ve⟩ k):=by
 subst hi;rw[ah];simp[Tryz.f135]at hx⊢;exact hx _ _ _ _ _
def Nv(p:Pg)(m:Mk)(h:Int)(s:Sm)(q:Int)(o:Out)(r:bS):Prop:=∃v1 v2 v3,r=some (o,[(0,.box [.ptr 3 0 0]),(0,bh s),(0,.box [.d (.int .i64 q)]),(0,gJ p m h 4 5 6 v1 v2 v3),(v1,.vec 5 (m.out.map dc)),(v2,.vv (m.ex.map fL) none),(v3,.vec 1 (m.lv.map dC))])
@[simp] def Ao(p:Pg)(m:Mk)(s:Sm)(q:Int)(E:List Int)(v1 v2 v3 ve:Nat):List cI:=[⟨0,0,gJ p m 0 4 5 6 v1 v2 v3⟩,⟨1,0,.box [.ptr 0 0 0]⟩,⟨2,0,bh s⟩,⟨3,0,.box [.d (.int .i64 q)]⟩,⟨4,v1,.vec 5 (m.out.map dc)⟩,⟨5,v2,.vv (m.ex.map fL) none⟩,⟨6,v3,.vec 1 (m.lv.map dC)⟩,⟨500,ve,.vec 1 (E.map dC)⟩]
theorem aaf{p:Pg}{s:Sm}{q:Int}{blocks:List (List Sm)}{n i:Nat}{b:List Sm}(aR:i<blocks.length)(aV:blocks[i]=b)(cD:i<n)(hn:n<99999990)(jA:i+1<blocks.length)(fG:blocks.length<99999990)
 {m m1 m3:Mk} (h1:Nv p m1 1 s q (.ret (.aW [])) (ai ctx 208 [.d (.int .i64 i),.ptr 0 0 0,.ptr 1 0 0,.ptr 2 0 0] [.box [.ptr 3 0 0],bh s,.box [.d (.int .i64 q)],gJ p m 0 4 5 6 0 0 0,.vec 5 (m.out.map dc),.vv (m.ex.map fL) none,.vec 1 (m.lv.map dC)]))
 (kJ:m1.out.length<99999990)
 (h3:fO p m3 0 (.ret (.aW [])) (ai ctx 51 [.ptr 0 0 0,.d (.list (b.map b5))] (fM p (m1.put (ins 10 0 0 0 0) 0) 0)))
 (vg:m1.out.length<m3.out.length∧m3.out.length<99999990) (E:List Int) (hE:E.length<99999990) (k:Kt) (Q:bS→Prop)
 (hx:∀v1 v2 v3 ve,Q (aI ctx 135 (.loop (Code.at (aY Tryz.f135) [1,0,1,0,0])) ⟨49,aC,[(0,true,.ptr 0 0 0),(1,true,.d (.list (blocks.map df))),(2,true,.d (.int .i64 n)),(3,true,.fn 208 [.ptr 1 0 0,.ptr 2 0 0,.ptr 3 0 0]),(8,true,.vec 500 ve 0 (E.length+1)),(12,true,.d (.list (blocks.map df))),(13,true,.d (.int .i64 blocks.length)),(14,true,.d (.int .i64 (i+1)))],Ao p ((m3.put (ins 9 0 0 0 0) 0).lead m1.out.length) s q (E++[(m3.out.length:Int)]) v1 v2 v3 ve⟩ k))
 (v1 v2 v3 ve:Nat):
 Q (aI ctx 135 (.loop (Code.at (aY Tryz.f135) [1,0,1,0,0])) ⟨49,aC,[(0,true,.ptr 0 0 0),(1,true,.d (.list (blocks.map df))),(2,true,.d (.int .i64 n)),(3,true,.fn 208 [.ptr 1 0 0,.ptr 2 0 0,.ptr 3 0 0]),(8,true,.vec 500 ve 0 E.length),(12,true,.d (.list (blocks.map df))),(13,true,.d (.int .i64 blocks.length)),(14,true,.d (.int .i64 i))],Ao p m s q E v1 v2 v3 ve⟩ k):=by
 obtain⟨a1,a2,a3,h1⟩:=h1;obtain⟨c1,c2,c3,h2⟩:=wB p m1 1 0 (by omega) (by decide);rw[show (1:Int)+ -1=0 by omega]at h2;obtain⟨d1,d2,d3,h3⟩:=h3;obtain⟨e1,e2,e3,h4⟩:=CP p m3 0 0 (by omega) (by decide);have CT:(m3.put (ins 9 0 0 0 0) 0).out.length=m3.out.length+1:=by simp[Mk.put]
 have h5:=qu p (m3.put (ins 9 0 0 0 0) 0) 0 m1.out.length (by rw[CT];omega) (by rw[CT];omega);have w1:IntKind.i64.wrap ((i:Int)+1)=(i:Int)+1:=au (by unfold aX;omega);have w2:IntKind.i64.wrap ((blocks.length:Int)-1)=(blocks.length:Int)-1:=au (by unfold aX;omega);have w3:(i:Int)<(blocks.length:Int)-1:=by omega
 have w4:E.length≤4611686018427387903:=by omega
 have w5:(E.length+1)*8≤140737488355328:=by omega
 have w6:(0:Int)≤m1.out.length:=by omega
 generalize (m3.put (ins 9 0 0 0 0) 0).lead m1.out.length=M5 at*;generalize m3.put (ins 9 0 0 0 0) 0=M4 at*;generalize m1.put (ins 10 0 0 0 0) 0=M2 at*;rw[ah];simp at h1 h2 h3 h4 h5;simp[Tryz.f135]at hx⊢;simp[aR,aV,df,cD,h1,h2,h3,h4,h5,w1,w2,w3,w4,w5,w6,hx]
theorem aag{p:Pg}{s:Sm}{q:Int}{blocks:List (List Sm)}{n i:Nat}{b:List Sm}(aR:i<blocks.length)(aV:blocks[i]=b)(cD:i<n)(hn:n<99999990)(jA:¬i+1<blocks.length)(fG:blocks.length<99999990)
 {m m1 m3:Mk} (h1:Nv p m1 1 s q (.ret (.aW [])) (ai ctx 208 [.d (.int .i64 i),.ptr 0 0 0,.ptr 1 0 0,.ptr 2 0 0] [.box [.ptr 3 0 0],bh s,.box [.d (.int .i64 q)],gJ p m 0 4 5 6 0 0 0,.vec 5 (m.out.map dc),.vv (m.ex.map fL) none,.vec 1 (m.lv.map dC)]))
 (kJ:m1.out.length<99999990)
 (h3:fO p m3 0 (.ret (.aW [])) (ai ctx 51 [.ptr 0 0 0,.d (.list (b.map b5))] (fM p (m1.put (ins 10 0 0 0 0) 0) 0)))
 (vg:m1.out.length<m3.out.length∧m3.out.length<99999990) (E:List Int) (hE:E.length<99999990) (k:Kt) (Q:bS→Prop)
 (hx:∀v1 v2 v3 ve,Q (aI ctx 135 (.loop (Code.at (aY Tryz.f135) [1,0,1,0,0])) ⟨49,aC,[(0,true,.ptr 0 0 0),(1,true,.d (.list (blocks.map df))),(2,true,.d (.int .i64 n)),(3,true,.fn 208 [.ptr 1 0 0,.ptr 2 0 0,.ptr 3 0 0]),(8,true,.vec 500 ve 0 E.length),(12,true,.d (.list (blocks.map df))),(13,true,.d (.int .i64 blocks.length)),(14,true,.d (.int .i64 (i+1)))],Ao p (m3.lead m1.out.length) s q E v1 v2 v3 ve⟩ k))
 (v1 v2 v3 ve:Nat):
 Q (aI ctx 135 (.loop (Code.at (aY Tryz.f135) [1,0,1,0,0])) ⟨49,aC,[(0,true,.ptr 0 0 0),(1,true,.d (.list (blocks.map df))),(2,true,.d (.int .i64 n)),(3,true,.fn 208 [.ptr 1 0 0,.ptr 2 0 0,.ptr 3 0 0]),(8,true,.vec 500 ve 0 E.length),(12,true,.d (.list (blocks.map df))),(13,true,.d (.int .i64 blocks.length)),(14,true,.d (.int .i64 i))],Ao p m s q E v1 v2 v3 ve⟩ k):=by
 obtain⟨a1,a2,a3,h1⟩:=h1;obtain⟨c1,c2,c3,h2⟩:=wB p m1 1 0 (by omega) (by decide);rw[show (1:Int)+ -1=0 by omega]at h2;obtain⟨d1,d2,d3,h3⟩:=h3;have h5:=qu p m3 0 m1.out.length (by omega) (by omega);have w1:IntKind.i64.wrap ((i:Int)+1)=(i:Int)+1:=au (by unfold aX;omega);have w2:IntKind.i64.wrap ((blocks.length:Int)-1)=(blocks.length:Int)-1:=au (by unfold aX;omega);have w3:¬(i:Int)<(blocks.length:Int)-1:=by omega
 have w6:(0:Int)≤m1.out.length:=by omega
 generalize m3.lead m1.out.length=M5 at*;generalize m1.put (ins 10 0 0 0 0) 0=M2 at*;rw[ah];simp at h1 h2 h3 h5;simp[Tryz.f135]at hx⊢;simp[aR,aV,df,cD,h1,h2,h3,h5,w1,w2,w3,w6,hx]
theorem aah{p:Pg}{s:Sm}{q:Int}{blocks:List (List Sm)}{n i:Nat}{b:List Sm}(aR:i<blocks.length)(aV:blocks[i]=b)(cD:¬i<n)(hn:n<99999990)(jA:¬i+1<blocks.length)(fG:blocks.length<99999990)
 {m m3:Mk}
 (h3:fO p m3 0 (.ret (.aW [])) (ai ctx 51 [.ptr 0 0 0,.d (.list (b.map b5))] (fM p m 0)))
 (E:List Int) (k:Kt) (Q:bS→Prop)
 (hx:∀v1 v2 v3 ve,Q (aI ctx 135 (.loop (Code.at (aY Tryz.f135) [1,0,1,0,0])) ⟨49,aC,[(0,true,.ptr 0 0 0),(1,true,.d (.list (blocks.map df))),(2,true,.d (.int .i64 n)),(3,true,.fn 208 [.ptr 1 0 0,.ptr 2 0 0,.ptr 3 0 0]),(8,true,.vec 500 ve 0 E.length),(12,true,.d (.list (blocks.map df))),(13,true,.d (.int .i64 blocks.length)),(14,true,.d (.int .i64 (i+1)))],Ao p m3 s q E v1 v2 v3 ve⟩ k))
 (v1 v2 v3 ve:Nat):
 Q (aI ctx 135 (.loop (Code.at (aY Tryz.f135) [1,0,1,0,0])) ⟨49,aC,[(0,true,.ptr 0 0 0),(1,true,.d (.list (blocks.map df))),(2,true,.d (.int .i64 n)),(3,true,.fn 208 [.ptr 1 0 0,.ptr 2 0 0,.ptr 3 0 0]),(8,true,.vec 500 ve 0 E.length),(12,true,.d (.list (blocks.map df))),(13,true,.d (.int .i64 blocks.length)),(14,true,.d (.int .i64 i))],Ao p m s q E v1 v2 v3 ve⟩ k):=by
 obtain⟨d1,d2,d3,h3⟩:=h3;have w1:IntKind.i64.wrap ((i:Int)+1)=(i:Int)+1:=au (by unfold aX;omega);have w2:IntKind.i64.wrap ((blocks.length:Int)-1)=(blocks.length:Int)-1:=au (by unfold aX;omega);have w3:¬(i:Int)<(blocks.length:Int)-1:=by omega
 rw[ah];simp at h3;simp[Tryz.f135]at hx⊢;simp[aR,aV,df,cD,h3,w1,w2,w3,hx]
theorem Bg{p:Pg}{s:Sm}{q:Int}{blocks:List (List Sm)}{n:Nat}{m:Mk}(E:List Int)(k:Kt)(Q:bS→Prop)
 (hx:∀(Y:Env) v1 v2 v3 ve,Q (k (.exit 0) ⟨49,aC,(0,true,.ptr 0 0 0)::(1,true,.d (.list (blocks.map df)))::(2,true,.d (.int .i64 n))::(3,true,.fn 208 [.ptr 1 0 0,.ptr 2 0 0,.ptr 3 0 0])::(8,true,.vec 500 ve 0 E.length)::Y,Ao p m s q E v1 v2 v3 ve⟩))
 (v1 v2 v3 ve:Nat) {i:Nat} (hi:i=blocks.length):
 Q (aI ctx 135 (.loop (Code.at (aY Tryz.f135) [1,0,1,0,0])) ⟨49,aC,[(0,true,.ptr 0 0 0),(1,true,.d (.list (blocks.map df))),(2,true,.d (.int .i64 n)),(3,true,.fn 208 [.ptr 1 0 0,.ptr 2 0 0,.ptr 3 0 0]),(8,true,.vec 500 ve 0 E.length),(12,true,.d (.list (blocks.map df))),(13,true,.d (.int .i64 blocks.length)),(14,true,.d (.int .i64 i))],Ao p m s q E v1 v2 v3 ve⟩ k):=by
 subst hi;rw[ah];simp[Tryz.f135]at hx⊢;exact hx _ _ _ _ _
@[simp] theorem arx:List.range 7=[0,1,2,3,4,5,6]:=rfl
@[simp] theorem ary:List.range 8=[0,1,2,3,4,5,6,7]:=rfl
@[simp] def mqL(p:Pg)(m:Mk)(h:Int)(s:Sm)(q:Int)(v1 v2 v3:Nat):List cI:=[⟨0,0,.box [.ptr 3 0 0]⟩,⟨1,0,bh s⟩,⟨2,0,.box [.d (.int .i64 q)]⟩,⟨3,0,gJ p m h 4 5 6 v1 v2 v3⟩,⟨4,v1,.vec 5 (m.out.map dc)⟩,⟨5,v2,.vv (m.ex.map fL) none⟩,⟨6,v3,.vec 1 (m.lv.map dC)⟩]
theorem E5{p:Pg}{s:Sm}{q:Int}(l:List Int)(bn:l.length<99999990)(k:Kt)(Q:Mk→bS→Prop)
 (hx:∀(Y:Env) M v1 v2 v3,Q M (k (.exit 0) ⟨38,aC,Y,mqL p M 1 s q v1 v2 v3⟩)):
 ∀(rest pre:List Int)(m:Mk)(v1 v2 v3:Nat),l=pre++rest→rest.length%2=0→0≤m.most→m.out.length+rest.length<99999990→2≤m.most∨rest≠[]→
 Q (m.az (dH q rest) 2) (aI ctx 208 (.loop (Code.at (aY Tryz.f208) [1,1,1,0,0])) ⟨38,aC,[(1,true,.ptr 0 0 0),(3,true,.ptr 2 0 0),(5,true,.d (.list (l.map fun n=>.int .i64 n))),(6,true,.d (.int .i64 pre.length))],mqL p m 1 s q v1 v2 v3⟩ k)
 |[],pre,m,v1,v2,v3,hd,he,hm,hl,h2=>by
  have cf:pre.length=l.length:=by rw[hd];simp
  have e:m.az (dH q []) 2=m:=by
   simp[dH,Mk.az];cases m;simp at hm h2⊢;omega
  rw[e];have w1:IntKind.i64.wrap ((l.length:Int)+1)=(l.length:Int)+1:=au (by unfold aX;omega);have w2:¬(l.length:Int)+1<l.length:=by omega
  rw[cf,ah];simp at hx;simp[Tryz.f208,w1,w2,hx]
 |[a],pre,m,v1,v2,v3,hd,he,hm,hl,h2=>by simp at he
 |a::b::rest,pre,m,v1,v2,v3,hd,he,hm,hl,h2=>by
  simp only[List.length_cons]at hl he;obtain⟨c1,c2,c3,g1⟩:=ji p m 1 1 (ins 14 q 0 a b) (by omega) (by decide);obtain⟨d1,d2,d3,g2⟩:=ji p (m.put (ins 14 q 0 a b) (1+1)) (1+1) (-1) (ins 8 1 21 0 0) (by simp[Mk.put];omega) (by decide);have e:m.az (dH q (a::b::rest)) 2=((m.put (ins 14 q 0 a b) (1+1)).put (ins 8 1 21 0 0) (1+1+ -1)).az (dH q rest) 2:=by
   simp only[dH,Mk.put,Mk.az,Mk.mk.injEq];simp;omega
  rw[e];have ih:=fun v1 v2 v3=>E5 (p:=p) (s:=s) (q:=q) l bn k Q hx rest (pre++[a,b]) ((m.put (ins 14 q 0 a b) (1+1)).put (ins 8 1 21 0 0) (1+1+ -1)) v1 v2 v3 (by simp[hd]) (by omega) (by simp[Mk.put];omega) (by simp[Mk.put];omega) (by simp[Mk.put];omega);clear hx e;generalize (m.put (ins 14 q 0 a b) (1+1)).put (ins 8 1 21 0 0) (1+1+ -1)=M at*;generalize m.put (ins 14 q 0 a b) (1+1)=N at*;have jY:l.length=pre.length+(rest.length+2):=by rw[hd];simp
  have w1:IntKind.i64.wrap ((pre.length:Int)+1)=(pre.length:Int)+1:=au (by unfold aX;omega);have w2:(pre.length:Int)+1<l.length:=by omega
  have w3:IntKind.i64.wrap ((pre.length:Int)+2)=(pre.length:Int)+2:=au (by unfold aX;omega);have i1:pre.length<l.length:=by omega
  have i2:l[pre.length]=a:=by simp[hd]
  have i3:pre.length+1<l.length:=by omega
  have i4:l[pre.length+1]=b:=by simp[hd]
  have i5:((pre.length:Int)+1).toNat=pre.length+1:=by omega
  have i6:(0:Int)≤(pre.length:Int)+1:=by omega
  rw[ah];simp[ins]at g1 g2;simp[Tryz.f208]at ih⊢;simp[w1,w2,w3,i1,i2,i3,i4,i5,i6,g1,g2,aq,ih]
theorem V0{p:Pg}(s:Sm)(q:Int)(i:Nat)(l:List Int)(hc:(ee s)[i]?=some l)(hb:pq l=true)(m:Mk)(hm:0≤m.most)(hl:m.out.length+l.length+1<99999990):
 Nv p (m.az (ins 1 0 0 0 0::dH q l) 2) 1 s q (.ret (.aW [])) (ai ctx 208 [.d (.int .i64 i),.ptr 0 0 0,.ptr 1 0 0,.ptr 2 0 0] [.box [.ptr 3 0 0],bh s,.box [.d (.int .i64 q)],gJ p m 0 4 5 6 0 0 0,.vec 5 (m.out.map dc),.vv (m.ex.map fL) none,.vec 1 (m.lv.map dC)]):=by
 have bn:l.length<99999990:=by omega
 simp only[pq,Bool.and_eq_true,Bool.not_eq_true',decide_eq_true_eq,decide_eq_false_iff_not]at hb;obtain⟨ET,aV,_⟩:=hb;obtain⟨c1,c2,c3,g1⟩:=ji p m 0 1 (ins 1 0 0 0 0) (by omega) (by decide);have e:m.az (ins 1 0 0 0 0::dH q l) 2=(m.put (ins 1 0 0 0 0) (0+1)).az (dH q l) 2:=by
  simp only[Mk.put,Mk.az,Mk.mk.injEq];simp;omega
 rw[e];have cJ:=fun k Q hx v1 v2 v3=>E5 (p:=p) (s:=s) (q:=q) l bn k Q hx l [] (m.put (ins 1 0 0 0 0) (0+1)) v1 v2 v3 rfl (by omega) (by simp[Mk.put];omega) (by simp[Mk.put];omega) (.inr (by intro h;simp[h]at ET));generalize (m.put (ins 1 0 0 0 0) (0+1)).az (dH q l) 2=M at*;generalize m.put (ins 1 0 0 0 0) (0+1)=N at*;have aR:i<(ee s).length:=(List.getElem?_eq_some_iff.1 hc).1;have aV:(ee s)[i]=l:=(List.getElem?_eq_some_iff.1 hc).2;rw[adh (by simp)];simp[ins]at g1;simp[Tryz.f208]at cJ⊢;simp[g1,aR,aV,mC];refine cJ _ (fun X r=>X=M→Nv p M 1 s q (.ret (.aW [])) r) (fun Y X v1 v2 v3 hX=>?_) _ _ _ rfl;subst hX;have r7:List.range 7=[0,1,2,3,4,5,6]:=rfl;simp[r7];exact⟨_,_,_,rfl⟩
theorem tF(vs:List Vr):∀(l:List (List Sm))(c:Int),(aw vs l c).1.length=l.length
 |[],c=>by simp[aw]
 |b::r,c=>by simp[aw,tF vs r]
theorem IA{vs:List Vr}{l:List (List Sm)}{c:Int}:(aw vs l c).1=[]↔l=[]:=by
 constructor
 ·intro h;have:=tF vs l c;rw[h]at this;exact sr this.symm
 ·rintro rfl;simp[aw]
theorem Tz(t:List ar)(ts:List (List ar))(b:List ar)(r:List (List ar)):t.length+1+b.length+(if r=[]then 0 else 1+(cK ts r).length)≤(cK (t::ts) (b::r)).length:=by
 simp only[cK];by_cases h:r=[]
 ·subst h;simp[ei];omega
 ·simp[h,ei];omega
theorem zC(m:Mk)(t:List ar×Int):(m.fQ t).out.length=m.out.length+t.1.length+1:=by simp[Mk.fQ,Mk.az,Mk.put];omega
theorem tG{m:Mk}{ts:List (List ar×Int)}{bs:List (List ar)}{c t u:Int}(h:max m.most t=max m.most u):m.dg ts bs c t=m.dg ts bs c u:=by
 unfold Mk.dg;rw[h]
theorem wE{vs:List Vr}:∀(l:List (List Sm))(c:Int),0≤c→(∀b∈l,∀c,0≤c→c≤(ag vs b c).2)→c≤(aw vs l c).2
 |[],c,_,_=>by simp[aw]
 |b::r,c,h0,h=>by
  have h1:=h b (by simp) c h0;have h2:=wE r (ag vs b c).2 (by omega) (fun b hb=>h b (by simp[hb]));simp only[aw];omega
section
variable {p:Pg} {lp:Bool}
theorem IB{s:Sm}{blocks:List (List Sm)}{ts:List (List ar×Int)}(fG:blocks.length<99999990)(jr:ts.length≤blocks.length)(CU:blocks.length≤ts.length+1)
 (HT:∀(i:Nat)(t:List ar×Int),ts[i]?=some t→∀m:Mk,0≤m.most→m.out.length+t.1.length<99999990→E4 p (m.az t.1 t.2) 1 s (.ret (.aW [])) (ai ctx 136 [.d (.int .i64 i),.ptr 0 0 0,.ptr 1 0 0] [.box [.ptr 2 0 0],bh s,gJ p m 0 3 4 5 0 0 0,.vec 5 (m.out.map dc),.vv (m.ex.map fL) none,.vec 1 (m.lv.map dC)]))
 (HB:∀b∈blocks,sA p lp b) (HC:∀b∈blocks,∀c,0≤c→c≤(ag p.vars b c).2) (k:Kt) (Q:Mk→List Int→bS→Prop)
 (hx:∀(Y:Env) M E v1 v2 v3 ve,Q M E (k (.exit 0) ⟨49,aC,(0,true,.ptr 0 0 0)::(1,true,.d (.list (blocks.map df)))::(2,true,.d (.int .i64 ts.length))::(3,true,.fn 136 [.ptr 1 0 0,.ptr 2 0 0])::(8,true,.vec 500 ve 0 E.length)::Y,An p M s E v1 v2 v3 ve⟩)):
 ∀(br bp:List (List Sm))(tr tp:List (List ar×Int))(m:Mk)(E:List Int)(v1 v2 v3 ve:Nat),blocks=bp++br→ts=tp++tr→(bp.length=tp.length∨(tr=[]∧br=[]))→0≤m.most→0≤m.cells→iu m→(lp=true→m.ex≠[])→
 m.out.length+(cK (dp tr) (aw p.vars br m.cells).1).length<99999990→(aw p.vars br m.cells).2<99999990→(∀b∈blocks,m.ex.length+iw b<99999990)→E.length+br.length<99999980→
 Q (m.dg tr (aw p.vars br m.cells).1 (aw p.vars br m.cells).2 (max (dy tr) (b6 br))) (E++fA m.out.length (dp tr) (aw p.vars br m.cells).1)
  (aI ctx 135 (.loop (Code.at (aY Tryz.f135) [1,0,1,0,0])) ⟨49,aC,[(0,true,.ptr 0 0 0),(1,true,.d (.list (blocks.map df))),(2,true,.d (.int .i64 ts.length)),(3,true,.fn 136 [.ptr 1 0 0,.ptr 2 0 0]),(8,true,.vec 500 ve 0 E.length),(12,true,.d (.list (blocks.map df))),(13,true,.d (.int .i64 blocks.length)),(14,true,.d (.int .i64 bp.length))],An p m s E v1 v2 v3 ve⟩ k)
 |[],bp,tr,tp,m,E,v1,v2,v3,ve,h1,h2,h3,hm,hc,hI,hex,ho,aO,fH,hE=>by
  have IC:tr=[]:=by
   rcases h3 with h3|h3
   ·have a1:blocks.length=bp.length:=by rw[h1];simp
    have a2:ts.length=tp.length+tr.length:=by rw[h2];simp
    exact sr (by omega)
   ·exact h3.1
  subst IC;have e1:(aw p.vars [] m.cells)=([],m.cells):=by simp[aw]
  have e2:m.dg [] (aw p.vars [] m.cells).1 (aw p.vars [] m.cells).2 (max (dy []) (b6 []))=m:=by
   rw[e1];have:=Iz m [] hm;simpa [dy,b6]using this
  have e3:E++fA m.out.length (dp []) (aw p.vars [] m.cells).1=E:=by rw[e1];simp[fA]
  rw[e2,e3];exact Bf E k (Q m E) (fun Y v1 v2 v3 ve=>hx Y m E v1 v2 v3 ve) v1 v2 v3 ve (by rw[h1];simp)
 |b::br,bp,[],tp,m,E,v1,v2,v3,ve,h1,h2,h3,hm,hc,hI,hex,ho,aO,fH,hE=>by
  have h3:bp.length=tp.length:=by
   rcases h3 with h3|h3
   ·exact h3
   ·cases h3.2
  have a1:blocks.length=bp.length+(br.length+1):=by rw[h1];simp
  have a2:ts.length=tp.length:=by rw[h2];simp
  have yR:br=[]:=sr (by omega);subst yR;have eg:aw p.vars [b] m.cells=([(ag p.vars b m.cells).1],(ag p.vars b m.cells).2):=by simp[aw]
  rw[eg]at ho aO⊢;have cq:m.out.length+(ag p.vars b m.cells).1.length<99999990:=by simpa [dp,cK]using ho
  have oT:=HB b (by rw[h1];simp) m hm hc hI hex (by omega) aO (fH b (by rw[h1];simp));have e2:m.dg [] [(ag p.vars b m.cells).1] (ag p.vars b m.cells).2 (max (dy []) (b6 [b]))=m.aM (ag p.vars b m.cells).1 (ag p.vars b m.cells).2 (bg b):=by
   rw[←Nu];exact mf (by simp only[dy,b6];omega)
  have e3:E++fA m.out.length (dp []) [(ag p.vars b m.cells).1]=E:=by simp[dp,fA]
  simp only
  rw[e2,e3];refine aae (i:=bp.length) (b:=b) (by omega) (by simp[h1]) (by omega) (by omega) (by omega) fG oT E k (Q _ E) (fun v1 v2 v3 ve=>?_) v1 v2 v3 ve;exact Bf E k (Q _ E) (fun Y v1 v2 v3 ve=>hx Y _ E v1 v2 v3 ve) v1 v2 v3 ve (i:=bp.length+1) (by omega)
 |b::br,bp,t::tr,tp,m,E,v1,v2,v3,ve,h1,h2,h3,hm,hc,hI,hex,ho,aO,fH,hE=>by
  have h3:bp.length=tp.length:=by
   rcases h3 with h3|h3
   ·exact h3
   ·cases h3.2
  have a1:blocks.length=bp.length+(br.length+1):=by rw[h1];simp
  have a2:ts.length=tp.length+(tr.length+1):=by rw[h2];simp
  have eg:aw p.vars (b::br) m.cells=((ag p.vars b m.cells).1::(aw p.vars br (ag p.vars b m.cells).2).1,(aw p.vars br (ag p.vars b m.cells).2).2):=by simp[aw]
  rw[eg]at ho aO⊢;have xj:=Tz t.1 (dp tr) (ag p.vars b m.cells).1 (aw p.vars br (ag p.vars b m.cells).2).1;have qU:=HC b (by rw[h1];simp) m.cells hc;have cd:=wE br (ag p.vars b m.cells).2 (by omega) (fun b hb=>HC b (by rw[h1];simp[hb]));have ec:dp (t::tr)=t.1::dp tr:=rfl;rw[ec]at ho⊢;simp only at aO ho;have hT:=HT bp.length t (by rw[h2,h3];simp) m hm (by omega);have Y6:0≤(m.fQ t).most:=by simp[Mk.fQ,Mk.az,Mk.put];omega
  have oT:=HB b (by rw[h1];simp) (m.fQ t) Y6 hc ((hI.az _ _).put _ _) hex (by rw[zC];show _+(ag p.vars b m.cells).1.length<_;omega) (by show (ag p.vars b m.cells).2<_;omega) (fH b (by rw[h1];simp));have oT:fO p ((m.fQ t).aM (ag p.vars b m.cells).1 (ag p.vars b m.cells).2 (bg b)) 0 (.ret (.aW [])) (ai ctx 51 [.ptr 0 0 0,.d (.list (b.map b5))] (fM p ((m.az t.1 t.2).put (ins 10 0 0 0 0) 0) 0)):=oT;have kJ:(m.az t.1 t.2).out.length=m.out.length+t.1.length:=by simp[Mk.az]
  have vg:((m.fQ t).aM (ag p.vars b m.cells).1 (ag p.vars b m.cells).2 (bg b)).out.length=m.out.length+t.1.length+1+(ag p.vars b m.cells).1.length:=by
   show ((m.fQ t).out++cG _ _).length=_;rw[List.length_append,mq,zC]
  have CV:((m.az t.1 t.2).out.length:Int)=((m.out.length+t.1.length:Nat):Int):=by rw[kJ]
  by_cases yR:br=[]
  ·subst yR;have IC:tr=[]:=sr (by simp at a1;omega);subst IC;have eb:aw p.vars [] (ag p.vars b m.cells).2=([],(ag p.vars b m.cells).2):=by simp[aw]
   rw[eb];have e2:m.dg [t] [(ag p.vars b m.cells).1] (ag p.vars b m.cells).2 (max (dy [t]) (b6 [b]))=((m.fQ t).aM (ag p.vars b m.cells).1 (ag p.vars b m.cells).2 (bg b)).lead (m.az t.1 t.2).out.length:=by
    rw[CV,Ns m t [] _ _ _ hm];exact tG (by simp only[dy,b6];omega)
   have e3:E++fA m.out.length (t.1::dp []) [(ag p.vars b m.cells).1]=E:=by simp[dp,fA]
   simp only
   rw[e2,e3];refine aad (i:=bp.length) (b:=b) (by omega) (by simp[h1]) (by omega) (by omega) (by simp at a1;omega) fG hT (by rw[kJ];omega) oT (by rw[kJ,vg];omega) E (by omega) k (Q _ E) (fun v1 v2 v3 ve=>?_) v1 v2 v3 ve;exact Bf E k (Q _ E) (fun Y v1 v2 v3 ve=>hx Y _ E v1 v2 v3 ve) v1 v2 v3 ve (i:=bp.length+1) (by simp at a1;omega)
  ·have ET:0<br.length:=by
    cases br with
    |nil=>exact absurd rfl yR
    |cons _ _=>simp
   have oP:(aw p.vars br (ag p.vars b m.cells).2).1≠[]:=fun h=>yR (IA.1 h);rw[if_neg oP]at xj;refine aac (i:=bp.length) (b:=b) (by omega) (by simp[h1]) (by omega) (by omega) (by omega) fG hT (by rw[kJ];omega) oT (by rw[kJ,vg];omega) E (by omega) k (Q _ _) (fun v1 v2 v3 ve=>?_) v1 v2 v3 ve;have e2:=Nt m t tr (ag p.vars b m.cells).1 (aw p.vars br (ag p.vars b m.cells).2).1 (ag p.vars b m.cells).2 (aw p.vars br (ag p.vars b m.cells).2).2 (bg b) (max (dy tr) (b6 br)) hm oP;have e3:fA m.out.length (t.1::dp tr) ((ag p.vars b m.cells).1::(aw p.vars br (ag p.vars b m.cells).2).1)=((m.out.length+t.1.length+1+(ag p.vars b m.cells).1.length:Nat):Int)::fA (m.out.length+t.1.length+2+(ag p.vars b m.cells).1.length) (dp tr) (aw p.vars br (ag p.vars b m.cells).2).1:=by
    simp only[fA,if_neg oP]
   have hM:((((m.fQ t).aM (ag p.vars b m.cells).1 (ag p.vars b m.cells).2 (bg b)).put (ins 9 0 0 0 0) 0).lead (m.out.length+t.1.length:Nat)).out.length=m.out.length+t.1.length+2+(ag p.vars b m.cells).1.length:=by
    rw[Bc];show (((m.fQ t).aM _ _ _).out++_).length=_;rw[List.length_append,vg];simp;omega
   have CW:((((m.fQ t).aM (ag p.vars b m.cells).1 (ag p.vars b m.cells).2 (bg b)).put (ins 9 0 0 0 0) 0).lead (m.out.length+t.1.length:Nat)).cells=(ag p.vars b m.cells).2:=rfl;have TB:((((m.fQ t).aM (ag p.vars b m.cells).1 (ag p.vars b m.cells).2 (bg b)).put (ins 9 0 0 0 0) 0).lead (m.out.length+t.1.length:Nat)).ex.length=m.ex.length:=by
    show (gK m.ex _).length=_;simp
   have hMm:0≤((((m.fQ t).aM (ag p.vars b m.cells).1 (ag p.vars b m.cells).2 (bg b)).put (ins 9 0 0 0 0) 0).lead (m.out.length+t.1.length:Nat)).most:=by
    simp[Mk.lead,Mk.put,Mk.aM];omega
   have e5:m.dg (t::tr) ((ag p.vars b m.cells).1::(aw p.vars br (ag p.vars b m.cells).2).1) (aw p.vars br (ag p.vars b m.cells).2).2 (max (dy (t::tr)) (b6 (b::br)))=((((m.fQ t).aM (ag p.vars b m.cells).1 (ag p.vars b m.cells).2 (bg b)).put (ins 9 0 0 0 0) 0).lead (m.out.length+t.1.length:Nat)).dg tr (aw p.vars br (ag p.vars b m.cells).2).1 (aw p.vars br (ag p.vars b m.cells).2).2 (max (dy tr) (b6 br)):=by
    rw[e2];exact tG (by simp only[dy,b6];omega)
   have ih:=IB fG jr CU HT HB HC k Q hx br (bp++[b]) tr (tp++[t]) ((((m.fQ t).aM (ag p.vars b m.cells).1 (ag p.vars b m.cells).2 (bg b)).put (ins 9 0 0 0 0) 0).lead (m.out.length+t.1.length:Nat)) (E++[((m.out.length+t.1.length+1+(ag p.vars b m.cells).1.length:Nat):Int)]) v1 v2 v3 ve (by simp[h1]) (by simp[h2]) (.inl (by simp[h3])) hMm (by rw[CW];omega) ((((((hI.az _ _).put _ _).aM _ _ _).put _ _).lead _)) (fun h=>by
    intro h0;have:=TB;rw[h0]at this;have h9:=hex h;cases TC:m.ex with
    |nil=>exact h9 TC
    |cons _ _=>rw[TC]at this;simp at this) (by rw[hM,CW];omega) (by rw[CW];omega) (fun b hb=>by rw[TB];exact fH b hb) (by simp at hE⊢;omega)
   rw[hM,CW]at ih;simp only
   rw[e5,e3,CV,vg];have e6:E++((m.out.length+t.1.length+1+(ag p.vars b m.cells).1.length:Nat):Int)::fA (m.out.length+t.1.length+2+(ag p.vars b m.cells).1.length) (dp tr) (aw p.vars br (ag p.vars b m.cells).2).1=E++[((m.out.length+t.1.length+1+(ag p.vars b m.cells).1.length:Nat):Int)]++fA (m.out.length+t.1.length+2+(ag p.vars b m.cells).1.length) (dp tr) (aw p.vars br (ag p.vars b m.cells).2).1:=by simp
   rw[e6];simpa using ih
end
section
variable {p:Pg} {lp:Bool}
theorem ID{s:Sm}{q:Int}{blocks:List (List Sm)}{ts:List (List ar×Int)}(fG:blocks.length<99999990)(jr:ts.length≤blocks.length)(CU:blocks.length≤ts.length+1)
 (HT:∀(i:Nat)(t:List ar×Int),ts[i]?=some t→∀m:Mk,0≤m.most→m.out.length+t.1.length<99999990→Nv p (m.az t.1 t.2) 1 s q (.ret (.aW [])) (ai ctx 208 [.d (.int .i64 i),.ptr 0 0 0,.ptr 1 0 0,.ptr 2 0 0] [.box [.ptr 3 0 0],bh s,.box [.d (.int .i64 q)],gJ p m 0 4 5 6 0 0 0,.vec 5 (m.out.map dc),.vv (m.ex.map fL) none,.vec 1 (m.lv.map dC)]))
 (HB:∀b∈blocks,sA p lp b) (HC:∀b∈blocks,∀c,0≤c→c≤(ag p.vars b c).2) (k:Kt) (Q:Mk→List Int→bS→Prop)
 (hx:∀(Y:Env) M E v1 v2 v3 ve,Q M E (k (.exit 0) ⟨49,aC,(0,true,.ptr 0 0 0)::(1,true,.d (.list (blocks.map df)))::(2,true,.d (.int .i64 ts.length))::(3,true,.fn 208 [.ptr 1 0 0,.ptr 2 0 0,.ptr 3 0 0])::(8,true,.vec 500 ve 0 E.length)::Y,Ao p M s q E v1 v2 v3 ve⟩)):
 ∀(br bp:List (List Sm))(tr tp:List (List ar×Int))(m:Mk)(E:List Int)(v1 v2 v3 ve:Nat),blocks=bp++br→ts=tp++tr→(bp.length=tp.length∨(tr=[]∧br=[]))→0≤m.most→0≤m.cells→iu m→(lp=true→m.ex≠[])→
 m.out.length+(cK (dp tr) (aw p.vars br m.cells).1).length<99999990→(aw p.vars br m.cells).2<99999990→(∀b∈blocks,m.ex.length+iw b<99999990)→E.length+br.length<99999980→
 Q (m.dg tr (aw p.vars br m.cells).1 (aw p.vars br m.cells).2 (max (dy tr) (b6 br))) (E++fA m.out.length (dp tr) (aw p.vars br m.cells).1)
  (aI ctx 135 (.loop (Code.at (aY Tryz.f135) [1,0,1,0,0])) ⟨49,aC,[(0,true,.ptr 0 0 0),(1,true,.d (.list (blocks.map df))),(2,true,.d (.int .i64 ts.length)),(3,true,.fn 208 [.ptr 1 0 0,.ptr 2 0 0,.ptr 3 0 0]),(8,true,.vec 500 ve 0 E.length),(12,true,.d (.list (blocks.map df))),(13,true,.d (.int .i64 blocks.length)),(14,true,.d (.int .i64 bp.length))],Ao p m s q E v1 v2 v3 ve⟩ k)
 |[],bp,tr,tp,m,E,v1,v2,v3,ve,h1,h2,h3,hm,hc,hI,hex,ho,aO,fH,hE=>by
  have IC:tr=[]:=by
   rcases h3 with h3|h3
   ·have a1:blocks.length=bp.length:=by rw[h1];simp
    have a2:ts.length=tp.length+tr.length:=by rw[h2];simp
    exact sr (by omega)
   ·exact h3.1
  subst IC;have e1:(aw p.vars [] m.cells)=([],m.cells):=by simp[aw]
  have e2:m.dg [] (aw p.vars [] m.cells).1 (aw p.vars [] m.cells).2 (max (dy []) (b6 []))=m:=by
   rw[e1];have:=Iz m [] hm;simpa [dy,b6]using this
  have e3:E++fA m.out.length (dp []) (aw p.vars [] m.cells).1=E:=by rw[e1];simp[fA]
  rw[e2,e3];exact Bg E k (Q m E) (fun Y v1 v2 v3 ve=>hx Y m E v1 v2 v3 ve) v1 v2 v3 ve (by rw[h1];simp)
 |b::br,bp,[],tp,m,E,v1,v2,v3,ve,h1,h2,h3,hm,hc,hI,hex,ho,aO,fH,hE=>by
  have h3:bp.length=tp.length:=by
   rcases h3 with h3|h3
   ·exact h3
   ·cases h3.2
  have a1:blocks.length=bp.length+(br.length+1):=by rw[h1];simp
  have a2:ts.length=tp.length:=by rw[h2];simp
  have yR:br=[]:=sr (by omega);subst yR;have eg:aw p.vars [b] m.cells=([(ag p.vars b m.cells).1],(ag p.vars b m.cells).2):=by simp[aw]
  rw[eg]at ho aO⊢;have cq:m.out.length+(ag p.vars b m.cells).1.length<99999990:=by simpa [dp,cK]using ho
  have oT:=HB b (by rw[h1];simp) m hm hc hI hex (by omega) aO (fH b (by rw[h1];simp));have e2:m.dg [] [(ag p.vars b m.cells).1] (ag p.vars b m.cells).2 (max (dy []) (b6 [b]))=m.aM (ag p.vars b m.cells).1 (ag p.vars b m.cells).2 (bg b):=by
   rw[←Nu];exact mf (by simp only[dy,b6];omega)
  have e3:E++fA m.out.length (dp []) [(ag p.vars b m.cells).1]=E:=by simp[dp,fA]
  simp only
  rw[e2,e3];refine aah (i:=bp.length) (b:=b) (by omega) (by simp[h1]) (by omega) (by omega) (by omega) fG oT E k (Q _ E) (fun v1 v2 v3 ve=>?_) v1 v2 v3 ve;exact Bg E k (Q _ E) (fun Y v1 v2 v3 ve=>hx Y _ E v1 v2 v3 ve) v1 v2 v3 ve (i:=bp.length+1) (by omega)
 |b::br,bp,t::tr,tp,m,E,v1,v2,v3,ve,h1,h2,h3,hm,hc,hI,hex,ho,aO,fH,hE=>by
  have h3:bp.length=tp.length:=by
   rcases h3 with h3|h3
   ·exact h3
   ·cases h3.2
  have a1:blocks.length=bp.length+(br.length+1):=by rw[h1];simp
  have a2:ts.length=tp.length+(tr.length+1):=by rw[h2];simp
  have eg:aw p.vars (b::br) m.cells=((ag p.vars b m.cells).1::(aw p.vars br (ag p.vars b m.cells).2).1,(aw p.vars br (ag p.vars b m.cells).2).2):=by simp[aw]
  rw[eg]at ho aO⊢;have xj:=Tz t.1 (dp tr) (ag p.vars b m.cells).1 (aw p.vars br (ag p.vars b m.cells).2).1;have qU:=HC b (by rw[h1];simp) m.cells hc;have cd:=wE br (ag p.vars b m.cells).2 (by omega) (fun b hb=>HC b (by rw[h1];simp[hb]));have ec:dp (t::tr)=t.1::dp tr:=rfl;rw[ec]at ho⊢;simp only at aO ho;have hT:=HT bp.length t (by rw[h2,h3];simp) m hm (by omega);have Y6:0≤(m.fQ t).most:=by simp[Mk.fQ,Mk.az,Mk.put];omega
  have oT:=HB b (by rw[h1];simp) (m.fQ t) Y6 hc ((hI.az _ _).put _ _) hex (by rw[zC];show _+(ag p.vars b m.cells).1.length<_;omega) (by show (ag p.vars b m.cells).2<_;omega) (fH b (by rw[h1];simp));have oT:fO p ((m.fQ t).aM (ag p.vars b m.cells).1 (ag p.vars b m.cells).2 (bg b)) 0 (.ret (.aW [])) (ai ctx 51 [.ptr 0 0 0,.d (.list (b.map b5))] (fM p ((m.az t.1 t.2).put (ins 10 0 0 0 0) 0) 0)):=oT;have kJ:(m.az t.1 t.2).out.length=m.out.length+t.1.length:=by simp[Mk.az]
  have vg:((m.fQ t).aM (ag p.vars b m.cells).1 (ag p.vars b m.cells).2 (bg b)).out.length=m.out.length+t.1.length+1+(ag p.vars b m.cells).1.length:=by
   show ((m.fQ t).out++cG _ _).length=_;rw[List.length_append,mq,zC]
  have CV:((m.az t.1 t.2).out.length:Int)=((m.out.length+t.1.length:Nat):Int):=by rw[kJ]
  by_cases yR:br=[]
  ·subst yR;have IC:tr=[]:=sr (by simp at a1;omega);subst IC;have eb:aw p.vars [] (ag p.vars b m.cells).2=([],(ag p.vars b m.cells).2):=by simp[aw]
   rw[eb];have e2:m.dg [t] [(ag p.vars b m.cells).1] (ag p.vars b m.cells).2 (max (dy [t]) (b6 [b]))=((m.fQ t).aM (ag p.vars b m.cells).1 (ag p.vars b m.cells).2 (bg b)).lead (m.az t.1 t.2).out.length:=by
    rw[CV,Ns m t [] _ _ _ hm];exact tG (by simp only[dy,b6];omega)
   have e3:E++fA m.out.length (t.1::dp []) [(ag p.vars b m.cells).1]=E:=by simp[dp,fA]
   simp only
   rw[e2,e3];refine aag (i:=bp.length) (b:=b) (by omega) (by simp[h1]) (by omega) (by omega) (by simp at a1;omega) fG hT (by rw[kJ];omega) oT (by rw[kJ,vg];omega) E (by omega) k (Q _ E) (fun v1 v2 v3 ve=>?_) v1 v2 v3 ve;exact Bg E k (Q _ E) (fun Y v1 v2 v3 ve=>hx Y _ E v1 v2 v3 ve) v1 v2 v3 ve (i:=bp.length+1) (by simp at a1;omega)
  ·have ET:0<br.length:=by
    cases br with
    |nil=>exact absurd rfl yR
    |cons _ _=>simp
   have oP:(aw p.vars br (ag p.vars b m.cells).2).1≠[]:=fun h=>yR (IA.1 h);rw[if_neg oP]at xj;refine aaf (i:=bp.length) (b:=b) (by omega) (by simp[h1]) (by omega) (by omega) (by omega) fG hT (by rw[kJ];omega) oT (by rw[kJ,vg];omega) E (by omega) k (Q _ _) (fun v1 v2 v3 ve=>?_) v1 v2 v3 ve;have e2:=Nt m t tr (ag p.vars b m.cells).1 (aw p.vars br (ag p.vars b m.cells).2).1 (ag p.vars b m.cells).2 (aw p.vars br (ag p.vars b m.cells).2).2 (bg b) (max (dy tr) (b6 br)) hm oP;have e3:fA m.out.length (t.1::dp tr) ((ag p.vars b m.cells).1::(aw p.vars br (ag p.vars b m.cells).2).1)=((m.out.length+t.1.length+1+(ag p.vars b m.cells).1.length:Nat):Int)::fA (m.out.length+t.1.length+2+(ag p.vars b m.cells).1.length) (dp tr) (aw p.vars br (ag p.vars b m.cells).2).1:=by
    simp only[fA,if_neg oP]
   have hM:((((m.fQ t).aM (ag p.vars b m.cells).1 (ag p.vars b m.cells).2 (bg b)).put (ins 9 0 0 0 0) 0).lead (m.out.length+t.1.length:Nat)).out.length=m.out.length+t.1.length+2+(ag p.vars b m.cells).1.length:=by
    rw[Bc];show (((m.fQ t).aM _ _ _).out++_).length=_;rw[List.length_append,vg];simp;omega
   have CW:((((m.fQ t).aM (ag p.vars b m.cells).1 (ag p.vars b m.cells).2 (bg b)).put (ins 9 0 0 0 0) 0).lead (m.out.length+t.1.length:Nat)).cells=(ag p.vars b m.cells).2:=rfl;have TB:((((m.fQ t).aM (ag p.vars b m.cells).1 (ag p.vars b m.cells).2 (bg b)).put (ins 9 0 0 0 0) 0).lead (m.out.length+t.1.length:Nat)).ex.length=m.ex.length:=by
    show (gK m.ex _).length=_;simp
   have hMm:0≤((((m.fQ t).aM (ag p.vars b m.cells).1 (ag p.vars b m.cells).2 (bg b)).put (ins 9 0 0 0 0) 0).lead (m.out.length+t.1.length:Nat)).most:=by
    simp[Mk.lead,Mk.put,Mk.aM];omega
   have e5:m.dg (t::tr) ((ag p.vars b m.cells).1::(aw p.vars br (ag p.vars b m.cells).2).1) (aw p.vars br (ag p.vars b m.cells).2).2 (max (dy (t::tr)) (b6 (b::br)))=((((m.fQ t).aM (ag p.vars b m.cells).1 (ag p.vars b m.cells).2 (bg b)).put (ins 9 0 0 0 0) 0).lead (m.out.length+t.1.length:Nat)).dg tr (aw p.vars br (ag p.vars b m.cells).2).1 (aw p.vars br (ag p.vars b m.cells).2).2 (max (dy tr) (b6 br)):=by
    rw[e2];exact tG (by simp only[dy,b6];omega)
   have ih:=ID fG jr CU HT HB HC k Q hx br (bp++[b]) tr (tp++[t]) ((((m.fQ t).aM (ag p.vars b m.cells).1 (ag p.vars b m.cells).2 (bg b)).put (ins 9 0 0 0 0) 0).lead (m.out.length+t.1.length:Nat)) (E++[((m.out.length+t.1.length+1+(ag p.vars b m.cells).1.length:Nat):Int)]) v1 v2 v3 ve (by simp[h1]) (by simp[h2]) (.inl (by simp[h3])) hMm (by rw[CW];omega) ((((((hI.az _ _).put _ _).aM _ _ _).put _ _).lead _)) (fun h=>by
    intro h0;have:=TB;rw[h0]at this;have h9:=hex h;cases TC:m.ex with
    |nil=>exact h9 TC
    |cons _ _=>rw[TC]at this;simp at this) (by rw[hM,CW];omega) (by rw[CW];omega) (fun b hb=>by rw[TB];exact fH b hb) (by simp at hE⊢;omega)
   rw[hM,CW]at ih;simp only
   rw[e5,e3,CV,vg];have e6:E++((m.out.length+t.1.length+1+(ag p.vars b m.cells).1.length:Nat):Int)::fA (m.out.length+t.1.length+2+(ag p.vars b m.cells).1.length) (dp tr) (aw p.vars br (ag p.vars b m.cells).2).1=E++[((m.out.length+t.1.length+1+(ag p.vars b m.cells).1.length:Nat):Int)]++fA (m.out.length+t.1.length+2+(ag p.vars b m.cells).1.length) (dp tr) (aw p.vars br (ag p.vars b m.cells).2).1:=by simp
   rw[e6];simpa using ih
end
theorem CX:∀(n:Nat)(ts bs:List (List ar)),∀i∈fA n ts bs,∃k:Nat,i=k∧k<n+(jI 0 n ts bs).length
 |_,_,[],i,h=>by simp[fA]at h
 |n,[],b::r,i,h=>by
  simp only[fA,jI]at h⊢;by_cases hr:r=[]
  ·rw[if_pos hr]at h;simp at h
  ·rw[if_neg hr]at h⊢;rcases List.mem_cons.1 h with rfl|h
   ·exact⟨_,rfl,by simp⟩
   ·obtain⟨k,e,hk⟩:=CX (n+b.length+1) [] r i h;exact⟨k,e,by simp;omega⟩
 |n,t::ts,b::r,i,h=>by
  simp only[fA,jI]at h⊢;by_cases hr:r=[]
  ·rw[if_pos hr]at h;simp at h
  ·rw[if_neg hr]at h⊢;rcases List.mem_cons.1 h with rfl|h
   ·exact⟨_,rfl,by simp;omega⟩
   ·obtain⟨k,e,hk⟩:=CX (n+t.length+2+b.length) ts r i h;exact⟨k,e,by simp;omega⟩
theorem nO{m:Mk}{ts:List (List ar×Int)}{bs:List (List ar)}{c t:Int}(hf:∀x∈dp ts,Flat x):(m.dg ts bs c t).cA (fA m.out.length (dp ts) bs)=m.aM (cK (dp ts) bs) c t:=by
 unfold Mk.cA Mk.dg Mk.aM;simp only[Mk.mk.injEq,true_and,and_true];refine⟨?_,by rw[CN (by decide) _ _ _ hf],by rw[CN (by decide) _ _ _ hf]⟩;have:=Z3 (pre:=m.out) rfl (ts:=dp ts) (bs:=bs) hf;rw[←this];congr 1;simp[u7]
theorem zD:∀(n:Nat)(ts bs:List (List ar)),(fA n ts bs).length≤bs.length
 |_,_,[]=>by simp[fA]
 |n,[],b::r=>by
  simp only[fA];split
  ·simp
  ·have:=zD (n+b.length+1) [] r;simp;omega
 |n,t::ts,b::r=>by
  simp only[fA];split
  ·simp
  ·have:=zD (n+t.length+2+b.length) ts r;simp;omega
def Zl(p:Pg)(m:Mk)(s:Sm)(r:bS):Prop:=∃v1 v2 v3,r=some (.ret (.aW []),[(0,gJ p m 0 3 4 5 v1 v2 v3),(0,.box [.ptr 0 0 0]),(0,bh s),(v1,.vec 5 (m.out.map dc)),(v2,.vv (m.ex.map fL) none),(v3,.vec 1 (m.lv.map dC))])
def MkK(p:Pg)(m:Mk)(s:Sm)(q:Int)(r:bS):Prop:=∃v1 v2 v3,r=some (.ret (.aW []),[(0,gJ p m 0 4 5 6 v1 v2 v3),(0,.box [.ptr 0 0 0]),(0,bh s),(0,.box [.d (.int .i64 q)]),(v1,.vec 5 (m.out.map dc)),(v2,.vv (m.ex.map fL) none),(v3,.vec 1 (m.lv.map dC))])
section
variable {p:Pg} {lp:Bool}
theorem Qk{s:Sm}{blocks:List (List Sm)}{ts:List (List ar×Int)}(fG:blocks.length<99999980)(jr:ts.length≤blocks.length)(CU:blocks.length≤ts.length+1)(iJ:∀x∈dp ts,Flat x)
 (HT:∀(i:Nat)(t:List ar×Int),ts[i]?=some t→∀m:Mk,0≤m.most→m.out.length+t.1.length<99999990→E4 p (m.az t.1 t.2) 1 s (.ret (.aW [])) (ai ctx 136 [.d (.int .i64 i),.ptr 0 0 0,.ptr 1 0 0] [.box [.ptr 2 0 0],bh s,gJ p m 0 3 4 5 0 0 0,.vec 5 (m.out.map dc),.vv (m.ex.map fL) none,.vec 1 (m.lv.map dC)]))
 (HB:∀b∈blocks,sA p lp b) (HC:∀b∈blocks,∀c,0≤c→c≤(ag p.vars b c).2) (m:Mk) (hm:0≤m.most) (hc:0≤m.cells) (hI:iu m) (hex:lp=true→m.ex≠[])
 (ho:m.out.length+(cK (dp ts) (aw p.vars blocks m.cells).1).length<99999990) (aO:(aw p.vars blocks m.cells).2<99999990) (fH:∀b∈blocks,m.ex.length+iw b<99999990):
 Zl p (m.aM (cK (dp ts) (aw p.vars blocks m.cells).1) (aw p.vars blocks m.cells).2 (max (dy ts) (b6 blocks))) s
  (ai ctx 135 [.ptr 0 0 0,.d (.list (blocks.map df)),.d (.int .i64 ts.length),.fn 136 [.ptr 1 0 0,.ptr 2 0 0]] [gJ p m 0 3 4 5 0 0 0,.box [.ptr 0 0 0],bh s,.vec 5 (m.out.map dc),.vv (m.ex.map fL) none,.vec 1 (m.lv.map dC)]):=by
 have cJ:=fun k Q hx v1 v2 v3 ve=>IB (by omega) jr CU HT HB HC k Q hx blocks [] ts [] m [] v1 v2 v3 ve rfl rfl (.inl rfl) hm hc hI hex ho aO fH (by simp;omega);have hE:(fA m.out.length (dp ts) (aw p.vars blocks m.cells).1).length<100000000:=by
  have:=zD m.out.length (dp ts) (aw p.vars blocks m.cells).1;rw[tF]at this;omega
 have hlen:(m.dg ts (aw p.vars blocks m.cells).1 (aw p.vars blocks m.cells).2 (max (dy ts) (b6 blocks))).out.length<100000000:=by
  simp only[Mk.dg,List.length_append,u7];omega
 have dF:Pl (m.dg ts (aw p.vars blocks m.cells).1 (aw p.vars blocks m.cells).2 (max (dy ts) (b6 blocks))).out.length (fA m.out.length (dp ts) (aw p.vars blocks m.cells).1):=by
  intro i hi;obtain⟨k,e,hk⟩:=CX _ _ _ i hi;exact⟨k,e,by simpa [Mk.dg]using hk⟩
 have kr:=tC p (m.dg ts (aw p.vars blocks m.cells).1 (aw p.vars blocks m.cells).2 (max (dy ts) (b6 blocks))) 0 _ hE hlen dF;have x1:(m.dg ts (aw p.vars blocks m.cells).1 (aw p.vars blocks m.cells).2 (max (dy ts) (b6 blocks))).ex=(m.aM (cK (dp ts) (aw p.vars blocks m.cells).1) (aw p.vars blocks m.cells).2 (max (dy ts) (b6 blocks))).ex:=by rw[←nO iJ];rfl
 have x2:(m.dg ts (aw p.vars blocks m.cells).1 (aw p.vars blocks m.cells).2 (max (dy ts) (b6 blocks))).lv=(m.aM (cK (dp ts) (aw p.vars blocks m.cells).1) (aw p.vars blocks m.cells).2 (max (dy ts) (b6 blocks))).lv:=by rw[←nO iJ];rfl
 rw[nO iJ]at kr;generalize m.aM (cK (dp ts) (aw p.vars blocks m.cells).1) (aw p.vars blocks m.cells).2 (max (dy ts) (b6 blocks))=M at*;generalize m.dg ts (aw p.vars blocks m.cells).1 (aw p.vars blocks m.cells).2 (max (dy ts) (b6 blocks))=N at*;generalize fA m.out.length (dp ts) (aw p.vars blocks m.cells).1=E at*;rw[SK (by simp)];simp[x1,x2]at kr;simp[Tryz.f135]at cJ⊢;refine cJ _ (fun X F r=>X=N→F=E→Zl p M s r) (fun Y X F v1 v2 v3 ve hX hF=>?_) _ _ _ _ rfl rfl;subst hX hF;simp[Tryz.f135,kr,x1,x2];exact⟨_,_,_,rfl⟩
theorem Ql{s:Sm}{q:Int}{blocks:List (List Sm)}{ts:List (List ar×Int)}(fG:blocks.length<99999980)(jr:ts.length≤blocks.length)(CU:blocks.length≤ts.length+1)(iJ:∀x∈dp ts,Flat x)
 (HT:∀(i:Nat)(t:List ar×Int),ts[i]?=some t→∀m:Mk,0≤m.most→m.out.length+t.1.length<99999990→Nv p (m.az t.1 t.2) 1 s q (.ret (.aW [])) (ai ctx 208 [.d (.int .i64 i),.ptr 0 0 0,.ptr 1 0 0,.ptr 2 0 0] [.box [.ptr 3 0 0],bh s,.box [.d (.int .i64 q)],gJ p m 0 4 5 6 0 0 0,.vec 5 (m.out.map dc),.vv (m.ex.map fL) none,.vec 1 (m.lv.map dC)]))
 (HB:∀b∈blocks,sA p lp b) (HC:∀b∈blocks,∀c,0≤c→c≤(ag p.vars b c).2) (m:Mk) (hm:0≤m.most) (hc:0≤m.cells) (hI:iu m) (hex:lp=true→m.ex≠[])
 (ho:m.out.length+(cK (dp ts) (aw p.vars blocks m.cells).1).length<99999990) (aO:(aw p.vars blocks m.cells).2<99999990) (fH:∀b∈blocks,m.ex.length+iw b<99999990):
 MkK p (m.aM (cK (dp ts) (aw p.vars blocks m.cells).1) (aw p.vars blocks m.cells).2 (max (dy ts) (b6 blocks))) s q
  (ai ctx 135 [.ptr 0 0 0,.d (.list (blocks.map df)),.d (.int .i64 ts.length),.fn 208 [.ptr 1 0 0,.ptr 2 0 0,.ptr 3 0 0]] [gJ p m 0 4 5 6 0 0 0,.box [.ptr 0 0 0],bh s,.box [.d (.int .i64 q)],.vec 5 (m.out.map dc),.vv (m.ex.map fL) none,.vec 1 (m.lv.map dC)]):=by
 have cJ:=fun k Q hx v1 v2 v3 ve=>ID (by omega) jr CU HT HB HC k Q hx blocks [] ts [] m [] v1 v2 v3 ve rfl rfl (.inl rfl) hm hc hI hex ho aO fH (by simp;omega);have hE:(fA m.out.length (dp ts) (aw p.vars blocks m.cells).1).length<100000000:=by
  have:=zD m.out.length (dp ts) (aw p.vars blocks m.cells).1;rw[tF]at this;omega
 have hlen:(m.dg ts (aw p.vars blocks m.cells).1 (aw p.vars blocks m.cells).2 (max (dy ts) (b6 blocks))).out.length<100000000:=by
  simp only[Mk.dg,List.length_append,u7];omega
 have dF:Pl (m.dg ts (aw p.vars blocks m.cells).1 (aw p.vars blocks m.cells).2 (max (dy ts) (b6 blocks))).out.length (fA m.out.length (dp ts) (aw p.vars blocks m.cells).1):=by
  intro i hi;obtain⟨k,e,hk⟩:=CX _ _ _ i hi;exact⟨k,e,by simpa [Mk.dg]using hk⟩
 have kr:=tC p (m.dg ts (aw p.vars blocks m.cells).1 (aw p.vars blocks m.cells).2 (max (dy ts) (b6 blocks))) 0 _ hE hlen dF;have x1:(m.dg ts (aw p.vars blocks m.cells).1 (aw p.vars blocks m.cells).2 (max (dy ts) (b6 blocks))).ex=(m.aM (cK (dp ts) (aw p.vars blocks m.cells).1) (aw p.vars blocks m.cells).2 (max (dy ts) (b6 blocks))).ex:=by rw[←nO iJ];rfl
 have x2:(m.dg ts (aw p.vars blocks m.cells).1 (aw p.vars blocks m.cells).2 (max (dy ts) (b6 blocks))).lv=(m.aM (cK (dp ts) (aw p.vars blocks m.cells).1) (aw p.vars blocks m.cells).2 (max (dy ts) (b6 blocks))).lv:=by rw[←nO iJ];rfl
 rw[nO iJ]at kr;generalize m.aM (cK (dp ts) (aw p.vars blocks m.cells).1) (aw p.vars blocks m.cells).2 (max (dy ts) (b6 blocks))=M at*;generalize m.dg ts (aw p.vars blocks m.cells).1 (aw p.vars blocks m.cells).2 (max (dy ts) (b6 blocks))=N at*;generalize fA m.out.length (dp ts) (aw p.vars blocks m.cells).1=E at*;rw[SK (by simp)];simp[x1,x2]at kr;simp[Tryz.f135]at cJ⊢;refine cJ _ (fun X F r=>X=N→F=E→MkK p M s q r) (fun Y X F v1 v2 v3 ve hX hF=>?_) _ _ _ _ rfl rfl;subst hX hF;simp[Tryz.f135,kr,x1,x2];exact⟨_,_,_,rfl⟩
end
def Mk.CY(m:Mk)(t b:List ar)(c u:Int):Mk:=
 ⟨m.out++(ins 11 0 0 0 0::t++(ins 10 (m.out.length+t.length+3+b.length) 0 0 0::cG (m.out.length+t.length+2) b++[ins 9 m.out.length 0 0 0])),c,max m.most u,gK m.ex (cE (-1) (m.out.length+t.length+2) b),m.lv++cE (-2) (m.out.length+t.length+2) b⟩
def Mk.CZ(m:Mk)(t b:List ar)(c u:Int):Mk:=
 ⟨m.out++(cG m.out.length b++(ins 11 0 0 0 0::t++[ins 10 m.out.length 0 0 0])),c,max m.most u,gK m.ex (cE (-1) m.out.length b),m.lv++cE (-2) m.out.length b⟩
section
variable {p:Pg} (bn:p.vars.length≤1000) (hf:∀v∈p.vars,dj v=true)
include bn hf
theorem ae5{to val:Ex}{b:List Sm}{line:Int}(fv:bk val=true)(ev:(aF p.vars val).e=0)(hB:sA p true b)(m:Mk)(hm:0≤m.most)(hc:0≤m.cells)(hI:iu m)(hex:m.ex≠[])
 (hl:m.out.length+(ak p.vars val).1.length+(ag p.vars b m.cells).1.length+3<99999990) (aO:(ag p.vars b m.cells).2<99999990) (fH:m.ex.length+iw b<99999990):
 E4 p (m.CY (ak p.vars val).1 (ag p.vars b m.cells).1 (ag p.vars b m.cells).2 (max (aL 0 val) (bg b))) 0 (.mk 5 [] to val [] [] [] [b] line) (.ret (.aW [])) (ai ctx 211 [.ptr 0 0 0,.ptr 1 0 0] [.box [.ptr 2 0 0],bh (.mk 5 [] to val [] [] [] [b] line),gJ p m 0 3 4 5 0 0 0,.vec 5 (m.out.map dc),.vv (m.ex.map fL) none,.vec 1 (m.lv.map dC)]):=by
 have g0:=CO p m 0;obtain⟨a1,a2,a3,g1⟩:=mb p m 0 (by omega) (by decide);have l1:(m.put (ins 11 0 0 0 0) 0).out.length=m.out.length+1:=by simp[Mk.put]
 obtain⟨b1,b2,b3,g2⟩:=ld bn hf val fv ev (m.put (ins 11 0 0 0 0) 0) 0 (by omega) (by omega) (by simp[Mk.put];omega) (by rw[l1];omega);have l2:((m.put (ins 11 0 0 0 0) 0).az (ak p.vars val).1 (aL 0 val)).out.length=m.out.length+1+(ak p.vars val).1.length:=by
  show ((m.put (ins 11 0 0 0 0) 0).out++_).length=_;rw[List.length_append,l1]
 obtain⟨c1,c2,c3,g3⟩:=wB p ((m.put (ins 11 0 0 0 0) 0).az (ak p.vars val).1 (aL 0 val)) 1 0 (by rw[l2];omega) (by decide);rw[show (1:Int)+ -1=0 by omega]at g3;have l3:(((m.put (ins 11 0 0 0 0) 0).az (ak p.vars val).1 (aL 0 val)).put (ins 10 0 0 0 0) 0).out.length=m.out.length+(ak p.vars val).1.length+2:=by
  show (((m.put (ins 11 0 0 0 0) 0).az (ak p.vars val).1 (aL 0 val)).out++_).length=_;rw[List.length_append,l2];simp;omega
 obtain⟨d1,d2,d3,g4⟩:=hB (((m.put (ins 11 0 0 0 0) 0).az (ak p.vars val).1 (aL 0 val)).put (ins 10 0 0 0 0) 0) (by simp[Mk.put,Mk.az];omega) hc (((hI.put _ _).az _ _).put _ _) (fun _=>hex) (by rw[l3];show _+(ag p.vars b m.cells).1.length<_;omega) (by show (ag p.vars b m.cells).2<_;omega) (by show m.ex.length+_<_;omega);have l4:((((m.put (ins 11 0 0 0 0) 0).az (ak p.vars val).1 (aL 0 val)).put (ins 10 0 0 0 0) 0).aM (ag p.vars b m.cells).1 (ag p.vars b m.cells).2 (bg b)).out.length=m.out.length+(ak p.vars val).1.length+2+(ag p.vars b m.cells).1.length:=by
  show ((((m.put (ins 11 0 0 0 0) 0).az (ak p.vars val).1 (aL 0 val)).put (ins 10 0 0 0 0) 0).out++cG _ _).length=_;rw[List.length_append,l3,mq]
 obtain⟨e1,e2,e3,g5⟩:=CP p ((((m.put (ins 11 0 0 0 0) 0).az (ak p.vars val).1 (aL 0 val)).put (ins 10 0 0 0 0) 0).aM (ag p.vars b m.cells).1 (ag p.vars b m.cells).2 (bg b)) 0 m.out.length (by rw[l4];omega) (by decide);have l5:(((((m.put (ins 11 0 0 0 0) 0).az (ak p.vars val).1 (aL 0 val)).put (ins 10 0 0 0 0) 0).aM (ag p.vars b m.cells).1 (ag p.vars b m.cells).2 (bg b)).put (ins 9 m.out.length 0 0 0) 0).out.length=m.out.length+(ak p.vars val).1.length+3+(ag p.vars b m.cells).1.length:=by
  show (((((m.put (ins 11 0 0 0 0) 0).az (ak p.vars val).1 (aL 0 val)).put (ins 10 0 0 0 0) 0).aM (ag p.vars b m.cells).1 (ag p.vars b m.cells).2 (bg b)).out++_).length=_;rw[List.length_append,l4];simp;omega
 have g6:=qu p (((((m.put (ins 11 0 0 0 0) 0).az (ak p.vars val).1 (aL 0 val)).put (ins 10 0 0 0 0) 0).aM (ag p.vars b m.cells).1 (ag p.vars b m.cells).2 (bg b)).put (ins 9 m.out.length 0 0 0) 0) 0 (m.out.length+1+(ak p.vars val).1.length) (by rw[l5];omega) (by rw[l5];omega);have eS:(((((m.put (ins 11 0 0 0 0) 0).az (ak p.vars val).1 (aL 0 val)).put (ins 10 0 0 0 0) 0).aM (ag p.vars b m.cells).1 (ag p.vars b m.cells).2 (bg b)).put (ins 9 m.out.length 0 0 0) 0).lead (m.out.length+1+(ak p.vars val).1.length:Nat)=m.CY (ak p.vars val).1 (ag p.vars b m.cells).1 (ag p.vars b m.cells).2 (max (aL 0 val) (bg b)):=by
  unfold Mk.lead;rw[l5];unfold Mk.CY Mk.aM;rw[l3];simp only[Mk.put,Mk.az,Mk.mk.injEq,true_and,and_true];refine⟨?_,by have:=lj 0 val;omega⟩;have:=wD m.out (ins 11 0 0 0 0::(ak p.vars val).1) (cG (m.out.length+(ak p.vars val).1.length+2) (ag p.vars b m.cells).1++[ins 9 m.out.length 0 0 0]) (ins 10 0 0 0 0) ((m.out.length+(ak p.vars val).1.length+3+(ag p.vars b m.cells).1.length:Nat):Int) ((m.out.length+1+(ak p.vars val).1.length:Nat):Int) (by simp;omega);have e3:m.out++[ins 11 0 0 0 0]++(ak p.vars val).1++[ins 10 0 0 0 0]++cG (m.out.length+(ak p.vars val).1.length+2) (ag p.vars b m.cells).1++[ins 9 m.out.length 0 0 0]=m.out++(ins 11 0 0 0 0::(ak p.vars val).1)++ins 10 0 0 0 0::(cG (m.out.length+(ak p.vars val).1.length+2) (ag p.vars b m.cells).1++[ins 9 m.out.length 0 0 0]):=by simp
  rw[e3,this];simp[ins]
 rw[l2]at g3;rw[eS]at g6;generalize m.CY (ak p.vars val).1 (ag p.vars b m.cells).1 (ag p.vars b m.cells).2 (max (aL 0 val) (bg b))=M6 at*;generalize ((((m.put (ins 11 0 0 0 0) 0).az (ak p.vars val).1 (aL 0 val)).put (ins 10 0 0 0 0) 0).aM (ag p.vars b m.cells).1 (ag p.vars b m.cells).2 (bg b)).put (ins 9 m.out.length 0 0 0) 0=M5 at*;have g4:ai ctx 51 [.ptr 0 0 0,.d (.list (b.map b5))] (fM p (((m.put (ins 11 0 0 0 0) 0).az (ak p.vars val).1 (aL 0 val)).put (ins 10 0 0 0 0) 0) 0)=some (.ret (.aW []),Nq p ((((m.put (ins 11 0 0 0 0) 0).az (ak p.vars val).1 (aL 0 val)).put (ins 10 0 0 0 0) 0).aM (ag p.vars b m.cells).1 (ag p.vars b m.cells).2 (bg b)) 0 d1 d2 d3):=g4;generalize (((m.put (ins 11 0 0 0 0) 0).az (ak p.vars val).1 (aL 0 val)).put (ins 10 0 0 0 0) 0).aM (ag p.vars b m.cells).1 (ag p.vars b m.cells).2 (bg b)=M4 at*;generalize ((m.put (ins 11 0 0 0 0) 0).az (ak p.vars val).1 (aL 0 val)).put (ins 10 0 0 0 0) 0=M3 at*;generalize (m.put (ins 11 0 0 0 0) 0).az (ak p.vars val).1 (aL 0 val)=M2 at*;generalize m.put (ins 11 0 0 0 0) 0=M1 at*;rw[SO (by simp)];simp at g0 g1 g2 g3 g4 g5 g6;simp[Tryz.f211,aq,df,g0,g1,g2,g3,g4,g5,g6];exact⟨_,_,_,rfl⟩
theorem ae6{to val:Ex}{b:List Sm}{line:Int}(fv:bk val=true)(ev:(aF p.vars val).e=0)(hB:sA p true b)(m:Mk)(hm:0≤m.most)(hc:0≤m.cells)(hI:iu m)(hex:m.ex≠[])
 (hl:m.out.length+(ak p.vars val).1.length+(ag p.vars b m.cells).1.length+2<99999990) (aO:(ag p.vars b m.cells).2<99999990) (fH:m.ex.length+iw b<99999990):
 E4 p (m.CZ (ak p.vars val).1 (ag p.vars b m.cells).1 (ag p.vars b m.cells).2 (max (aL 0 val) (bg b))) 0 (.mk 6 [] to val [] [] [] [b] line) (.ret (.aW [])) (ai ctx 211 [.ptr 0 0 0,.ptr 1 0 0] [.box [.ptr 2 0 0],bh (.mk 6 [] to val [] [] [] [b] line),gJ p m 0 3 4 5 0 0 0,.vec 5 (m.out.map dc),.vv (m.ex.map fL) none,.vec 1 (m.lv.map dC)]):=by
 have g0:=CO p m 0;obtain⟨d1,d2,d3,g1⟩:=hB m hm hc hI (fun _=>hex) (by omega) (by omega) (by omega);have l1:(m.aM (ag p.vars b m.cells).1 (ag p.vars b m.cells).2 (bg b)).out.length=m.out.length+(ag p.vars b m.cells).1.length:=by
  show (m.out++cG _ _).length=_;rw[List.length_append,mq]
 obtain⟨a1,a2,a3,g2⟩:=mb p (m.aM (ag p.vars b m.cells).1 (ag p.vars b m.cells).2 (bg b)) 0 (by rw[l1];omega) (by decide);have l2:((m.aM (ag p.vars b m.cells).1 (ag p.vars b m.cells).2 (bg b)).put (ins 11 0 0 0 0) 0).out.length=m.out.length+(ag p.vars b m.cells).1.length+1:=by
  show ((m.aM (ag p.vars b m.cells).1 (ag p.vars b m.cells).2 (bg b)).out++_).length=_;rw[List.length_append,l1];rfl
 obtain⟨b1,b2,b3,g3⟩:=ld bn hf val fv ev ((m.aM (ag p.vars b m.cells).1 (ag p.vars b m.cells).2 (bg b)).put (ins 11 0 0 0 0) 0) 0 (by omega) (by omega) (by simp[Mk.put,Mk.aM];omega) (by rw[l2];omega);have l3:(((m.aM (ag p.vars b m.cells).1 (ag p.vars b m.cells).2 (bg b)).put (ins 11 0 0 0 0) 0).az (ak p.vars val).1 (aL 0 val)).out.length=m.out.length+(ag p.vars b m.cells).1.length+1+(ak p.vars val).1.length:=by
  show (((m.aM (ag p.vars b m.cells).1 (ag p.vars b m.cells).2 (bg b)).put (ins 11 0 0 0 0) 0).out++_).length=_;rw[List.length_append,l2]
 obtain⟨c1,c2,c3,g4⟩:=wB p (((m.aM (ag p.vars b m.cells).1 (ag p.vars b m.cells).2 (bg b)).put (ins 11 0 0 0 0) 0).az (ak p.vars val).1 (aL 0 val)) 1 m.out.length (by rw[l3];omega) (by decide);rw[show (1:Int)+ -1=0 by omega]at g4;have eS:(((m.aM (ag p.vars b m.cells).1 (ag p.vars b m.cells).2 (bg b)).put (ins 11 0 0 0 0) 0).az (ak p.vars val).1 (aL 0 val)).put (ins 10 m.out.length 0 0 0) 0=m.CZ (ak p.vars val).1 (ag p.vars b m.cells).1 (ag p.vars b m.cells).2 (max (aL 0 val) (bg b)):=by
  unfold Mk.CZ Mk.aM;simp only[Mk.put,Mk.az,Mk.mk.injEq,true_and,and_true];exact⟨by simp,by have:=lj 0 val;omega⟩
 rw[eS]at g4;generalize m.CZ (ak p.vars val).1 (ag p.vars b m.cells).1 (ag p.vars b m.cells).2 (max (aL 0 val) (bg b))=M4 at*;clear eS;generalize ((m.aM (ag p.vars b m.cells).1 (ag p.vars b m.cells).2 (bg b)).put (ins 11 0 0 0 0) 0).az (ak p.vars val).1 (aL 0 val)=M3 at*;generalize (m.aM (ag p.vars b m.cells).1 (ag p.vars b m.cells).2 (bg b)).put (ins 11 0 0 0 0) 0=M2 at*;generalize m.aM (ag p.vars b m.cells).1 (ag p.vars b m.cells).2 (bg b)=M1 at*;rw[SO (by simp)];simp at g0 g1 g2 g3 g4;simp[Tryz.f211,aq,df,g0,g1,g2,g3,g4];exact⟨_,_,_,rfl⟩
end
end Go.Am
end

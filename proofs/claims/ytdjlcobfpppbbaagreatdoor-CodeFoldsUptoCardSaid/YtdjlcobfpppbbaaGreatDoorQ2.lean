/-
  Texts of one proof, one behind the other.
-/
import Derived.Test.YtdjlcobfpppbbaaGreatDoorQ1
import Derived.Orders
set_option linter.all false
section
namespace Go.Am
open Go
theorem Ai(sz:Nat):∀(vs:List (Nat×Value))(k:Nat)(cells:Array Value),vs.map (·.1)=List.range' k vs.length→(∀v∈vs,v.2.cells.size=sz)→(k+vs.length)*sz=cells.size→
 ∃out,Instr.fill (fun i=>some (i*sz,sz)) cells vs=some out∧out.toList=cells.toList.take (k*sz)++vs.flatMap (fun v=>v.2.cells.toList)
 |[],k,cells,_,_,hl=>by
  refine⟨cells,rfl,?_⟩;simp only[List.length_nil,Nat.add_zero]at hl;simp only[hl,List.flatMap_nil,List.append_nil];rw[←Array.length_toList,List.take_length]
 |(i,v)::vs,k,cells,hi,hs,hl=>by
  simp only[List.map_cons,List.length_cons,List.range'_succ,List.cons.injEq]at hi;obtain⟨rfl,hi⟩:=hi;have hv:=hs (i,v) (by simp);simp only at hv;simp only[List.length_cons]at hl;have bn:i*sz+v.cells.size≤cells.size:=by
   rw[hv,←hl,←Nat.succ_mul];exact Nat.mul_le_mul_right _ (by omega)
  have h1:=F7 cells v.cells (i*sz) bn;obtain⟨c1,sx⟩:∃c1,c1=v.cells.zipIdx.foldl (fun cs (x:Value×Nat)=>cs.setIfInBounds (i*sz+x.2) x.1) cells:=⟨_,rfl⟩;rw[←sx]at h1;have iC:i*sz+v.cells.toList.length≤cells.toList.length:=by simpa using bn
  have bQ:c1.size=cells.size:=by rw[←Array.length_toList,h1,bN _ _ _ iC];simp
  obtain⟨out,h2,h3⟩:=Ai sz vs (i+1) c1 hi (fun x hx=>hs x (by simp[hx])) (by rw[bQ,←hl];congr 1;omega);refine⟨out,?_,?_⟩
  ·simp only[Instr.fill];rw[if_neg (by simp;omega),←h2,sx]
  ·rw[h3,h1,dn _ _ _ iC];have hvl:v.cells.toList.length=sz:=by simpa using hv
   rw[Nat.succ_mul,List.take_append_of_le_length (by simp;omega),List.take_of_length_le (by simp;omega)];simp
theorem Bs{φ w F}{sz:Nat}:∀(ds:List D)(vs:List Value),ds.length=vs.length→(∀d∈ds,d.size=sz)→(∀(i:Nat) d v,ds[i]?=some d→vs[i]?=some v→aB φ w F (.d d) v)→
 cf w F sz ds (vs.flatMap fun v=>v.cells.toList)
 |[],vs,hl,_,_=>by
  have:vs=[]:=List.eq_nil_of_length_eq_zero (by simpa using hl.symm);subst this;exact cf.nil ..
 |d::ds,vs,hl,hs,hr=>by
  cases vs with
  |nil=>simp at hl
  |cons v vs=>
   have ih:=Bs (φ:=φ) (w:=w) (F:=F) ds vs (by simpa using hl) (fun x hx=>hs x (by simp[hx])) (fun i d v h h'=>hr (i+1) d v (by simpa using h) (by simpa using h'));have h0:=hr 0 d v (by simp) (by simp);cases h0 with|d _ _ h0=>
   have jk:=hs d (by simp);have ee:v.cells.size=sz:=by rw[h0.size,jk]
   have one:cf w F sz [d] v.cells.toList:=by
    refine⟨by simp[ee],fun u hu=>h0.cells.2.1 u (by simpa using hu),fun x hx=>by simp at hx;subst hx;exact jk,fun i x hx=>?_⟩;cases i with
    |zero=>simp at hx;subst hx;exact⟨v,h0,fun j c hj=>by simpa using hj⟩
    |succ i=>simp at hx
   simpa using one.append ih
theorem F9{w:World}{F F':Nat→Prop}{sz:Nat}{ds:List D}{cs rest:List Value}{elem:TypeId}{fr}{w1:World}{arr:Array Value}(hr:cf w F sz ds cs)(hh:w1.heap[w.heap.size]?=some (.cells arr elem fr))(gi:arr.toList=cs++rest)
 (hm:∀x v,aK w F x v→aK w1 F' x v) (hF:¬F' w.heap.size) (cap:Nat) (dg:ds.length≤cap):aK w1 F' (.list ds) (.slice (some ⟨w.heap.size,0,none⟩) ds.length cap):=by
 obtain⟨a1,a2,a3,a4⟩:=hr;have xu:∀i,∃v,∀d,ds[i]?=some d→aK w F d v∧∀(j:Nat) c,v.cells[j]?=some c→cs[i*sz+j]?=some c:=by
  intro i;cases hd:ds[i]? with
  |none=>exact⟨undef,fun d h=>by cases h⟩
  |some d=>obtain⟨v,h1,h2⟩:=a4 i d hd;exact⟨v,fun d' h=>by cases h;exact⟨h1,h2⟩⟩
 obtain⟨vs,ee⟩:=Classical.axiomOfChoice xu;refine .list ds w.heap.size 0 cap sz vs dg ?_ hF a3 (fun i d hd=>hm _ _ (ee i d hd).1) (fun i j c hi hj=>?_)
 ·exact (Array.getElem?_eq_some_iff.1 hh).1
 ·obtain⟨h1,h2⟩:=ee i ds[i] (by simp[hi]);have h3:=h2 j c hj;rw[DE hh,←Array.getElem?_toList,gi,Nat.zero_add,List.getElem?_append_left (List.getElem?_eq_some_iff.1 h3).1];exact h3
theorem Ga{φ:bM}{G:Fr}{m:Mem}{w w1:World}(hold:∀b,b<w.heap.size→w1.heap[b]?=w.heap[b]?)(hs:w.heap.size≤w1.heap.size)(x v)(hx:aK w (Fo G φ m) x v):aK w1 (Fo G φ m) x v:=
 hx.mono (fun b hb _=>hold b hb) hs (fun _ _ h=>h)
def partDs:List (Nat×AV)→Option (List D)
 |[]=>some []
 |(_,x)::r=>match x.norm,partDs r with
  | .d d,some ds=>some (d::ds)
  |_,_=>none
theorem Bt{φ w F}:∀(ps:List (Nat×AV))(ds:List D)(vs:List Value),partDs ps=some ds→ps.length=vs.length→(∀(i:Nat) p v,ps[i]?=some p→vs[i]?=some v→aB φ w F p.2 v)→
 ds.length=vs.length∧∀(i:Nat) d v,ds[i]?=some d→vs[i]?=some v→aB φ w F (.d d) v
 |[],ds,vs,h,hl,_=>by
  simp[partDs]at h;subst h;exact⟨by simpa using hl,fun i d v h'=>by simp at h'⟩
 |(i,x)::ps,ds,vs,h,hl,hr=>by
  simp only[partDs]at h;split at h<;>simp at h;rename_i d iW hx jk;subst h;cases vs with
  |nil=>simp at hl
  |cons v vs=>
   have ih:=Bt (φ:=φ) (w:=w) (F:=F) ps iW vs jk (by simpa using hl) (fun i p v h h'=>hr (i+1) p v (by simpa using h) (by simpa using h'));refine⟨by simp[ih.1],fun j d' v' h h'=>?_⟩;cases j with
   |zero=>
    simp at h h';subst h;subst h';have:=(hr 0 (i,x) v (by simp) (by simp)).norm;simp only[hx]at this;exact this
   |succ j=>exact ih.2 j d' v' (by simpa using h) (by simpa using h')
def gz(P:Program)(t:TypeId)(k0:Nat)(len:Nat):List (Nat×AV)→Option cH→Option di
 |[(0,.lit (.slice none 0 0))],some ⟨_,v,_⟩=>match tk P t with
  | .slice e=>match fe P e,lD P e with
   |some sz,some _=>some (.cW (sz=1∧len=1) (.vec k0 (v+1) 0 1) ⟨k0,v+1,.box [.lit (.slice none 0 0)]⟩)
   |_,_=>none
  |_=>none
 |_,_=>none
def buildSlice0(P:Program)(m:Mem)(k0:Nat)(t:TypeId)(len:Nat)(ps:List (Nat×AV)):di:=
 match tk P t with
 | .slice e=>match fe P e,lD P e,partDs ps with
  |some sz,some zd,some ds=>match Mem.get m k0 with
   |some ⟨_,v,_⟩=>.cW (zd.size=sz∧len*sz≤2^24∧ps.map (·.1)=List.range' 0 len∧(∀d∈ds,d.size=sz)) (.vec k0 (v+1) 0 len) ⟨k0,v+1,.vec sz ds⟩
   |none=>.val (zd.size=sz∧len*sz≤2^24∧ps.map (·.1)=List.range' 0 len∧(∀d∈ds,d.size=sz)) (.d (.list ds))
  |_,_,_=>.no
 |_=>.no
def buildSliceR(P:Program)(m:Mem)(k0:Nat)(t:TypeId)(len:Nat)(ps:List (Nat×AV)):di:=
 match gz P t k0 len ps (Mem.get m k0)with
 |some r=>r
 |none=>buildSlice0 P m k0 t len ps
theorem um{P:Program}{w:World}{t e:TypeId}{sz len:Nat}{zd:D}(ht:tk P t=.slice e)(hs:fe P e=some sz)(hz:lD P e=some zd)(hb:len*sz≤2^24)
 {vs:List (Nat×Value)} (hi:vs.map (·.1)=List.range' 0 len) (hv:∀v∈vs,v.2.cells.size=sz):
 ∃arr:Array Value,arr.toList=vs.flatMap (fun v=>v.2.cells.toList)∧(Instr.buildSlice t len vs.toArray).run P w=.ok (.slice (some ⟨w.heap.size,0,none⟩) len len) (w.alloc (.cells arr e)):=by
 obtain⟨z,bL,vi,oE,_⟩:=Bp hz w;have hlen:vs.length=len:=by
  have:=congrArg List.length hi;simpa using this
 have pT:¬(len*sz>2^24):=by omega
 by_cases h0:len*sz=0
 ·obtain⟨out,h1,h2⟩:=Ai sz vs 0 #[] (by rw[hlen];exact hi) hv (by rw[hlen];simp[h0]);refine⟨out,by simpa using h2,?_⟩;simp only[Instr.buildSlice,Sem.run_bind,run_underlying (fG ht),Result.andThen_ok,run_sizeOf hs,h0,if_true,show Array.range 0=#[]from rfl,Array.map_empty,h1,show ¬(0>2^24) by decide,if_false,Sem.run_bind,Sem.run_pure,hU]
 ·obtain⟨out,h1,h2⟩:=Ai sz vs 0 ((Array.range (len*sz)).map (z.cells[·%z.cells.size]!)) (by rw[hlen];exact hi) hv (by rw[hlen];simp);refine⟨out,by simpa using h2,?_⟩;simp only[Instr.buildSlice,Sem.run_bind,run_underlying (fG ht),Result.andThen_ok,run_sizeOf hs,pT,if_false,h0,bL,Sem.run_pure,h1,hU]
theorem E4(P:Program)(S:St)(o:Oper)(t:TypeId)(len:Nat)(ps:Array (Nat×Operand))(ho:o.op=.buildSlice t len ps)(hx:∀x∈ps.toList,(S.opd x.2).1=true):
 aH P S o (buildSliceR P S.mem (keyOf o) t len (ps.toList.map fun x=>(x.1,(S.opd x.2).2))):=by
 have parts:∀{φ G a w},Rel φ G S a w→∀(i:Nat)(p:Nat×AV)(v:Value),(ps.toList.map fun x=>(x.1,(S.opd x.2).2))[i]?=some p→(ps.toList.map fun x=>a.eval x.2)[i]?=some v→aB φ w (Fo G φ S.mem) p.2 v:=by
  intro φ G a w hr i p v h1 h2;simp only[List.getElem?_map,Option.map_eq_some_iff]at h1 h2;obtain⟨x,F8,rfl⟩:=h1;obtain⟨y,DO,rfl⟩:=h2;rw[F8]at DO;cases DO;exact hr.opd _ (hx x (List.mem_of_getElem? F8))
 have main:∀{e sz zd ds},tk P t=.slice e→fe P e=some sz→lD P e=some zd→partDs (ps.toList.map fun x=>(x.1,(S.opd x.2).2))=some ds→zd.size=sz→len*sz≤2^24→
  (ps.toList.map fun x=>(x.1,(S.opd x.2).2)).map (·.1)=List.range' 0 len→(∀d∈ds,d.size=sz)→∀{φ G a w},Rel φ G S a w→
  ds.length=len∧∃arr:Array Value,cf w (Fo G φ S.mem) sz ds arr.toList∧(execOp a.eval o).run P w=.ok (.value (.slice (some ⟨w.heap.size,0,none⟩) len len)) (w.alloc (.cells arr e)):=by
  intro e sz zd ds ht hs hz jk np hb hi bQ φ G a w hr;obtain⟨h1,h2⟩:=Bt (φ:=φ) (w:=w) (F:=Fo G φ S.mem) _ ds (ps.toList.map fun x=>a.eval x.2) jk (by simp) (parts hr);have jm:=Bs ds _ h1 bQ h2;have lB:(ps.toList.map fun x=>(x.1,a.eval x.2)).map (·.1)=List.range' 0 len:=by rw[←hi];simp
  have hv:∀v∈(ps.toList.map fun x=>(x.1,a.eval x.2)),v.2.cells.size=sz:=by
   intro v hv;simp only[List.mem_map]at hv;obtain⟨x,gm,rfl⟩:=hv;obtain⟨i,nq,sA⟩:=List.mem_iff_getElem.1 gm;have hid:i<ds.length:=by rw[h1];simpa using nq
   have:=h2 i ds[i] (a.eval x.2) (by simp[hid]) (by simp[List.getElem?_eq_getElem nq,sA]);cases this with|d _ _ h=>rw[h.size];exact bQ _ (List.getElem_mem hid)
  obtain⟨arr,ha,bL⟩:=um (P:=P) (w:=w) ht hs hz hb lB hv;refine⟨?_,arr,?_,?_⟩
  ·have:=congrArg List.length hi;simp at this;rw[h1];simp;exact this
  ·rw[ha];have e:(ps.toList.map fun x=>(x.1,a.eval x.2)).flatMap (fun v=>v.2.cells.toList)=(ps.toList.map fun x=>a.eval x.2).flatMap (fun v=>v.cells.toList):=by simp[List.flatMap_map]
   rw[e];exact jm
  ·have e2:(ps.map fun x=>(x.1,a.eval x.2))=(ps.toList.map fun x=>(x.1,a.eval x.2)).toArray:=by apply Array.ext';simp
   simp only[execOp,ho,Sem.run_bind];have e3:(ps.map fun (i,x)=>(i,a.eval x))=(ps.toList.map fun x=>(x.1,a.eval x.2)).toArray:=e2;rw[e3,bL];rfl
 have nil:∀r,gz P t (keyOf o) len (ps.toList.map fun x=>(x.1,(S.opd x.2).2)) (Mem.get S.mem (keyOf o))=some r→aH P S o r:=by
  intro r wG;unfold gz at wG;split at wG
  ·rename_i key v cont jR hg;split at wG
   ·rename_i e ga;split at wG
    ·rename_i sz zd hs hz;cases wG;refine aH.qm ?_;rintro ⟨rfl,rfl⟩ φ G a w hr;have dz:ps.toList.length=1:=by have:=congrArg List.length jR;simpa using this
     obtain⟨q,hq⟩:∃q,ps.toList=[q]:=by
      match hql:ps.toList,dz with
      |[q],_=>exact⟨q,rfl⟩
     have hpq:=parts hr 0 (0,.lit (.slice none 0 0)) (a.eval q.2) (by rw[jR];rfl) (by rw[hq];rfl);simp only at hpq;have bU:a.eval q.2=.slice none 0 0:=by
      generalize a.eval q.2=u at hpq;cases hpq;rfl
     have hq0:q.1=0:=by
      rw[hq]at jR;simp only[List.map_cons,List.map_nil,List.cons.injEq,Prod.mk.injEq]at jR;exact jR.1.1
     obtain⟨arr,ha,bL⟩:=um (P:=P) (w:=w) (len:=1) ga hs hz (by decide) (vs:=[(0,.slice none 0 0)]) rfl (by simp[Value.cells]);have gi:arr=#[.slice none 0 0]:=by apply Array.ext';rw[ha];simp[Value.cells]
     subst gi;obtain⟨hm,hk,L,hL,aA,_⟩:=hr.mem.get hg;simp only at hk aA;subst hk;obtain⟨φ',dq,aN,eX,en⟩:=hr.mem.fresh (e:=⟨keyOf o,v,cont⟩) hm hL aA w rfl rfl rfl rfl #[.slice none 0 0] e 1 1 (.box [.lit (.slice none 0 0)]) (fun _ hb=>hb) (fun φ' hle bY iU iV=>by
      refine⟨⟨rfl,rfl,rfl⟩,#[.slice none 0 0],e,.new iV,rfl,by simp[cv],fun n c u hc hu=>?_⟩;cases n with
      |zero=>simp at hc hu;subst hc;subst hu;exact .lit _ rfl
      |succ n=>simp at hc)
     refine⟨.slice (some ⟨w.heap.size,0,none⟩) 1 1,_,φ',.inl ?_,.vec _ (v+1) 0 _ _ _ eX (Nat.le_refl _) (fun _=>⟨_,_,rfl,Nat.le_refl _,fun _=>⟨by simp,by simp⟩⟩) rfl,dq,aN,en⟩;have e3:(ps.map fun (i,x)=>(i,a.eval x))=#[(0,.slice none 0 0)]:=by
      apply Array.ext';simp[hq,hq0,bU]
     simp only[execOp,ho,Sem.run_bind];rw[e3];have h9:(Instr.buildSlice t 1 #[(0,Value.slice none 0 0)]).run P w=_:=bL;rw[h9];rfl
    ·cases wG
   ·cases wG
  ·cases wG
 unfold buildSliceR;split
 ·rename_i r wG;exact nil r wG
 rename_i wG;clear wG nil;unfold buildSlice0;split
 ·rename_i e ga;split
  ·rename_i sz zd ds hs hz jk;split
   ·rename_i key v cont hg;refine aH.qm ?_;rintro ⟨np,hb,hi,bQ⟩ φ G a w hr;obtain⟨hlen,arr,jm,bL⟩:=main ga hs hz jk np hb hi bQ hr;obtain⟨hm,hk,L,hL,aA,_⟩:=hr.mem.get hg;simp only at hk aA;subst hk;obtain⟨φ',dq,aN,eX,en⟩:=hr.mem.fresh (e:=⟨keyOf o,v,cont⟩) hm hL aA w rfl rfl rfl rfl arr e sz len (.vec sz ds) (fun _ hb=>hb.2) (fun φ' hle bY iU iV=>by
     refine tD (cs:=arr.toList) (rest:=[]) (elem:=e) rfl rfl (jm.mono iU) (by simp) (by simpa using Nat.le_of_eq hlen) (by rw[List.append_nil,jm.1,hlen]) (fun _=>?_);refine eL.new ?_;rw[iV,List.append_nil,Array.toArray_toList])
    exact⟨_,_,φ',.inl bL,.vec _ (v+1) 0 _ _ _ eX (Nat.le_refl _) (fun _=>⟨_,_,rfl,Nat.le_refl _,fun _=>⟨by simp,by simp⟩⟩) rfl,dq,aN,en⟩
   ·refine aH.aku ?_;rintro ⟨np,hb,hi,bQ⟩ φ G a w hr;obtain⟨hlen,arr,jm,bL⟩:=main ga hs hz jk np hb hi bQ hr;have hold:∀b,b<w.heap.size→(w.alloc (.cells arr e)).heap[b]?=w.heap[b]?:=fun b hb=>RowKit.Below.heap_alloc w _ b hb;have iV:=heap_alloc_new w (.cells arr e);refine⟨_,_,.inl bL,.d _ _ ?_,hold,by simp,rfl,rfl,rfl⟩;have:=F9 (cap:=len) jm iV (rest:=[]) (by simp) (fun x v h=>Ga hold (by simp) x v h) (fun h=>absurd (Af hr.mem _ h) (Nat.lt_irrefl _)) (Nat.le_of_eq hlen);rw[hlen]at this;exact this
  ·trivial
 ·trivial
def pX(s:List UInt8):List D:=s.map fun b=>.int .u8 b.toNat
def byteOf:D→UInt8
 | .int _ n=>UInt8.ofNat n.toNat
 |_=>0
def D.isByte:D→Bool
 | .int .u8 _=>true
 |_=>false
theorem D.Qx{d:D}(h:d.isByte=true):∃n,d=.int .u8 n:=by
 unfold D.isByte at h;split at h<;>simp_all
def convR(P:Program)(m:Mem)(k0:Nat)(src dst:TypeId)(x:AV):di:=
 match tk P dst,x with
 | .int k,.d (.int _ n)=>.val (tk P src≠.other) (.d (.int k (k.wrap n)))
 | .str,.d (.int _ n)=>.val (tk P src≠.other) (.d (.str (Utf8.encode n).data.toList))
 | .str,.d (.str s)=>.val (tk P src=.str) (.d (.str s))
 | .str,x=>match tk P src with
  | .slice e=>match srcRows m 1 x with
   |some (c,ys)=>.val (c∧tk P e=.int .u8∧fe P e=some 1∧∀d∈ys,d.isByte=true) (.d (.str (ys.map byteOf)))
   |none=>.no
  |_=>.no
 | .slice e,.d (.str s)=>match tk P src,tk P e,Mem.get m k0 with
  | .str,.int .u8,none=>.val True (.d (.list (pX s)))
  |_,_,_=>.no
 |_,_=>.no
theorem Bu{P:Program}{w:World}:∀(cs:List Value)(s0:ByteArray)(ns:List Int),cs=ns.map (Value.int .u8)→
 (forIn cs s0 (fun c s=>(match c with| .int .u8 n=>pure (ForInStep.yield (s.push (UInt8.ofNat n.toNat)))|_=>(do stuck "bytesToString: byte expected";pure (ForInStep.yield s)):Sem (ForInStep ByteArray)))).run P w=.ok ⟨(s0.data.toList++ns.map fun n=>UInt8.ofNat n.toNat).toArray⟩ w
 |[],s0,ns,h=>by
  have:ns=[]:=by simpa using h.symm
  subst this;simp
 |c::cs,s0,ns,h=>by
  cases ns with
  |nil=>simp at h
  |cons n ns=>
   simp at h;obtain⟨rfl,rfl⟩:=h;simp only[List.forIn_cons,Sem.run_bind,Sem.run_pure,Result.andThen_ok];rw[Bu (ns.map (Value.int .u8)) (s0.push (UInt8.ofNat n.toNat)) ns rfl];simp
theorem I5{P:Program}{w:World}{e:TypeId}{b:ByteArray}:∃(arr:Array Value)(fr:Nat×Nat)(w':World)(cap:Nat)(rest:List Value),b.size≤cap∧(Conv.stringToBytes e b).run P w=.ok (.slice (some ⟨w.heap.size,0,none⟩) b.size cap) w'∧
 arr.toList=(b.data.toList.map fun x=>Value.int .u8 x.toNat)++rest∧w'.heap[w.heap.size]?=some (.cells arr e fr)∧(∀k,k<w.heap.size→w'.heap[k]?=w.heap[k]?)∧w.heap.size≤w'.heap.size∧w'.os=w.os∧w'.tape=w.tape∧w'.output=w.output:=by
 obtain⟨cap,dg⟩:∃cap,cap=(Question.appendCap b.size 0 e).cut (w.tape w.drawn (.appendCap b.size 0 e)):=⟨_,rfl⟩;obtain⟨arr,gi⟩:∃arr:Array Value,arr=(b.data.map fun x=>Value.int .u8 x.toNat)++Array.replicate (cap-b.size) (.int .u8 0):=⟨_,rfl⟩;obtain⟨w1,oG⟩:∃w1,w1=w.drew.alloc (.cells arr e):=⟨_,rfl⟩;have iV:w1.heap[w.heap.size]?=some (.cells arr e (0,0)):=by
  have:=heap_alloc_new w.drew (.cells arr e);rw[←oG]at this;exact this
 have bn:w.heap.size<w1.heap.size:=(Array.getElem?_eq_some_iff.1 iV).1;have rH:w1.shape? w.heap.size=some (e,arr.size):=by simp[World.shape?,iV]
 refine⟨arr,(arr.size,arr.size+1),w1.freeze ⟨w.heap.size,arr.size,none⟩ 1,cap,List.replicate (cap-b.size) (.int .u8 0),?_,?_,?_,?_,?_,?_,?_,?_,?_⟩
 ·rw[dg];simp[Question.cut]
 ·have xu:(choose (.appendCap b.size 0 e)).run P w=.ok cap w.drew:=by
   rw[dg];rfl
  have rD:(newRow e arr).run P w.drew=.ok ⟨w.heap.size,0,none⟩ w1:=by rw[oG];rfl
  have Qi:(markStringish ⟨w.heap.size,0,none⟩).run P w1=.ok () (w1.freeze ⟨w.heap.size,arr.size,none⟩ 1):=by
   simp only[markStringish,shape,Sem.run_bind,Sem.run,rH,Result.andThen_ok,freeze]
  simp only[Conv.stringToBytes,Sem.run_bind,xu,Result.andThen_ok,←gi,rD,Qi,Sem.run_pure]
 ·rw[gi];simp
 ·simp[World.freeze,Array.getElem?_modify,iV]
 ·intro k hk;have h1:(w1.freeze ⟨w.heap.size,arr.size,none⟩ 1).heap[k]?=w1.heap[k]?:=by
   simp only[World.freeze,Nat.one_ne_zero,if_false,Array.getElem?_modify];rw[if_neg (by omega)]
  rw[h1,oG];exact RowKit.Below.heap_alloc w.drew _ k hk
 ·simp[World.freeze];omega
 ·simp[World.freeze,oG];rfl
 ·simp[World.freeze,oG]
 ·simp[World.freeze,oG];rfl
theorem NO(n:Int):byteOf (.int .u8 n)=UInt8.ofNat n.toNat:=rfl
theorem JE(P:Program)(S:St)(o:Oper)(src dst:TypeId)(x:Operand)(ho:o.op=.convert src dst x)(hx:(S.opd x).1=true):aH P S o (convR P S.mem (keyOf o) src dst (S.opd x).2):=by
 have bL:∀(a:Act)(w w':World)(v:Value),(convert src dst (a.eval x)).run P w=.ok v w'→(execOp a.eval o).run P w=.ok (.value v) w':=by
  intro a w w' v h;simp[execOp,ho,h]
 unfold convR;split
 ·rename_i k k' n hd bI;refine aH.pure fun hc φ G a w hr=>?_;have h1:=hr.opd x hx;rw[bI]at h1;obtain⟨td,hu⟩:=Ah hc;refine⟨.int k (k.wrap n),bL a w w _ ?_,.d _ _ (.int _ _)⟩;rw[jo h1];simp[convert,run_underlying hu,run_underlying (uj hd),Conv.intToInt]
 ·rename_i k n hd bI;refine aH.pure fun hc φ G a w hr=>?_;have h1:=hr.opd x hx;rw[bI]at h1;obtain⟨td,hu⟩:=Ah hc;refine⟨.string (Utf8.encode n),bL a w w _ ?_,.d _ _ (.str _ _ rfl)⟩;rw[jo h1];simp[convert,run_underlying hu,run_underlying (mI hd),Conv.intToString]
 ·rename_i s hd bI;refine aH.pure fun hc φ G a w hr=>?_;have h1:=hr.opd x hx;rw[bI]at h1;obtain⟨b,e1,rfl⟩:=rE h1;refine⟨.string b,bL a w w _ ?_,.d _ _ (.str _ _ rfl)⟩;rw[e1];simp[convert,run_underlying (mI hc),run_underlying (mI hd)]
 ·rename_i hd _ _;split
  ·rename_i e JF;split
   ·rename_i c ys mw;refine aH.pure ?_;rintro ⟨hc,nr,jl,dP⟩ φ G a w hr;replace dP:=fun d hd=>D.Qx (dP d hd);have bI:=hr.opd x hx;obtain⟨news,kP⟩:=FO (P:=P) hr.mem bI mw hc (fun d hd=>by obtain⟨n,rfl⟩:=dP d hd;rfl);have hlen:=kP.len w;have Gb:=kP.first w (fun _ _=>rfl);obtain⟨r1,r2,r3,r4⟩:=kP.rows
    --zC cells as numbers
    have JG:∃ns:List Int,news=ns.map (Value.int .u8)∧ys=ns.map (D.int .u8):=by
     refine⟨ys.map fun d=>(match d with| .int _ n=>n|_=>0),?_,?_⟩
     ·apply List.ext_getElem?;intro i;by_cases hi:i<ys.length
      ·obtain⟨v,hv,oH⟩:=r4 i ys[i] (by simp[hi]);obtain⟨n,hn⟩:=dP ys[i] (List.getElem_mem hi);rw[hn]at hv;cases hv;have:=oH 0 (.int .u8 n) rfl;simp only[Nat.mul_one,Nat.add_zero]at this;rw[this];simp[hi,hn]
      ·rw[List.getElem?_eq_none (by rw[r1];omega),List.getElem?_eq_none (by simp;omega)]
     ·apply List.ext_getElem?;intro i;by_cases hi:i<ys.length
      ·obtain⟨n,hn⟩:=dP ys[i] (List.getElem_mem hi);simp[hi,hn]
      ·rw[List.getElem?_eq_none (by omega),List.getElem?_eq_none (by simp;omega)]
    obtain⟨ns,rfl,rfl⟩:=JG;generalize bU:a.eval x=xv at hlen Gb bI;have hv:(∃ao m cap,xv=.slice ao m cap)∨(∃b,xv=.string b):=by
     cases xv<;>first|exact .inl ⟨_,_,_,rfl⟩|exact .inr ⟨_,rfl⟩|(simp[Builtin.lenOf,stuck]at hlen)
    refine⟨.string ⟨(ns.map fun n=>UInt8.ofNat n.toNat).toArray⟩,bL a w w _ ?_,.d _ _ (.str _ _ ?_)⟩
    ·rw[bU];rcases hv with ⟨ao,m,cap,rfl⟩|⟨b,rfl⟩
     ·simp only[Builtin.lenOf,Sem.run_pure,Result.ok.injEq,and_true]at hlen;subst hlen;cases ao with
      |none=>
       have fg:ns=[]:=by
        simp only[Builtin.firstCells,Sem.run_pure,Result.ok.injEq,and_true]at Gb;have:=congrArg Array.size Gb;simp at this;exact List.eq_nil_of_length_eq_zero this.symm
       subst fg;simp[convert,run_underlying (fG JF),run_underlying (mI hd),run_underlying (uj nr),Conv.bytesToString];rfl
      |some ad=>
       simp only[Builtin.firstCells,Nat.mul_one]at Gb;have hb:=Bu (P:=P) (w:=w) (ns.map (Value.int .u8)) ByteArray.empty ns rfl;simp only[convert,run_underlying (fG JF),run_underlying (mI hd),run_underlying (uj nr),Sem.run_bind,Result.andThen_ok,Conv.bytesToString,Gb];rw[←Array.forIn_toList];simp only[Sem.run_pure];refine Eq.trans (congrArg (fun r=>Result.andThen r fun a w'=>Result.ok (Value.string a) w') hb) ?_;rfl
     ·exfalso;have JG:∀s,(S.opd x).2=.d (.str s)→False:=by assumption
      generalize (S.opd x).2=y at mw bI JG;unfold srcRows at mw;split at mw
      ·cases bI with|d _ _ h=>cases h
      ·exact JG _ rfl
      ·cases bI
      ·cases bI
      ·split at mw
       ·rename_i key v' cJ rows hg;simp only[Option.some.injEq,Prod.mk.injEq]at mw;obtain⟨rfl,_⟩:=mw;obtain⟨_,_,L,hL,aA,_⟩:=hr.mem.get hg;cases bI with
        |vec _ _ _ _ _ L' bO _ h _=>
         rw[hL]at bO;cases bO;obtain⟨_,_,h2,_⟩:=h (by rw[←(of_decide_eq_true hc).1];exact aA.symm);cases h2
       ·cases mw
      ·cases mw
    ·simp[NO,Function.comp_def]
   ·trivial
  ·trivial
 ·rename_i e s hd bI;split
  ·rename_i JF nr hg;intro _ φ G a w hr;have h1:=hr.opd x hx;rw[bI]at h1;obtain⟨b,e1,rfl⟩:=rE h1;have oJ:b.size=b.data.toList.length:=by rw[Array.length_toList];rfl
   obtain⟨arr,fr,w',cap,rest,dg,xg,gi,hh,hold,bQ,pO,Bo,fa⟩:=I5 (P:=P) (w:=w) (e:=e) (b:=b);have jm:cf w (Fo G φ S.mem) 1 (pX b.data.toList) (b.data.toList.map fun x=>Value.int .u8 x.toNat):=by
    refine⟨by simp[pX],?_,?_,?_⟩
    ·intro v hv;simp only[List.mem_map]at hv;obtain⟨y,_,rfl⟩:=hv;rfl
    ·intro d hd;simp only[pX,List.mem_map]at hd;obtain⟨y,_,rfl⟩:=hd;rfl
    ·intro i d hd;simp only[pX,List.getElem?_map,Option.map_eq_some_iff]at hd;obtain⟨y,hy,rfl⟩:=hd;refine⟨.int .u8 y.toNat,.int _ _,fun j c hj=>?_⟩;cases j with
     |zero=>simp only[Value.cells]at hj;simp at hj;subst hj;simp only[List.getElem?_map,Nat.mul_one,Nat.add_zero,hy];rfl
     |succ j=>simp[Value.cells]at hj
   have hl:=F9 (cap:=cap) jm hh gi (fun x v h=>Ga hold bQ x v h) (fun h=>absurd (Af hr.mem _ h) (Nat.lt_irrefl _)) (by simp[pX];exact dg);refine⟨_,w',.inl (bL a w w' _ ?_),.d _ _ hl,hold,bQ,pO,Bo,fa⟩;have hlen:(pX b.data.toList).length=b.size:=by rw[oJ];simp[pX]
   rw[e1,hlen];simp only[convert,run_underlying (mI JF),run_underlying (fG hd),run_underlying (uj nr),Sem.run_bind,Result.andThen_ok];exact xg
  ·trivial
 ·trivial
def okAll(S:St):List Operand→Bool
 |[]=>true
 |x::r=>(S.opd x).1&&okAll S r
theorem sB{S:St}:∀{l:List Operand},okAll S l=true→∀x∈l,(S.opd x).1=true
 |[],_,x,hx=>by simp at hx
 |y::r,h,x,hx=>by
  simp only[okAll,Bool.and_eq_true]at h;rcases List.mem_cons.1 hx with rfl|hx
  ·exact h.1
  ·exact sB h.2 x hx
def opOk(S:St)(o:Oper):Bool:=
 match o.op with
 | .pick _ _ _=>true
 |op=>okAll S op.operands.toList
def moveR(P:Program)(m:Mem)(k0:Nat)(t:TypeId)(x:AV):di:=
 match x with
 | .lit (.slice none 0 0)=>match Mem.get m k0 with
  |some ⟨_,v,_⟩=>match tk P t with
   | .slice e=>match fe P e with
    |some sz=>.cW true (.vec k0 (v+1) 0 0) ⟨k0,v+1,.vec sz []⟩
    |none=>.val true x
   |_=>.val true x
  |none=>.val true x
 |x=>.val true x
theorem Gc(P:Program)(S:St)(o:Oper)(x:Operand)(ho:o.op=.move x∨o.op=.assign x)(hx:(S.opd x).1=true):aH P S o (moveR P S.mem (keyOf o) o.type (S.opd x).2):=by
 have plain:aH P S o (.val true (S.opd x).2):=by
  have:=Zj P S o x ho hx;simpa using this
 unfold moveR;split
 ·rename_i bI;split
  ·rename_i key v cont hg;split
   ·split
    ·rename_i sz hs;intro _ φ G a w hr;obtain⟨hm,hk,L,hL,aA,b7⟩:=hr.mem.get hg;simp only at hk aA;subst hk;have hv:=hr.opd x hx;rw[bI]at hv;generalize bU:a.eval x=u at hv;cases hv;obtain⟨φ',dq,aN,eX,en⟩:=hr.mem.cW (e':=⟨keyOf o,v+1,.vec sz []⟩) hm hL rfl (L':=⟨v+1,0,sz,0,0,[]⟩) (by simp only;omega) (fun hh=>by simp only at hh;omega) rfl
      (w':=w) (fun _ _ _=>rfl) (Nat.le_refl _) (fun _ ho=>absurd ho.1 (by simp)) rfl rfl rfl (fun φ' jh kX=>
       ⟨rfl,by simp,by simp,fun hc=>by simp at hc⟩)
     refine⟨.slice none 0 0,w,φ',.inl ?_,?_,dq,aN,en⟩
     ·rcases ho with ho|ho<;>simp[execOp,ho,bU]
     ·exact .vec _ (v+1) 0 _ _ _ eX (Nat.le_refl _) (fun _=>⟨_,_,rfl,by simp,fun h=>by omega⟩) rfl
    ·exact plain
   ·exact plain
  ·exact plain
 ·exact plain
def isNilV:Value→Bool
 | .slice none 0 0=>true
 | .pointer none=>true
 | .nilIface=>true
 |_=>false
def binOpR(P:Program)(S:St)(op:BinOp)(t:TypeId)(x y:Operand):di:=
 match y with
 | .const v=>match isNilV v,op with
  |true,.eql=>nilR P S.mem false t (S.opd x).2 v
  |true,.neq=>nilR P S.mem true t (S.opd x).2 v
  |_,_=>binR P op t (S.opd x).2 (S.opd (.const v)).2
 |y=>binR P op t (S.opd x).2 (S.opd y).2
theorem Qy(P:Program)(S:St)(o:Oper)(bop:BinOp)(t t':TypeId)(x y:Operand)(ho:o.op=.binOp bop t x y t')(hx:(S.opd x).1=true)(hy:(S.opd y).1=true):aH P S o (binOpR P S bop t x y):=by
 unfold binOpR;split
 ·split
  ·exact JD P S o false t t' x _ (by simpa using ho) hx
  ·exact JD P S o true t t' x _ (by simpa using ho) hx
  ·exact JC P S o _ t t' x _ ho hx hy
 ·exact JC P S o bop t t' x y ho hx hy
theorem Gd{w:World}{F F':Nat→Prop}{sz:Nat}{ds:List D}{cs:List Value}{b off cap:Nat}(hr:cf w F sz ds cs)(hc:∀(j:Nat) v,cs[j]?=some v→w.cell? ⟨b,off+j,none⟩=some v)
 (hb:b<w.heap.size) (hF:∀b,F' b→F b) (mj:¬F' b) (dg:ds.length≤cap):aK w F' (.list ds) (.slice (some ⟨b,off,none⟩) ds.length cap):=by
 obtain⟨h1,h2,h3,h4⟩:=hr;refine .list ds b off cap sz (fun i=>if h:i<ds.length then Classical.choose (h4 i ds[i] (by simp[h]))else undef) dg hb mj h3 (fun i d hd=>?_) (fun i j c hi hj=>?_)
 ·have hi:=(List.getElem?_eq_some_iff.1 hd).1;have:=Classical.choose_spec (h4 i ds[i] (by simp[hi]));simp only[hi,dif_pos];have e:ds[i]=d:=(List.getElem?_eq_some_iff.1 hd).2;rw[←e];exact this.1.mono (fun _ _ _=>rfl) (Nat.le_refl _) (fun b _=>hF b)
 ·have:=Classical.choose_spec (h4 i ds[i] (by simp[hi]));simp only[hi,dif_pos]at hj;have h5:=hc _ _ (this.2 j c hj);rw[←Nat.add_assoc]at h5;exact h5
theorem Aj{φ w F F'}{k aj off len sz:Nat}{rows:List D}{L:Loc}{v:Value}(hv:aB φ w F (.vec k aj off len) v)(hL:φ k=some L)(aA:L.aj=aj)(hc:dO φ w F L (.vec sz rows))(hle:off+len≤rows.length)
 (hF:∀b,F' b→F b) (mj:0<L.cap→¬F' L.du):aK w F' (.list ((rows.drop off).take len)) v:=by
 have hlen:((rows.drop off).take len).length=len:=by simp;omega
 cases hv with
 |vec _ _ _ _ _ L' bO _ h _=>
  rw[hL]at bO;cases bO;obtain⟨ao,cap,rfl,fU,dz⟩:=h aA.symm;clear h;by_cases cm:len=0
  ·subst cm;simp only[List.take_zero];exact .nil _ _ (fun hn=>by
    subst hn;rcases Nat.eq_zero_or_pos cap with h0|h0
    ·exact h0
    ·obtain⟨h1,_⟩:=dz h0;cases h1)
  ·obtain⟨rfl,mG⟩:=dz (by omega);obtain⟨arr,elem,hh,tE,rA,hr⟩:=mF hc (by omega);have iN:=(hr.drop off).take len (by simp;omega);have:=Gd (F':=F') (b:=L.du) (off:=L.base+off*L.sz) (cap:=cap) iN (fun j u hj=>by
    rw[gv hh,hc.1];rw[List.getElem?_take]at hj;split at hj
    ·rw[List.getElem?_drop,List.getElem?_take]at hj;split at hj
     ·rw[List.getElem?_drop]at hj;rw[Nat.add_assoc];simpa using hj
     ·cases hj
    ·cases hj) hh.lt hF (mj (by omega)) (by omega)
   rw[hlen]at this;exact this
theorem Mem.set_set{e e':cH}(hk:e'.key=e.key):∀m:Mem,Mem.set (Mem.set m e) e'=Mem.set m e'
 |[]=>rfl
 |x::r=>by
  simp only[Mem.set];by_cases h:x.key=e.key
  ·rw[if_pos h,if_pos (by rw[hk];exact h)];simp only[Mem.set];rw[if_pos hk.symm]
  ·rw[if_neg h,if_neg (by rw[hk];exact h)];simp only[Mem.set];rw[if_neg (by rw[hk];exact h),Mem.set_set hk r]
theorem aaU{φ:bM}{G m w}(h:bj φ G m w){k v sz n:Nat}{rows:List D}(hg:Mem.get m k=some ⟨k,v,.vec sz rows⟩){x:Value}(hx:aB φ w (Fo G φ m) (.vec k v 0 n) x)(hn:n≤rows.length):
 ∃φ',bj φ' G (Mem.set m ⟨k,v+1,.dead⟩) w∧aP φ m w φ' (Mem.set m ⟨k,v+1,.dead⟩) w∧(∀j,j≠k→φ' j=φ j)∧aK w (Fo G φ' (Mem.set m ⟨k,v+1,.dead⟩)) (.list (rows.take n)) x:=by
 obtain⟨hm,_,L,hL,aA,b7⟩:=h.get hg;obtain⟨φ',dq,aN,eX,en⟩:=h.cW (e:=⟨k,v,.vec sz rows⟩) (e':=⟨k,v+1,.dead⟩) hm hL rfl (L':={L with aj:=v+1}) (by simp only at aA⊢;omega) (fun hh=>by simp only at aA hh;omega) rfl
  (w':=w) (fun _ _ _=>rfl) (Nat.le_refl _) (fun _ ho=>ho.elim) rfl rfl rfl (fun _ _ _=>trivial)
 refine⟨φ',dq,aN,en,?_⟩;have fw:∀b,iq φ' (Mem.set m ⟨k,v+1,.dead⟩) b→iq φ m b∧∀(_:0<L.cap),b≠L.du:=by
  rintro b ⟨y,hy,Ly,dy,gK⟩;rcases (Mem.mem_set h.nodup).1 hy with ⟨rfl,_⟩|⟨zy,bE⟩
  ·exact gK.elim
  ·simp only at bE;rw[en _ bE]at dy;refine⟨⟨y,zy,Ly,dy,gK⟩,fun hc heq=>bE (h.apart y zy _ hm Ly L dy hL ⟨b,gK,hc,heq.symm⟩)⟩
 have:=Aj hx hL aA b7 (by omega) (F':=Fo G φ' (Mem.set m ⟨k,v+1,.dead⟩)) (fun b=>Or.imp id (fun hb=>(fw b hb).1)) (fun hc=>by
  rintro (hG|ho)
  ·exact h.jY _ ⟨_,hm,L,hL,hc,rfl⟩ hG
  ·exact (fw _ ho).2 hc rfl)
 simpa using this
def fzRes(m:Mem)(b:Bool)(k0:Nat):di→di
 | .cW c (.vec k v 0 n) ⟨k',v',.vec sz rows⟩=>if b=true∧k≠k0∧k'=k∧v'=v∧n≤rows.length∧(Mem.get m k).isSome=true then .cW c (.d (.list (rows.take n))) ⟨k,v+1,.dead⟩else .cW c (.vec k v 0 n) ⟨k',v',.vec sz rows⟩
 |r=>r
theorem T1{P:Program}{S:St}{o:Oper}{b:Bool}{k0:Nat}{r:di}(h:aH P S o r):aH P S o (fzRes S.mem b k0 r):=by
 unfold fzRes;split
 ·rename_i c k v n k' v' sz rows;split
  ·rename_i hh;obtain⟨_,_,rfl,rfl,hn,hs⟩:=hh;intro hc φ G a w hr;obtain⟨x,w',φ',h1,h2,h3,h4,h5⟩:=h hc φ G a w hr;have cL:k'∈S.mem.map (·.key):=by
    cases hg:Mem.get S.mem k' with
    |none=>rw[hg]at hs;cases hs
    |some e=>
     obtain⟨h6,h7⟩:=Mem.get_mem hg;rw[←h7];exact List.mem_map_of_mem h6
   obtain⟨φ2,q1,q2,q3,q4⟩:=aaU h3 (Mem.nL (x:=⟨k',v',.vec sz rows⟩) cL) h2 hn;rw[Mem.set_set (e:=⟨k',v',.vec sz rows⟩) (e':=⟨k',v'+1,.dead⟩) rfl]at q1 q2 q4;exact⟨x,w',φ2,h1,.d _ _ q4,q1,h4.trans q2,fun j hj=>by rw[q3 j hj];exact h5 j hj⟩
  ·exact h
 ·exact h
def capR(P:Program)(t:TypeId):AV→di
 | .lit (.slice none 0 0)=>match tk P t with
  | .slice _=>.val True (.d (.int .i64 0))
  |_=>.no
 |_=>.no
theorem aaV(P:Program)(S:St)(o:Oper)(x:Operand)(t:TypeId)(ho:o.op=.call {callee:=.builtin .cap,args:=#[x],argTypes:=#[t]})(hx:(S.opd x).1=true):aH P S o (capR P t (S.opd x).2):=by
 have bL:∀(a:Act)(w:World)(v:Value),(Builtin.cap_ #[t] o.type #[a.eval x]).run P w=.ok v w→(execOp a.eval o).run P w=.ok (.value v) w:=by
  intro a w v h;simp[execOp,ho,resolve,invoke,builtin,h]
 unfold capR;split
 ·rename_i bI;split
  ·rename_i e ga;refine aH.pure fun _ φ G a w hr=>?_;have h1:=hr.opd x hx;rw[bI]at h1;generalize bY:a.eval x=av at h1;cases h1 with|lit _ h=>
   refine⟨_,bL a w (.int .i64 0) ?_,.d _ _ (.int _ _)⟩;rw[bY];simp[Builtin.cap_,run_underlying (fG ga),goInt]
  ·trivial
 ·trivial
def builtinR(P:Program)(S:St)(o:Oper)(b:Builtin)(args:List Operand)(ts:List TypeId):di:=
 match b,args,ts with
 | .len,[x],[t]=>lenRm P S.mem t (S.opd x).2
 | .append,[s,x],[t,u]=>fzRes S.mem (Mem.get S.mem (keyOf o)).isSome (keyOf o) (appR P S.mem (keyOf o) t u (S.opd s).2 (S.opd x).2)
 | .copy,[s,x],[t,_]=>copyR P S.mem t (S.opd s).2 (S.opd x).2
 | .max,args,_=>maxR true (args.map fun x=>(S.opd x).2)
 | .min,args,_=>maxR false (args.map fun x=>(S.opd x).2)
 | .cap,[x],[t]=>capR P t (S.opd x).2
 |_,_,_=>.no
def zeroOf:TK→Option D
 | .int k=>some (.int k 0)
 | .bool=>some (.bool false)
 |_=>none
theorem I6{t:TK}{z:D}(h:zeroOf t=some z):z.size=1∧∀(w:World)(F:Nat→Prop),∃v,aK w F z v∧v.cells=#[v]∧∀u,aK w F z u→u=v:=by
 cases t with
 |int k=>cases h;exact⟨rfl,fun w F=>⟨_,.int k 0,rfl,fun u hu=>by cases hu;rfl⟩⟩
 |bool=>cases h;exact⟨rfl,fun w F=>⟨_,.bool false,rfl,fun u hu=>by cases hu;rfl⟩⟩
 |_=>cases h
def isZ:D→AV→Bool
 | .int k n,.d (.int k' n')=>k == k'&&n == n'
 | .bool b,.d (.bool b')=>b == b'
 |_,_=>false
theorem aaW{z:D}{c:AV}(h:isZ z c=true):c=.d z:=by
 unfold isZ at h;split at h<;>simp_all
def arrR(m:Mem)(k n:Nat)(z:D)(zs:List AV):di:=
 match Mem.get m k with
 |some ⟨_,v,_⟩=>.cW (zs.length=n∧zs.all (isZ z)=true) (.cD k (v+1) 0 0) ⟨k,v+1,.vec 1 (List.replicate n z)⟩
 |none=>.no
def allocR(P:Program)(m:Mem)(k:Nat)(t:TypeId):di:=
 match sw P t with
 |some zs=>match tk P t with
  | .arr n e=>match zeroOf (tk P e)with
   |some z=>arrR m k n z zs
   |none=>boxR m k true zs
  |_=>boxR m k true zs
 |none=>.no
theorem aaX(P:Program)(S:St)(o:Oper)(t:TypeId)(ho:o.op=.alloc t)(n:Nat)(zd:D)(tz:TK)(Wh:zeroOf tz=some zd)(zs:List AV)(hz:sw P t=some zs):aH P S o (arrR S.mem (keyOf o) n zd zs):=by
 obtain⟨ND,xf⟩:=I6 Wh;unfold arrR;split
 ·rename_i key v cont hg;refine aH.qm ?_;rintro ⟨hn,dP⟩ φ G a w hr;obtain⟨z,bL,bQ,h1,eh⟩:=nk hz w;obtain⟨hm,hk,L,hL,aA,b7⟩:=hr.mem.get hg;simp only at hk aA;subst hk;have hzv:∀(w:World)(F:Nat→Prop)(i:Nat) u,z.cells[i]?=some u→aK w F zd u:=by
   intro w' F i u hu;have hi:i<zs.length:=by
    have:=(Array.getElem?_eq_some_iff.1 hu).1;omega
   have h3:=eh φ w (fun _=>False) i zs[i] u (by simp[hi]) hu;rw[aaW (List.all_eq_true.1 dP _ (List.getElem_mem hi))]at h3;cases h3 with
   |d _ _ h4=>
    obtain⟨v1,q1,_,q2⟩:=xf w (fun _=>False);obtain⟨v2,q3,_,q4⟩:=xf w' F;cases tz with
    |int k=>cases Wh;cases h4;exact .int k 0
    |bool=>cases Wh;cases h4;exact .bool false
    |_=>cases Wh
  obtain⟨φ',dq,aN,eX,en⟩:=hr.mem.fresh (e:=⟨keyOf o,v,cont⟩) hm hL aA w rfl rfl rfl rfl z.cells t 1 n (.vec 1 (List.replicate n zd)) (fun _ hb=>hb.2) (fun φ' hle bY iU iV=>by
   refine⟨rfl,by simp,fun d hd=>by rw[(List.mem_replicate.1 hd).2];exact ND,fun _=>⟨z.cells,t,eL.new iV,by simp[bQ,hn],h1,fun i d hd=>?_⟩⟩;obtain⟨hi,rfl⟩:=List.getElem?_eq_some_iff.1 hd;simp at hi;have sA:i<z.cells.size:=by omega
   have h5:=fun w F=>hzv w F i z.cells[i] (by simp[sA]);have h6:=(h5 w (fun _=>False)).size;rw[ND]at h6;refine⟨z.cells[i],by simp;exact h5 _ _,fun j c hj=>?_⟩;have Qz:j=0:=by
    have:=(Array.getElem?_eq_some_iff.1 hj).1;omega
   subst Qz;rw[dN (h1 _ (by simp))]at hj;simp at hj;subst hj;simp[sA])
  refine⟨.pointer (some ⟨w.heap.size,0,none⟩),_,φ',.inl ?_,?_,dq,aN,en⟩
  ·simp[execOp,ho,Instr.alloc,newVar,hU,bL]
  ·exact .cD _ (v+1) 0 0 _ _ eX (Nat.le_refl _) (fun _=>by simp) rfl
 ·trivial
theorem QA(P:Program)(S:St)(o:Oper)(t:TypeId)(ho:o.op=.alloc t):aH P S o (allocR P S.mem (keyOf o) t):=by
 unfold allocR;split
 ·rename_i zs hz;split
  ·split
   ·rename_i xf;exact aaX P S o t ho _ _ _ xf zs hz
   ·exact FM P S o t ho zs hz
  ·exact FM P S o t ho zs hz
 ·trivial
def convM(P:Program)(m:Mem)(k0:Nat)(src dst:TypeId)(x:AV):di:=
 match x with
 | .vec k aj off len=>match tk P dst with
  | .slice e=>match decide (src=dst),tk P e,Mem.get m k with
   |true,.int .u8,some ⟨_,v,.vec sz rows⟩=>.cW (decide (v=aj∧0<len)) (.vec k aj off len) ⟨k,aj,.vec sz rows⟩
   |_,_,_=>.no
  |_=>convR P m k0 src dst (.vec k aj off len)
 |x=>convR P m k0 src dst x
theorem T4(P:Program)(S:St)(o:Oper)(src dst:TypeId)(x:Operand)(ho:o.op=.convert src dst x)(hx:(S.opd x).1=true):aH P S o (convM P S.mem (keyOf o) src dst (S.opd x).2):=by
 unfold convM;split
 ·rename_i k aj off len bI;split
  ·rename_i e hd;split
   ·rename_i key v sz rows hsd nr hg;refine aH.qm ?_;rintro ⟨rfl,hlen⟩ φ G a w hr;have hsd:src=dst:=of_decide_eq_true hsd;subst hsd;obtain⟨hm,hk,L,hL,aA,b7⟩:=hr.mem.get hg;simp only at hk aA;subst hk;have hv:=hr.opd x hx;rw[bI]at hv;have DP:=hv;generalize bU:a.eval x=xv at hv DP;cases hv with
    |vec _ _ _ _ _ L' bO _ h QB=>
     rw[hL]at bO;cases bO;obtain⟨ao,cap,rfl,fU,dz⟩:=h aA.symm;obtain⟨rfl,dg⟩:=dz (by omega);have gO:0<L.cap:=by omega
     obtain⟨zD,aO,lC,iT⟩:=b7;obtain⟨arr,elem,⟨fr,hh,DQ⟩,tE,rA,eh⟩:=iT gO;obtain⟨w',qz⟩:∃w',w'=w.freeze ⟨L.du,arr.size,none⟩ 1:=⟨_,rfl⟩;have iV:eL w' L.du arr elem:=by
      obtain⟨lo,hi⟩:=fr;rw[qz];by_cases he:lo=hi
      ·refine⟨(arr.size,arr.size+1),?_,.inr (Nat.le_refl _)⟩;simp[World.freeze,Array.getElem?_modify,hh,he]
      ·refine⟨(min lo arr.size,max hi (arr.size+1)),?_,?_⟩
       ·simp[World.freeze,Array.getElem?_modify,hh,he]
       ·right;rcases DQ with h|h
        ·cases h;exact absurd rfl he
        ·simp only at h⊢;omega
     have hold:∀b,b≠L.du→w'.heap[b]?=w.heap[b]?:=by
      intro b hb;rw[qz];simp only[World.freeze,Nat.one_ne_zero,if_false,Array.getElem?_modify];rw[if_neg (fun e=>hb e.symm)]
     have NB:w'.heap.size=w.heap.size:=by rw[qz];simp[World.freeze]
     have pO:w'.os=w.os:=by rw[qz];simp[World.freeze]
     have Bo:w'.tape=w.tape:=by rw[qz];simp[World.freeze]
     have hou:w'.output=w.output:=by rw[qz];simp[World.freeze]
     have cL:Fo G φ S.mem L.du:=.inr ⟨_,hm,L,hL,gO,rfl⟩;obtain⟨φ',dq,aN,eX,en⟩:=hr.mem.cW (e:=⟨key,v,.vec sz rows⟩) (e':=⟨key,v,.vec sz rows⟩) hm hL rfl (L':=L) (Nat.le_refl _) (fun _=>rfl) aA
      (w':=w') (fun b _ hn=>hold b (fun he=>hn ⟨gO,he.symm⟩)) (by omega) (fun _ ho=>.inl ho) pO Bo hou (fun φ' jh kX=>by
       have hF:∀b,Fo G φ' (Mem.set S.mem ⟨key,v,.vec sz rows⟩) b→Fo G φ S.mem b:=by
        rintro b (hG|⟨y,hy,Ly,dy,gK⟩)
        ·exact .inl hG
        ·right;rcases (Mem.mem_set hr.mem.nodup).1 hy with ⟨rfl,_⟩|⟨zy,bE⟩
         ·rw[jh]at dy;simp at dy;subst dy;exact⟨_,hm,L,hL,gK⟩
         ·simp only at bE;rw[jh]at dy;simp[bE]at dy;exact⟨y,zy,Ly,dy,gK⟩
       exact⟨zD,aO,lC,fun _=>⟨arr,elem,iV,tE,rA,fun i d hd=>let ⟨u,hu,hj⟩:=eh i d hd
        ⟨u,hu.mono (fun b _ hn=>hold b (fun he=>hn (he▸cL))) (by omega) (fun b _=>hF b),hj⟩⟩⟩)
     refine⟨.slice (some ⟨L.du,L.base+off*L.sz,none⟩) len cap,w',φ',.inl ?_,.vec key v off len _ L eX (Nat.le_of_eq aA.symm) (fun _=>⟨_,_,rfl,fU,dz⟩) QB,dq,aN,en⟩;have rH:w.shape? L.du=some (elem,arr.size):=by simp[World.shape?,hh]
     have Qi:(markStringish ⟨L.du,L.base+off*L.sz,none⟩).run P w=.ok () w':=by
      simp only[markStringish,shape,Sem.run_bind,Sem.run,rH,Result.andThen_ok,freeze,qz]
     simp[execOp,ho,bU,convert,run_underlying (fG hd),run_underlying (uj nr),Sem.run_bind,Qi]
   ·trivial
  ·rw[←bI];exact JE P S o src dst x ho hx
 ·exact JE P S o src dst x ho hx
def Ge(P:Program)(s:TypeId)(f:Nat):Option TypeId:=
 match P.underlying s with
 |some (.struct fs)=>match fs[f]? with
  |some fl=>some fl.type
  |none=>none
 |_=>none
def fieldVR(P:Program)(s:TypeId)(x:AV)(f:Nat):di:=
 match x with
 | .d (.agg cs)=>match vd P s f,Ge P s f with
  |some off,some e=>match (tk P e).agg,fe P e with
   |false,some 1=>.val (off<cs.length∧tk P e≠.other) (.d (D.at cs off))
   |true,some sz=>.val (off+sz≤cs.length) (.d (.agg ((cs.drop off).take sz)))
   |_,_=>.no
  |_,_=>.no
 | .agg cs=>match vd P s f,Ge P s f with
  |some off,some e=>match (tk P e).agg,fe P e,cs[off]? with
   |false,some 1,some c=>.val (tk P e≠.other) c
   |_,_,_=>.no
  |_,_=>.no
 |_=>.no
theorem DR{P:Program}{s:TypeId}{f off:Nat}{e:TypeId}(h:vd P s f=some off)(he:Ge P s f=some e):∃fs fl,P.underlying s=some (.struct fs)∧fs[f]?=some fl∧fl.offset=off∧fl.type=e:=by
 unfold vd at h;unfold Ge at he;split at h
 ·rename_i fs pV;rw[pV]at he;simp only at he;split at h
  ·rename_i fl iC;rw[iC]at he;cases he;split at h
   ·split at h
    ·cases h
    ·cases h;exact⟨fs,fl,pV,iC,rfl,rfl⟩
   ·cases h
  ·cases h
 ·cases h
theorem QC(P:Program)(S:St)(o:Oper)(s:TypeId)(x:Operand)(f:Nat)(ho:o.op=.field s x f)(hx:(S.opd x).1=true):aH P S o (fieldVR P s (S.opd x).2 f):=by
 unfold fieldVR;split
 ·rename_i cs bI;split
  ·rename_i off e F0 mm;obtain⟨fs,fl,pV,iC,rfl,rfl⟩:=DR F0 mm;split
   ·rename_i pW hs;refine aH.pure ?_;rintro ⟨hl,bE⟩ φ G a w hr;have h1:=hr.opd x hx;rw[bI]at h1;generalize bY:a.eval x=av at h1;cases h1 with|d _ _ h1=>
    cases h1 with|agg _ xa DK wC oC=>
    have xl:fl.offset<xa.size:=by omega
    refine⟨xa[fl.offset],?_,.d _ _ (oC fl.offset _ _ (ji (by omega)) (by simp[xl]))⟩;have hp:=rG (P:=P) (w:=w) (t:=fl.type) (cs:=xa) (off:=fl.offset) pW bE (v:=xa[fl.offset]) (by simp[xl]);simp[execOp,ho,bY,Instr.field,run_underlying pV,iC,asAgg,hp]
   ·rename_i sz pW hs;refine aH.pure ?_;rintro hle φ G a w hr;have h1:=hr.opd x hx;rw[bI]at h1;generalize bY:a.eval x=av at h1;cases h1 with|d _ _ h1=>
    have qA:=h1;cases h1 with|agg _ xa DK wC oC=>
    refine⟨_,?_,.d _ _ (wD qA fl.offset sz hle)⟩;have hp:=DM (P:=P) (w:=w) (t:=fl.type) (cs:=xa) (off:=fl.offset) pW hs;simp[execOp,ho,bY,Instr.field,run_underlying pV,iC,asAgg,hp]
   ·trivial
  ·trivial
 ·rename_i cs bI;split
  ·rename_i off e F0 mm;obtain⟨fs,fl,pV,iC,rfl,rfl⟩:=DR F0 mm;split
   ·rename_i c pW hs hc;refine aH.pure ?_;rintro bE φ G a w hr;have h1:=hr.opd x hx;rw[bI]at h1;generalize bY:a.eval x=av at h1;cases h1 with|agg _ xa DK h1x oC=>
    have xl:fl.offset<xa.size:=by have:=(List.getElem?_eq_some_iff.1 hc).1;omega
    refine⟨xa[fl.offset],?_,oC fl.offset c _ hc (by simp[xl])⟩;have hp:=rG (P:=P) (w:=w) (t:=fl.type) (cs:=xa) (off:=fl.offset) pW bE (v:=xa[fl.offset]) (by simp[xl]);simp[execOp,ho,bY,Instr.field,run_underlying pV,iC,asAgg,hp]
   ·trivial
  ·trivial
 ·trivial
def assertR(P:Program)(x:AV)(asserted:TypeId)(ok:Bool):di:=
 match x with
 | .gJ t d=>match decide (t=asserted),ok with
  |true,true=>.val (tk P asserted≠.other∧tk P asserted≠.iface) (.aU [.d d,.d (.bool true)])
  |true,false=>.val (tk P asserted≠.other∧tk P asserted≠.iface) (.d d)
  |_,_=>.no
 |_=>.no
theorem aaZ{P:Program}{t:TypeId}(h:tk P t≠.other)(h2:tk P t≠.iface):∃d,P.underlying t=some d∧∀ms,d≠.interface ms:=by
 unfold tk at h h2;cases hu:P.underlying t with
 |none=>rw[hu]at h;exact absurd rfl h
 |some d=>
  refine⟨d,rfl,fun ms hd=>?_⟩;subst hd;rw[hu]at h2;exact h2 rfl
theorem Bv{P:Program}{w:World}{t afG asserted:TypeId}{v:Value}{ok:Bool}(h:tk P asserted≠.other)(h2:tk P asserted≠.iface)(ht:t=asserted):
 (Instr.typeAssert (.iface t v) afG asserted ok).run P w=.ok (if ok then .tuple #[v,.bool true]else v) w:=by
 obtain⟨d,hd,hn⟩:=aaZ h h2;subst ht;simp only[Instr.typeAssert,Sem.run_bind,run_underlying hd,Result.andThen_ok];cases d with
 |interface ms=>exact absurd rfl (hn ms)
 |_=>simp
theorem QD(P:Program)(S:St)(o:Oper)(x:Operand)(xt asserted:TypeId)(ok:Bool)(ho:o.op=.typeAssert x xt asserted ok)(hx:(S.opd x).1=true):aH P S o (assertR P (S.opd x).2 asserted ok):=by
 unfold assertR;split
 ·rename_i t d bI;split
  ·rename_i ht;have ht:t=asserted:=by simpa using ht
   refine aH.pure ?_;rintro ⟨h1,h2⟩ φ G a w hr;have rI:=hr.opd x hx;rw[bI]at rI;generalize bY:a.eval x=av at rI;cases rI with|gJ _ _ v hd=>
   refine⟨.tuple #[v,.bool true],by simp[execOp,ho,bY,Bv h1 h2 ht],.aU _ _ rfl fun i c u hc hu=>?_⟩;match i,hc,hu with
   |0,hc,hu=>simp at hc hu;subst hc hu;exact .d _ _ hd
   |1,hc,hu=>simp at hc hu;subst hc hu;exact .d _ _ (.bool _)
   |i+2,hc,hu=>simp at hc
  ·rename_i ht;have ht:t=asserted:=by simpa using ht
   refine aH.pure ?_;rintro ⟨h1,h2⟩ φ G a w hr;have rI:=hr.opd x hx;rw[bI]at rI;generalize bY:a.eval x=av at rI;cases rI with|gJ _ _ v hd=>
   exact⟨v,by simp[execOp,ho,bY,Bv h1 h2 ht],.d _ _ hd⟩
  ·trivial
 ·trivial
def stepv(P:Program)(S:St)(o:Oper):di:=
 match o.op with
 | .move x=>moveR P S.mem (keyOf o) o.type (S.opd x).2
 | .assign x=>moveR P S.mem (keyOf o) o.type (S.opd x).2
 | .pick c a b=>pickR (S.opd c) (S.opd a) (S.opd b)
 | .alloc t=>allocR P S.mem (keyOf o) t
 | .box _ x=>boxR S.mem (keyOf o) (S.opd x).2.solid (S.opd x).2.cells
 | .load t x=>loadR P S.mem t (S.opd x).2
 | .store t p x=>storeR P S.mem t (S.opd p).2 (S.opd x).2
 | .fieldAddr s x f=>fieldRm P S.mem s f (S.opd x).2
 | .nilCheck x=>nilCheckR S.mem (S.opd x).2
 | .indexAddr t x i=>indexR P S.mem t (S.opd x).2 (S.opd i).2
 | .index t x i=>indexVR P t (S.opd x).2 (S.opd i).2
 | .slice t x lo hi none=>sliceR P S.mem t (S.opd x).2 (lo.map fun y=>(S.opd y).2) (hi.map fun y=>(S.opd y).2)
 | .binOp op t x y _=>binOpR P S op t x y
 | .unOp op _ x=>unR op (S.opd x).2
 | .convert s d x=>convM P S.mem (keyOf o) s d (S.opd x).2
 | .makeInterface t x=>makeIfaceR P t (S.opd x).2
 | .makeFunc f first cap=>makeFuncR f (first.toList.map fun x=>(S.opd x).2) (cap.toList.map fun x=>(S.opd x).2)
 | .makeSlice t l c=>makeR P S.mem (keyOf o) t (S.opd l).2 (S.opd c).2
 | .build t ps=>buildR P t (ps.toList.map fun x=>(x.1,(S.opd x.2).2))
 | .buildSlice t len ps=>buildSliceR P S.mem (keyOf o) t len (ps.toList.map fun x=>(x.1,(S.opd x.2).2))
 | .extract x i=>extractR i (S.opd x).2
 | .field s x f=>fieldVR P s (S.opd x).2 f
 | .typeAssert x _ t ok=>assertR P (S.opd x).2 t ok
 | .call {callee:=.builtin b,args,argTypes}=>builtinR P S o b args.toList argTypes.toList
 |_=>.no
theorem Gf(P:Program)(S:St)(o:Oper)(h:opOk S o=true):aH P S o (stepv P S o):=by
 unfold opOk at h;unfold stepv;have one:∀{l:List Operand},okAll S l=true→∀x∈l,(S.opd x).1=true:=sB;split
 ·rename_i x ho;simp only[ho]at h;exact Gc P S o x (.inl ho) (one h x (by simp[Op.operands]))
 ·rename_i x ho;simp only[ho]at h;exact Gc P S o x (.inr ho) (one h x (by simp[Op.operands]))
 ·rename_i c a b ho;exact Zi P S o c a b ho
 ·rename_i t ho;exact QA P S o t ho
 ·rename_i t x ho;simp only[ho]at h;exact aay P S o t x ho (one h x (by simp[Op.operands]))
 ·rename_i t x ho;simp only[ho]at h;exact (Jv P S o t x ho (one h x (by simp[Op.operands]))).res
 ·rename_i t p x ho;simp only[ho]at h;exact TO P S o t p x ho (one h p (by simp[Op.operands])) (one h x (by simp[Op.operands]))
 ·rename_i s x f ho;simp only[ho]at h;exact TV P S o s x f ho (one h x (by simp[Op.operands]))
 ·rename_i x ho;simp only[ho]at h;exact I2 P S o x ho (one h x (by simp[Op.operands]))
 ·rename_i t x i ho;simp only[ho]at h;exact TW P S o t x i ho (one h x (by simp[Op.operands])) (one h i (by simp[Op.operands]))
 ·rename_i t x i ho;simp only[ho]at h;exact Qu P S o t x i ho (one h x (by simp[Op.operands])) (one h i (by simp[Op.operands]))
 ·rename_i t x lo hi ho;simp only[ho]at h;exact TZ P S o t x lo hi ho (one h x (by simp[Op.operands])) (fun y hy=>one h y (by simp[Op.operands,hy])) (fun y hy=>one h y (by simp[Op.operands,hy]))
 ·rename_i op t x y t' ho;simp only[ho]at h;exact Qy P S o op t t' x y ho (one h x (by simp[Op.operands])) (one h y (by simp[Op.operands]))
 ·rename_i op t x ho;simp only[ho]at h;exact afF P S o op t x ho (one h x (by simp[Op.operands]))
 ·rename_i s d x ho;simp only[ho]at h;exact T4 P S o s d x ho (one h x (by simp[Op.operands]))
 ·rename_i t x ho;simp only[ho]at h;exact F6 P S o t x ho (one h x (by simp[Op.operands]))
 ·rename_i f first cap ho;simp only[ho]at h;exact I3 P S o f first cap ho (fun x hx=>one h x (by simp[Op.operands];left;simpa using hx)) (fun x hx=>one h x (by simp[Op.operands];right;simpa using hx))
 ·rename_i t l c ho;simp only[ho]at h;exact Ze P S o t l c ho (one h l (by simp[Op.operands])) (one h c (by simp[Op.operands]))
 ·rename_i t ps ho;simp only[ho]at h;exact T0 P S o t ps ho (fun x hx=>one h x.2 (by simp only[Op.operands,List.toList_toArray,List.mem_map];exact⟨x,hx,rfl⟩))
 ·rename_i t len ps ho;simp only[ho]at h;exact E4 P S o t len ps ho (fun x hx=>one h x.2 (by simp only[Op.operands,List.toList_toArray,List.mem_map];exact⟨x,hx,rfl⟩))
 ·rename_i x i ho;simp only[ho]at h;exact NN P S o x i ho (one h x (by simp[Op.operands]))
 ·rename_i s x f ho;simp only[ho]at h;exact QC P S o s x f ho (one h x (by simp[Op.operands]))
 ·rename_i x xt t ok ho;simp only[ho]at h;exact QD P S o x xt t ok ho (one h x (by simp[Op.operands]))
 ·rename_i b args ts ho;simp only[ho]at h;have ha:∀x∈args.toList,(S.opd x).1=true:=fun x hx=>one h x (by simp[Op.operands,Call.operands];simpa using hx);have sC:∀{l:List Operand},args.toList=l→args=l.toArray:=fun h=>by rw[←h]
  have jl:∀{l:List TypeId},ts.toList=l→ts=l.toArray:=fun h=>by rw[←h]
  unfold builtinR;split
  ·rename_i x t h1 h2;rw[sC h1,jl h2]at ho;exact aaP P S o x t ho (ha x (by simp[h1]))
  ·rename_i s x t u h1 h2;rw[sC h1,jl h2]at ho;exact T1 <| aaK P S o s x t u ho (ha s (by simp[h1])) (ha x (by simp[h1]))
  ·rename_i s x t u h1 h2;rw[sC h1,jl h2]at ho;exact Zf P S o s x t u ho (ha s (by simp[h1])) (ha x (by simp[h1]))
  ·exact Qw P S o true args ts (by simpa using ho) ha
  ·exact Qw P S o false args ts (by simpa using ho) ha
  ·rename_i x t h1 h2;rw[sC h1,jl h2]at ho;exact aaV P S o x t ho (ha x (by simp[h1]))
  ·trivial
 ·trivial
inductive XE where
 |normal
 |exit (id:Nat)
 |ret
 |panic (t:TypeId) (x:D)
def my(n:Nat)(φ:bM)(G:Fr)(m:Mem)(w:World)(Q:XE→St→Prop):Exit→Act→World→Prop
 | .normal,a',w'=>∃φ' S',S'.n=n∧Q .normal S'∧Rel φ' G S' a' w'∧aP φ m w φ' S'.mem w'
 | .exit id,a',w'=>∃φ' S',S'.n=n∧Q (.exit id) S'∧Rel φ' G S' a' w'∧aP φ m w φ' S'.mem w'
 | .ret,a',w'=>∃φ' S',S'.n=n∧Q .ret S'∧Rel φ' G S' a' w'∧aP φ m w φ' S'.mem w'
 | .panic chain,a',w'=>∃φ' S' t x v,chain=[{v:=.iface t v,recovered:=false}]∧aK w' (Fo G φ' S'.mem) x v∧S'.n=n∧Q (.panic t x) S'∧Rel φ' G S' a' w'∧aP φ m w φ' S'.mem w'
 |_,_,_=>False
theorem my.weaken{n φ G m w Q φ1 m1 w1 e a' w'}(hk:aP φ m w φ1 m1 w1)(h:my n φ1 G m1 w1 Q e a' w'):my n φ G m w Q e a' w':=by
 cases e with
 |normal=>obtain⟨φ',S',h0,h1,h2,h3⟩:=h;exact⟨φ',S',h0,h1,h2,hk.trans h3⟩
 |exit id=>obtain⟨φ',S',h0,h1,h2,h3⟩:=h;exact⟨φ',S',h0,h1,h2,hk.trans h3⟩
 |ret=>obtain⟨φ',S',h0,h1,h2,h3⟩:=h;exact⟨φ',S',h0,h1,h2,hk.trans h3⟩
 |panic chain=>obtain⟨φ',S',t,x,v,hc,hd,h0,h1,h2,h3⟩:=h;exact⟨φ',S',t,x,v,hc,hd,h0,h1,h2,hk.trans h3⟩
 |_=>exact h.elim
theorem my.mono{n φ G m w Q Q' e a' w'}(hq:∀e S,Q e S→Q' e S)(h:my n φ G m w Q e a' w'):my n φ G m w Q' e a' w':=by
 cases e with
 |normal=>obtain⟨φ',S',h0,h1,h2⟩:=h;exact⟨φ',S',h0,hq _ _ h1,h2⟩
 |exit id=>obtain⟨φ',S',h0,h1,h2⟩:=h;exact⟨φ',S',h0,hq _ _ h1,h2⟩
 |ret=>obtain⟨φ',S',h0,h1,h2⟩:=h;exact⟨φ',S',h0,hq _ _ h1,h2⟩
 |panic chain=>obtain⟨φ',S',t,x,v,hc,hd,h0,h1,h2⟩:=h;exact⟨φ',S',t,x,v,hc,hd,h0,hq _ _ h1,h2⟩
 |_=>exact h.elim
def nx(P:Program)(c:Code)(S:St)(Q:XE→St→Prop):Prop:=
 ∀φ G a w,Rel φ G S a w→c.wp P (my S.n φ G S.mem w Q) a w
def grd(all:List Oper)(S:St)(j:Nat):Option (Bool×AV):=
 match all[j]? with
 |some o=>match o.dst with
  |some t=>Env.lk S.env t
  |none=>none
 |none=>none
def jq(n:Nat)(ops:List Oper):Bool:=ops.all fun o=>match o.dst with|some t=>decide (t<n)|none=>true
theorem lu(S:St)(d g x):(S.put d g x).n=S.n:=by cases d<;>rfl
theorem eY(S:St)(d g x):(S.put d g x).mem=S.mem:=by cases d<;>rfl
theorem Bn.step{P:Program}{o:Oper}{a:Act}{w w':World}{v:Value}{next R}(h:Bn P o a w v w')(hn:next (a.put o.dst v) w'):o.wp P a w next R:=by
 unfold Oper.wp;rcases h with h|⟨h,rfl⟩<;>rw[h]<;>exact hn
theorem Rel.grow{φ G S a w w'}(h:Rel φ G S a w)(hold:∀b,b<w.heap.size→w'.heap[b]?=w.heap[b]?)(hs:w.heap.size≤w'.heap.size):Rel φ G S a w':=
 ⟨h.size,h.defers,fun t x hx=>(h.env t x hx).mono (bM.le_refl _) (fun b hb _=>hold b hb) hs (fun _ _ h=>h),h.mem.grow hold hs,h.jZ.mono (fun b hb _=>hold b hb) hs (fun _ _ h=>h)⟩
theorem T6{P:Program}{S:St}{o:Oper}{c:Bool}{x:AV}{gb:Bool}(hr:aH P S o (.val c x))(hc:c=true){φ G a w}(h:Rel φ G S a w)(hd:∀t,o.dst=some t→t<S.n){next:Act→World→Prop}{R}
 (hn:∀a' w',Rel φ G (S.put o.dst gb x) a' w'→aP φ S.mem w φ S.mem w'→next a' w'):o.wp P a w next R:=by
 obtain⟨v,w',nQ,bY,hold,hs,pO,ht,fa⟩:=hr hc φ G a w h;exact nQ.step (hn _ _ ((h.grow hold hs).put o.dst hd gb x v (fun _=>bY)) (aP.grow hold hs pO ht fa))
theorem T7{P:Program}{S:St}{o:Oper}{c:Bool}{x:AV}{e:cH}(hr:aH P S o (.cW c x e))(hc:c=true){φ G a w}(h:Rel φ G S a w)(hd:∀t,o.dst=some t→t<S.n){next:Act→World→Prop}{R}
 (hn:∀φ' a' w',Rel φ' G (({S with mem:=Mem.set S.mem e}:St).put o.dst true x) a' w'→aP φ S.mem w φ' (Mem.set S.mem e) w'→next a' w'):o.wp P a w next R:=by
 obtain⟨v,w',φ',nQ,bY,hm,hk,_⟩:=hr hc φ G a w h;exact nQ.step (hn φ' _ _ ((h.wX hm hk).put o.dst hd true x v (fun _=>bY)) hk)
theorem QE{all:List Oper}{S:St}{j:Nat}{b:Bool}{φ G a w}(h:Rel φ G S a w)(hg:grd all S j=some (true,.d (.bool b))):yielded all.toArray a.tmps j=some b:=by
 unfold grd at hg;split at hg
 ·rename_i o ho;split at hg
  ·rename_i t ht;have:=rh (h.env t _ hg);unfold yielded;simp only[List.getElem?_toArray,ho,Option.bind_some,ht];rw[Array.getD_eq_getD_getElem?]at this;cases hq:a.tmps[t]? with
   |none=>simp[hq,undef]at this
   |some v=>simp[hq]at this;simp[this]
  ·cases hg
 ·cases hg
section
variable {P:Program} {S:St} {Q:XE→St→Prop}
theorem nx.mono{c:Code}{Q':XE→St→Prop}(h:nx P c S Q)(hq:∀e S,Q e S→Q' e S):nx P c S Q':=
 fun φ G a w hr=>wp_mono (h φ G a w hr) fun _ _ _ hp=>hp.mono hq
def St.prune(S:St)(oT:List Nat):St:={S with env:=oT.filterMap fun t=>(Env.lk S.env t).map fun x=>(t,x)}
theorem rJ(env:Env):∀(oT:List Nat)(t:Nat)(x:Bool×AV),Env.lk (oT.filterMap fun t=>(Env.lk env t).map fun x=>(t,x)) t=some x→Env.lk env t=some x
 |[],t,x,h=>by simp[Env.lk]at h
 |k::r,t,x,h=>by
  simp only[List.filterMap_cons]at h;cases hk:Env.lk env k with
  |none=>simp[hk]at h;exact rJ env r t x h
  |some y=>
   simp only[hk,Option.map_some,Env.lk]at h;by_cases hkt:k=t
   ·subst hkt;simp at h;subst h;exact hk
   ·simp[hkt]at h;exact rJ env r t x h
theorem Rel.prune{φ G a w}(h:Rel φ G S a w)(oT:List Nat):Rel φ G (S.prune oT) a w:=
 ⟨h.size,h.defers,fun t x hx=>h.env t x (rJ _ _ _ _ hx),h.mem,h.jZ⟩
theorem JH{x y:Code}(h:nx P x S fun e S'=>match e with| .normal=>nx P y S' Q|e=>Q e S'):nx P (.seq x y) S Q:=by
 intro φ G a w hr;refine wp_seq (wp_mono (h φ G a w hr) fun e a' w' hp=>?_);cases e with
 |normal=>
  obtain⟨φ',S',hn,h1,h2,h3⟩:=hp;exact wp_mono (h1 φ' G a' w' h2) fun e a2 w2 zJ=>by rw[hn]at zJ;exact zJ.weaken h3
 |_=>exact hp
theorem Gg{c:Operand}{x y:Code}{b:Bool}(hc:S.opd c=(true,.d (.bool b)))(ht:b=true→nx P x S Q)(hf:b=false→nx P y S Q):nx P (.cond c x y) S Q:=by
 intro φ G a w hr;have hv:=hr.opd c (by rw[hc]);rw[hc]at hv;have e:=rh hv;cases b
 ·exact wp_cond_false e (hf rfl φ G a w hr)
 ·exact wp_cond_true e (ht rfl φ G a w hr)
theorem T8(h:Q .normal S):nx P .skip S Q:=fun φ _ _ _ hr=>wp_skip ⟨φ,S,rfl,h,hr,aP.refl ..⟩
theorem Zk(h:Q .ret S):nx P .ret S Q:=fun φ _ _ _ hr=>wp_ret ⟨φ,S,rfl,h,hr,aP.refl ..⟩
theorem T9{id:Nat}(h:Q (.exit id) S):nx P (.exit id) S Q:=fun φ _ _ _ hr=>wp_exit ⟨φ,S,rfl,h,hr,aP.refl ..⟩
theorem xw{id:Nat}{c:Code}(h:nx P c S fun e S'=>match e with| .exit mn=>if mn=id then Q .normal S' else Q (.exit mn) S'|e=>Q e S'):nx P (.block id c) S Q:=by
 intro φ G a w hr;refine wp_block (wp_mono (h φ G a w hr) fun e a' w' hp=>?_);cases e with
 |exit mn=>
  obtain⟨φ',S',hn,h1,h2,h3⟩:=hp;simp only[Exit.inBlock];by_cases hid:mn=id
  ·simp only[hid,if_true]at h1⊢;exact⟨φ',S',hn,h1,h2,h3⟩
  ·simp only[hid,if_false]at h1⊢;exact⟨φ',S',hn,h1,h2,h3⟩
 |_=>exact hp
theorem Ua{c:Code}{α:Type}(I:α→St)(J:α→Prop)(μ:α→Nat)(x0:α)(hS:S=I x0)(h0:J x0)
 (round:∀x,J x→nx P c (I x) fun e S'=>match e with| .normal=>∃x',S'=I x'∧J x'∧μ x'<μ x|e=>Q e S'):nx P (.loop c) S Q:=by
 intro φ G a w hr;subst hS;intro b k cs;have key:∀n x φ1 a1 w1,μ x=n→J x→(I x).n=(I x0).n→Rel φ1 G (I x) a1 w1→aP φ (I x0).mem w φ1 (I x).mem w1→
  ∃e a' w',my (I x0).n φ G (I x0).mem w Q e a' w'∧Arrives P (lone (b.at a1 (.code c::.inLoop c::k)) cs w1) b k cs e a' w':=by
  intro n;induction n using Nat.strongRecOn with
  |_ n ih=>
   intro x φ1 a1 w1 hn hJ Bw rI gn;obtain⟨e,a2,w2,hp,gi⟩:=round x hJ φ1 G a1 w1 rI b (.inLoop c::k) cs;cases e with
   |normal=>
    obtain⟨φ2,S2,qB,⟨x',rfl,hJ',bn⟩,iN,cn⟩:=hp;obtain⟨e3,a3,w3,hp3,afH⟩:=ih (μ x') (by omega) x' φ2 a2 w2 rfl hJ' (qB.trans Bw) iN (gn.trans cn);exact⟨e3,a3,w3,hp3,.of_steps (Steps.trans gi (.one step_inLoop)) afH⟩
   |exit id=>exact⟨.exit id,a2,w2,by rw[Bw]at hp;exact my.weaken (e:=.exit id) gn hp,.pass (x:=.inLoop c) rfl (fun _ _=>.inl (by simp)) gi⟩
   |goto l=>exact hp.elim
   |ret=>exact⟨.ret,a2,w2,by rw[Bw]at hp;exact my.weaken (e:=.ret) gn hp,.pass (x:=.inLoop c) rfl (fun _ _=>.inl (by simp)) gi⟩
   |panic ch=>exact⟨.panic ch,a2,w2,by rw[Bw]at hp;exact my.weaken (e:=.panic ch) gn hp,.pass (x:=.inLoop c) rfl (fun _ _=>.inl (by simp)) gi⟩
   |outgrown=>exact hp.elim
 obtain⟨e,a',w',hq,gi⟩:=key _ x0 φ a w rfl h0 rfl hr (aP.refl ..);exact⟨e,a',w',hq,.of_steps (.one step_loop) gi⟩
end
inductive Out where
 |ret (x:AV)
 |panic (t:TypeId) (x:D)
def mJ(φ:bM)(w:World)(F:Nat→Prop):Out→Ending→Prop
 | .ret x,.returned v=>aB φ w F x v
 | .panic t x,.panicked chain=>∃v,chain=[{v:=.iface t v,recovered:=false}]∧aK w F x v
 |_,_=>False
def Ev(P:Program)(gl:List (Nat×D))(f:FuncId)(args:List AV)(m:Mem)(K:Out→Mem→Prop):Prop:=
 ∀φ G w (vs:Array Value),bj φ G m w→eF w (Fo G φ m) gl→args.length=vs.size→(∀(i:Nat) x v,args[i]?=some x→vs[i]?=some v→aB φ w (Fo G φ m) x v)→
  Calls P f vs w fun e w'=>∃φ' m' out,K out m'∧bj φ' G m' w'∧aP φ m w φ' m' w'∧mJ φ' w' (Fo G φ' m') out e
theorem Ev.mono{P gl f args m K K'}(h:Ev P gl f args m K)(hk:∀o m,K o m→K' o m):Ev P gl f args m K':=
 fun φ G w vs hm hg hl ha=>(h φ G w vs hm hg hl ha).mono fun _ _ ⟨φ',m',out,h1,h2⟩=>⟨φ',m',out,hk _ _ h1,h2⟩
def findK:List Nat→Nat→Nat→Option Nat
 |[],_,_=>none
 |a::r,k,i=>if a=k then some i else findK r k (i+1)
theorem vm:∀{ρ:List Nat}{k j i:Nat},findK ρ k j=some i→j≤i∧ρ[i-j]?=some k
 |[],k,j,i,h=>by simp[findK]at h
 |a::r,k,j,i,h=>by
  simp only[findK]at h;split at h
  ·rename_i hk;cases h;subst hk;simp
  ·obtain⟨h1,h2⟩:=vm h;refine⟨by omega,?_⟩;rw[show i-j=(i-(j+1))+1 by omega];simpa using h2
theorem jr:∀{ρ:List Nat}{k j:Nat},findK ρ k j=none↔k∉ρ
 |[],k,j=>by simp[findK]
 |a::r,k,j=>by
  simp only[findK,List.mem_cons,not_or];split
  ·rename_i hk;subst hk;simp
  ·rename_i hk;rw[jr];constructor
   ·exact fun h=>⟨fun h'=>hk h'.symm,h⟩
   ·exact fun h=>h.2
theorem QF{ρ:List Nat}(hn:ρ.Nodup){i k:Nat}(h:ρ[i]?=some k):findK ρ k 0=some i:=by
 cases hf:findK ρ k 0 with
 |none=>exact absurd (List.mem_of_getElem? h) (jr.1 hf)
 |some j=>
  obtain⟨_,h2⟩:=vm hf;simp only[Nat.sub_zero]at h2;obtain⟨hi,h3⟩:=List.getElem?_eq_some_iff.1 h;obtain⟨hj,h4⟩:=List.getElem?_eq_some_iff.1 h2;have:=(List.getElem_inj hn).1 (h3.trans h4.symm);rw[this]
def flats:List AV→Option (List D)
 |[]=>some []
 | .d x::r=>match x.flat,flats r with
  |true,some ys=>some (x::ys)
  |_,_=>none
 |_::_=>none
theorem DS:∀{l:List AV}{ds:List D},flats l=some ds→l=ds.map .d∧∀d∈ds,d.flat=true
 |[],ds,h=>by simp[flats]at h;subst h;simp
 |x::r,ds,h=>by
  unfold flats at h;split at h
  ·rename_i heq;cases heq
  ·rename_i y r' heq;cases heq;split at h
   ·rename_i ys hf FV;cases h;obtain⟨h1,h2⟩:=DS FV;refine⟨by rw[h1];rfl,fun d hd=>?_⟩;rcases List.mem_cons.1 hd with rfl|hd
    ·exact hf
    ·exact h2 d hd
   ·cases h
  ·cases h
def boxD:Option (List D)→AV
 |some ds=>.d (.list ds)
 |none=>.aZ
mutual
def vw(m:Mem)(ρ:List Nat)(bor:Nat→Bool)(nv:Nat→Nat→Nat):AV→AV
 | .ptr k aj off=>match Mem.get m k,findK ρ k 0 with
  |some e,some i=>if e.aj=aj then .ptr i (nv i aj) off else .aZ
  |_,_=>.aZ
 | .vec k aj off len=>match Mem.get m k,findK ρ k 0 with
  |some e,some i=>if e.aj=aj then .vec i (nv i aj) off len else .aZ
  |some ⟨_,v,.vec _ rows⟩,none=>if bor k=true∧v=aj∧off+len≤rows.length then .d (.list ((rows.drop off).take len))else .aZ
  |some ⟨_,v,.box cs⟩,none=>if bor k=true∧v=aj∧off+len≤cs.length then boxD (flats ((cs.drop off).take len))else .aZ
  |_,_=>.aZ
 | .cD k aj i j=>match Mem.get m k,findK ρ k 0 with
  |some e,some n=>if e.aj=aj then .cD n (nv n aj) i j else .aZ
  |_,_=>.aZ
 | .agg cs=>.agg (vws m ρ bor nv cs)
 | .fn f cap=>.fn f (vws m ρ bor nv cap)
 | .aU vs=>.aU (vws m ρ bor nv vs)
 | .aZ=>.aZ
 | .d x=>.d x
 | .dE x j=>.dE x j
 | .gJ t x=>.gJ t x
 | .lit v=>.lit v
 | .nn=>.nn
 | .err=>.err
def vws(m:Mem)(ρ:List Nat)(bor:Nat→Bool)(nv:Nat→Nat→Nat):List AV→List AV
 |[]=>[]
 |x::r=>vw m ρ bor nv x::vws m ρ bor nv r
end
theorem ri(m ρ bor nv):∀(l:List AV)(i:Nat),(vws m ρ bor nv l)[i]?=(l[i]?).map (vw m ρ bor nv)
 |[],i=>by simp[vws]
 |x::r,i=>by cases i with|zero=>simp[vws]|succ i=>simp[vws,ri m ρ bor nv r i]
theorem kB(m ρ bor nv):∀(l:List AV),(vws m ρ bor nv l).length=l.length
 |[]=>rfl
 |x::r=>by simp[vws,kB m ρ bor nv r]
def bM.gU(φ:bM)(ρ:List Nat)(nv:Nat→Nat→Nat):bM:=fun i=>
 match ρ[i]? with
 |some k=>(φ k).map fun L=>{L with aj:=nv i L.aj}
 |none=>none
def xx(φ:bM)(m:Mem)(ρ:List Nat)(b:Nat):Prop:=∃k∈ρ,∃e L,Mem.get m k=some e∧φ k=some L∧e.cont.cN L b
theorem xx.own{φ m ρ b}(h:xx φ m ρ b):iq φ m b:=by
 obtain⟨k,_,e,L,hg,hL,ho⟩:=h;obtain⟨hm,rfl⟩:=Mem.get_mem hg;exact⟨e,hm,L,hL,ho⟩
theorem Bx{φ G m w}(h:bj φ G m w){ρ:List Nat}{k:Nat}{e:cH}{L:Loc}{b:Nat}(hg:Mem.get m k=some e)(hL:φ k=some L)(ho:e.cont.cN L b)(hk:k∉ρ):¬xx φ m ρ b:=by
 rintro ⟨k',aN,e',L',rK,bO,cg⟩;obtain⟨hm,rfl⟩:=Mem.get_mem hg;obtain⟨dq,rfl⟩:=Mem.get_mem rK;have:=h.apart e' dq e hm L' L bO hL ⟨b,cg,ho⟩;exact hk (this▸aN)
section
variable {φ:bM} {G:Fr} {m:Mem} {w:World} {ρ:List Nat} {bor:Nat→Bool} {nv:Nat→Nat→Nat} {F1:Nat→Prop}
theorem C3{k i:Nat}{L:Loc}(hi:findK ρ k 0=some i)(hL:φ k=some L):φ.gU ρ nv i=some {L with aj:=nv i L.aj}:=by
 obtain⟨_,h2⟩:=vm hi;simp only[Nat.sub_zero]at h2;simp[bM.gU,h2,hL]
theorem aa0(hm:bj φ G m w)(hF:∀b,F1 b→Fo G φ m b)
 (NP:∀k e L b,Mem.get m k=some e→k∉ρ→bor k=true→φ k=some L→e.cont.cN L b→¬F1 b) {y v} (h:aB φ w (Fo G φ m) y v):aB (φ.gU ρ nv) w F1 (vw m ρ bor nv y) v:=by
 induction h with
 |aZ v=>exact .aZ v
 |d x v h=>exact .d x v (h.mono (fun _ _ _=>rfl) (Nat.le_refl _) (fun b _=>hF b))
 |agg cs a hl h1 _ ih=>
  refine .agg _ a (by rw[kB];exact hl) h1 (fun i c v hc hv=>?_);rw[ri]at hc;obtain⟨y,hy,rfl⟩:=Option.map_eq_some_iff.1 hc;exact ih i y v hy hv
 |ptr k aj off v L hL hv h h1=>
  unfold vw;split
  ·rename_i e i hg hi;split
   ·rename_i he;obtain⟨_,_,L',bO,aA,_⟩:=hm.get hg;rw[hL]at bO;cases bO;have e1:L.aj=aj:=by rw[aA];exact he
    refine .ptr i _ off v _ (C3 hi hL) (by simp[e1]) (fun _=>h e1.symm) h1
   ·exact .aZ _
  ·exact .aZ _
 |vec k aj off len v L hL hv h h1=>
  unfold vw;split
  ·rename_i e i hg hi;split
   ·rename_i he;obtain⟨_,_,L',bO,aA,_⟩:=hm.get hg;rw[hL]at bO;cases bO;have e1:L.aj=aj:=by rw[aA];exact he
    refine .vec i _ off len v _ (C3 hi hL) (by simp[e1]) (fun _=>h e1.symm) h1
   ·exact .aZ _
  ·rename_i key v' sz rows hg hi;split
   ·rename_i hc;obtain⟨hb,rfl,hle⟩:=hc;obtain⟨_,_,L',bO,aA,b7⟩:=hm.get hg;rw[hL]at bO;cases bO;refine .d _ _ (Aj (.vec k v' off len v L hL hv h h1) hL aA b7 hle hF (fun ho=>?_));exact NP k _ L _ hg (jr.1 hi) hb hL ⟨ho,rfl⟩
   ·exact .aZ _
  ·rename_i key v' cs hg hi;split
   ·rename_i hc;obtain⟨hb,rfl,hle⟩:=hc;obtain⟨_,_,L',bO,aA,b7⟩:=hm.get hg;rw[hL]at bO;cases bO;obtain⟨⟨z1,z2,z3⟩,arr,elem,iT,tE,rA,eh⟩:=b7;cases iC:flats ((cs.drop off).take len)with
    |none=>exact .aZ _
    |some ds=>
     obtain⟨jk,afI⟩:=DS iC;obtain⟨ao,cap,rfl,fU,dz⟩:=h aA.symm;have hdl:ds.length=len:=by
      have:=congrArg List.length jk;simp at this;omega
     refine .d _ _ ?_;by_cases h0:len=0
     ·have:ds=[]:=List.eq_nil_of_length_eq_zero (by omega);subst this;subst h0;refine .nil _ _ (fun hn=>?_);cases cap with
      |zero=>rfl
      |succ c=>have:=(dz (by omega)).1;rw[hn]at this;cases this
     ·obtain⟨rfl,_⟩:=dz (by omega);rw[←hdl];have nN:∀(i:Nat) d,ds[i]?=some d→∃u,arr[off+i]?=some u∧aK w F1 d u∧cv u=true:=by
       intro i d hd;have hi:i<ds.length:=(List.getElem?_eq_some_iff.1 hd).1;have sx:cs[off+i]?=some (.d d):=by
        have:=congrArg (·[i]?) jk;simp only[List.getElem?_take,List.getElem?_drop,List.getElem?_map,hd]at this;rw[if_pos (by omega)]at this;simpa using this
       have bn:off+i<arr.size:=by omega
       have hr:=eh (off+i) _ arr[off+i] sx (by simp[bn]);cases hr with
       |d _ _ hr=>exact⟨_,by simp[bn],hr.mono (fun _ _ _=>rfl) (Nat.le_refl _) (fun b _=>hF b),rA _ (by simp)⟩
      have akE:L.du<w.heap.size:=iT.lt;refine .list ds _ _ cap 1 (fun i=>(arr[off+i]?).getD undef) (by omega) akE (NP k _ L _ hg (jr.1 hi) hb hL rfl) (fun d hd=>?_) (fun i d hd=>?_) (fun i j c lB hj=>?_)
      ·have:=afI d hd;cases d<;>simp_all [D.flat,D.size]
      ·obtain⟨u,h1,h2,_⟩:=nN i d hd;simp only[h1,Option.getD_some];exact h2
      ·obtain⟨u,h1,h2,h3⟩:=nN i ds[i] (by simp[lB]);simp only[h1,Option.getD_some,dN h3]at hj;have Qz:j=0:=by
        have:=(Array.getElem?_eq_some_iff.1 hj).1;simpa using this
       subst Qz;simp at hj;subst hj;rw[gv iT,z1,z2];simpa using h1
   ·exact .aZ _
  ·exact .aZ _
 |cD k aj i j v L hL hv h h1=>
  unfold vw;split
  ·rename_i e n hg hi;split
   ·rename_i he;obtain⟨_,_,L',bO,aA,_⟩:=hm.get hg;rw[hL]at bO;cases bO;have e1:L.aj=aj:=by rw[aA];exact he
    refine .cD n _ i j v _ (C3 hi hL) (by simp[e1]) (fun _=>h e1.symm) h1
   ·exact .aZ _
  ·exact .aZ _
 |dE x j b off x' hb mj hx hc=>
  exact .dE x j b off x' hb (fun h=>mj (hF b h)) (hx.mono (fun _ _ _=>rfl) (Nat.le_refl _) (fun b _=>hF b)) hc
 |fn f cap a hf hl _ ih=>
  refine .fn f _ a hf (by rw[kB];exact hl) (fun i c v hc hv=>?_);rw[ri]at hc;obtain⟨y,hy,rfl⟩:=Option.map_eq_some_iff.1 hc;exact ih i y v hy hv
 |qx f cap a hl _ ih=>
  refine .qx f _ a (by rw[kB];exact hl) (fun i c v hc hv=>?_);rw[ri]at hc;obtain⟨y,hy,rfl⟩:=Option.map_eq_some_iff.1 hc;exact ih i y v hy hv
 |aU vs a hl _ ih=>
  refine .aU _ a (by rw[kB];exact hl) (fun i c v hc hv=>?_);rw[ri]at hc;obtain⟨y,hy,rfl⟩:=Option.map_eq_some_iff.1 hc;exact ih i y v hy hv
 |gJ t x v h=>exact .gJ t x v (h.mono (fun _ _ _=>rfl) (Nat.le_refl _) (fun b _=>hF b))
 |lit v h=>exact .lit v h
 |nn a cap=>exact .nn a cap
 |err t v=>exact .err t v
end
def mkM:Nat→List (Nat×aE)→Mem
 |_,[]=>[]
 |i,(v,c)::r=>⟨i,v,c⟩::mkM (i+1) r
theorem oU:∀(l:List (Nat×aE))(i:Nat),(mkM i l).map (·.key)=List.range' i l.length
 |[],i=>rfl
 |(v,c)::r,i=>by simp[mkM,oU r,List.range'_succ]
theorem ke:∀{l:List (Nat×aE)}{i:Nat}{e:cH},e∈mkM i l↔∃j v c,l[j]?=some (v,c)∧e=⟨i+j,v,c⟩
 |[],i,e=>by simp[mkM]
 |(v,c)::r,i,e=>by
  simp only[mkM,List.mem_cons,ke (l:=r)];constructor
  ·rintro (rfl|⟨j,v',c',h,rfl⟩)
   ·exact⟨0,v,c,by simp,by simp⟩
   ·exact⟨j+1,v',c',by simpa using h,by simp;omega⟩
  ·rintro ⟨j,v',c',h,rfl⟩;cases j with
   |zero=>simp at h;obtain⟨rfl,rfl⟩:=h;left;simp
   |succ j=>right;exact⟨j,v',c',by simpa using h,by simp;omega⟩
def selC(m:Mem)(ρ:List Nat)(bor:Nat→Bool)(nv:Nat→Nat→Nat):aE→aE
 | .dead=>.dead
 | .box cs=>.box (vws m ρ bor nv cs)
 | .vec sz rows=>.vec sz rows
 | .vv rows y=>.vv rows (y.map (vw m ρ bor nv))
def selE(m:Mem)(ρ:List Nat)(bor:Nat→Bool)(nv:Nat→Nat→Nat)(i:Nat):Option cH→Nat×aE
 |some e=>(nv i e.aj,selC m ρ bor nv e.cont)
 |none=>(0,.dead)
def selL(m:Mem)(ρ:List Nat)(bor:Nat→Bool)(nv:Nat→Nat→Nat):Nat→List Nat→List (Nat×aE)
 |_,[]=>[]
 |i,k::r=>selE m ρ bor nv i (Mem.get m k)::selL m ρ bor nv (i+1) r
theorem vo(m ρ bor nv):∀(l:List Nat)(i j:Nat),(selL m ρ bor nv i l)[j]?=(l[j]?).map fun k=>selE m ρ bor nv (i+j) (Mem.get m k)
 |[],i,j=>by simp[selL]
 |k::r,i,j=>by
  cases j with
  |zero=>simp[selL]
  |succ j=>simp[selL,vo m ρ bor nv r (i+1) j,Nat.add_assoc,Nat.add_comm 1 j]
theorem pA(m ρ bor nv):∀(l:List Nat)(i:Nat),(selL m ρ bor nv i l).length=l.length
 |[],i=>rfl
 |k::r,i=>by simp[selL,pA m ρ bor nv r]
theorem sD{m ρ bor nv L c b}:(selC m ρ bor nv c).cN L b↔c.cN L b:=by cases c<;>exact Iff.rfl
theorem jJ{L:Loc}{c:aE}{v b:Nat}:c.cN {L with aj:=v} b↔c.cN L b:=by cases c<;>exact Iff.rfl
section
variable {φ:bM} {G G1:Fr} {m:Mem} {w:World} {ρ:List Nat} {bor:Nat→Bool} {nv:Nat→Nat→Nat}
theorem uo(dP:∀k∈ρ,(Mem.get m k).isSome=true)(b:Nat):iq (φ.gU ρ nv) (mkM 0 (selL m ρ bor nv 0 ρ)) b↔xx φ m ρ b:=by
 constructor
 ·rintro ⟨e,he,L,hL,ho⟩;obtain⟨j,v,c,hj,rfl⟩:=ke.1 he;rw[vo]at hj;obtain⟨k,hk,ny⟩:=Option.map_eq_some_iff.1 hj;simp only[Nat.zero_add,bM.gU,hk,Option.map_eq_some_iff]at hL;obtain⟨L0,ry,rfl⟩:=hL;have eW:=List.mem_of_getElem? hk;have:=dP k eW;obtain⟨e0,By⟩:=Option.isSome_iff_exists.1 this;rw[By]at ny;simp only[selE,Prod.mk.injEq]at ny;obtain⟨rfl,rfl⟩:=ny;exact⟨k,eW,e0,L0,By,ry,jJ.1 (sD.1 ho)⟩
 ·rintro ⟨k,hk,e,L,hg,hL,ho⟩;obtain⟨j,hj,rfl⟩:=List.mem_iff_getElem.1 hk;refine⟨⟨0+j,nv j e.aj,selC m ρ bor nv e.cont⟩,ke.2 ⟨j,_,_,?_,rfl⟩,{L with aj:=nv j L.aj},?_,sD.2 (jJ.2 ho)⟩
  ·rw[vo];simp[hj,hg,selE]
  ·simp[bM.gU,hj,hL]
theorem yJ(hm:bj φ G m w)(hn:ρ.Nodup)(dP:∀k∈ρ,(Mem.get m k).isSome=true)(hG:∀b,G1 b→Fo G φ m b)(hG1:∀b,xx φ m ρ b→¬G1 b)
 (NP:∀k e L b,Mem.get m k=some e→k∉ρ→bor k=true→φ k=some L→e.cont.cN L b→¬G1 b):
 bj (φ.gU ρ nv) G1 (mkM 0 (selL m ρ bor nv 0 ρ)) w∧(∀y v,aB φ w (Fo G φ m) y v→aB (φ.gU ρ nv) w (Fo G1 (φ.gU ρ nv) (mkM 0 (selL m ρ bor nv 0 ρ))) (vw m ρ bor nv y) v)∧
  (∀b,Fo G1 (φ.gU ρ nv) (mkM 0 (selL m ρ bor nv 0 ρ)) b→Fo G φ m b):=by
 have fw:=uo (φ:=φ) (nv:=nv) (bor:=bor) dP;have hF:∀b,Fo G1 (φ.gU ρ nv) (mkM 0 (selL m ρ bor nv 0 ρ)) b→Fo G φ m b:=by
  rintro b (h|h)
  ·exact hG b h
  ·exact .inr ((fw b).1 h).own
 have hb:∀k e L b,Mem.get m k=some e→k∉ρ→bor k=true→φ k=some L→e.cont.cN L b→¬Fo G1 (φ.gU ρ nv) (mkM 0 (selL m ρ bor nv 0 ρ)) b:=by
  rintro k e L b hg hk Wi hL ho (h|h)
  ·exact NP k e L b hg hk Wi hL ho h
  ·exact Bx hm hg hL ho hk ((fw _).1 h)
 have bY:∀y v,aB φ w (Fo G φ m) y v→aB (φ.gU ρ nv) w (Fo G1 (φ.gU ρ nv) (mkM 0 (selL m ρ bor nv 0 ρ))) (vw m ρ bor nv y) v:=fun y v h=>aa0 hm hF hb h;have hd:∀x v,aK w (Fo G φ m) x v→aK w (Fo G1 (φ.gU ρ nv) (mkM 0 (selL m ρ bor nv 0 ρ))) x v:=fun x v h=>h.mono (fun _ _ _=>rfl) (Nat.le_refl _) (fun b _=>hF b);have part:∀{e:cH},e∈mkM 0 (selL m ρ bor nv 0 ρ)→∃j k e0 L0,ρ[j]?=some k∧Mem.get m k=some e0∧φ k=some L0∧L0.aj=e0.aj∧dO φ w (Fo G φ m) L0 e0.cont∧e=⟨j,nv j e0.aj,selC m ρ bor nv e0.cont⟩:=by
  intro e he;obtain⟨j,v,c,hj,rfl⟩:=ke.1 he;rw[vo]at hj;obtain⟨k,hk,ny⟩:=Option.map_eq_some_iff.1 hj;obtain⟨e0,By⟩:=Option.isSome_iff_exists.1 (dP k (List.mem_of_getElem? hk));rw[By]at ny;simp only[selE,Prod.mk.injEq,Nat.zero_add]at ny;obtain⟨rfl,rfl⟩:=ny;obtain⟨_,_,L0,ry,aA,b7⟩:=hm.get By;exact⟨j,k,e0,L0,hk,By,ry,aA,b7,by simp⟩
 refine⟨⟨?_,?_,?_,?_,?_,?_⟩,bY,hF⟩
 ·rw[oU];exact List.nodup_range'
 ·intro i L hL;rw[oU,pA];simp only[bM.gU]at hL;split at hL
  ·rename_i k hk;have:=(List.getElem?_eq_some_iff.1 hk).1;simp[List.mem_range'];omega
  ·cases hL
 ·intro e he;obtain⟨j,k,e0,L0,hk,By,ry,aA,b7,rfl⟩:=part he;refine⟨{L0 with aj:=nv j L0.aj},by simp[bM.gU,hk,ry],by simp[aA],?_⟩;cases hc:e0.cont with
  |dead=>trivial
  |box cs=>
   rw[hc]at b7;obtain⟨g0,arr,elem,g1,g2,g3,g4⟩:=b7;refine⟨by simpa [kB]using g0,arr,elem,g1,by simp[kB,g2],g3,fun i c v sE hv=>?_⟩;rw[ri]at sE;obtain⟨y,hy,rfl⟩:=Option.map_eq_some_iff.1 sE;exact bY y v (g4 i y v hy hv)
  |vec sz rows=>
   rw[hc]at b7;obtain⟨g1,g2,g3,g4⟩:=b7;refine⟨g1,g2,g3,fun h0=>?_⟩;obtain⟨arr,elem,f1,f2,f3,f4⟩:=g4 h0;exact⟨arr,elem,f1,f2,f3,fun i d zE=>let ⟨v,hv,hj⟩:=f4 i d zE;⟨v,hd _ _ hv,hj⟩⟩
  |vv rows y=>
   rw[hc]at b7;exact (jX.mono (vw m ρ bor nv) b7 (fun _ _ _ _ u hu=>hd _ u hu) (fun x _ v hx=>bY x v hx) (fun _ _=>rfl)).aj _
 ·intro e he e' nR L L' hL bO gx;obtain⟨j,k,e0,L0,hk,By,ry,aA,b7,rfl⟩:=part he;obtain⟨j',k',e0',L0',aN,akF,aa1,auI,avT,rfl⟩:=part nR;simp only[bM.gU,hk,ry,aN,aa1,Option.map_some,Option.some.injEq]at hL bO;subst hL;subst bO;obtain⟨rL,gn⟩:=Mem.get_mem By;obtain⟨jt,cn⟩:=Mem.get_mem akF;have:=hm.apart e0 rL e0' jt L0 L0' (by rw[gn];exact ry) (by rw[cn];exact aa1) (gx.imp fun b h=>⟨jJ.1 (sD.1 h.1),jJ.1 (sD.1 h.2)⟩);rw[gn,cn]at this;obtain⟨hi,h3⟩:=List.getElem?_eq_some_iff.1 hk;obtain⟨hj,h4⟩:=List.getElem?_eq_some_iff.1 aN;exact (List.getElem_inj hn).1 (h3.trans (this.trans h4.symm))
 ·exact fun b pT=>hG1 b ((fw b).1 pT)
 ·exact fun b pT=>Af hm b (hG b pT)
end
mutual
def plainD:D→Bool
 | .list (_::_)=>false
 | .list []=>true
 | .agg cs=>plainDs cs
 | .int _ _=>true
 | .bool _=>true
 | .str _=>true
 | .Bj=>true
def plainDs:List D→Bool
 |[]=>true
 |x::r=>plainD x&&plainDs r
end
theorem pD:∀{l:List D},plainDs l=true→∀x∈l,plainD x=true
 |[],_,x,hx=>by simp at hx
 |y::r,h,x,hx=>by
  simp only[plainDs,Bool.and_eq_true]at h;rcases List.mem_cons.1 hx with rfl|hx
  ·exact h.1
  ·exact pD h.2 x hx
theorem aK.plain{w w':World}{F F':Nat→Prop}{d v}(h:aK w F d v)(hp:plainD d=true):aK w' F' d v:=by
 induction h with
 |int k n=>exact .int k n
 |bool b=>exact .bool b
 |Bj v h=>exact .Bj v h
 |str b s h=>exact .str b s h
 |agg cs a hl hf _ ih=>
  refine .agg cs a hl hf (fun i d v hd hv=>ih i d v hd hv (pD (by simpa only[plainD]using hp) d (List.mem_of_getElem? hd)))
 |nil a cap hn=>exact .nil a cap hn
 |list xs b off cap sz vs dg hb hF bQ hv hc _=>
  cases xs with
  |nil=>exact .nil _ _ (by simp)
  |cons=>simp[plainD]at hp
mutual
def plainAV:AV→Bool
 | .d x=>plainD x
 | .dE _ _=>false
 | .agg cs=>plainAVs cs
 | .fn _ cap=>plainAVs cap
 | .aU vs=>plainAVs vs
 | .gJ _ x=>plainD x
 | .aZ=>true
 | .ptr _ _ _=>true
 | .vec _ _ _ _=>true
 | .cD _ _ _ _=>true
 | .lit _=>true
 | .nn=>true
 | .err=>true
def plainAVs:List AV→Bool
 |[]=>true
 |x::r=>plainAV x&&plainAVs r
end
theorem kf:∀{l:List AV},plainAVs l=true→∀x∈l,plainAV x=true
 |[],_,x,hx=>by simp at hx
 |y::r,h,x,hx=>by
  simp only[plainAVs,Bool.and_eq_true]at h;rcases List.mem_cons.1 hx with rfl|hx
  ·exact h.1
  ·exact kf h.2 x hx
def plainC:aE→Bool
 | .dead=>true
 | .box cs=>plainAVs cs
 | .vec _ rows=>plainDs rows
 | .vv rows y=>rows.all plainDs&&(match y with|none=>true|some x=>plainAV x)
mutual
def up(ρ bs:List Nat):AV→AV
 | .ptr k aj off=>.ptr (ρ.getD k 0) (bs.getD k 0+aj) off
 | .vec k aj off len=>.vec (ρ.getD k 0) (bs.getD k 0+aj) off len
 | .cD k aj i j=>.cD (ρ.getD k 0) (bs.getD k 0+aj) i j
 | .agg cs=>.agg (ups ρ bs cs)
 | .fn f cap=>.fn f (ups ρ bs cap)
 | .aU vs=>.aU (ups ρ bs vs)
 | .aZ=>.aZ
 | .d x=>.d x
 | .dE x j=>.dE x j
 | .gJ t x=>.gJ t x
 | .lit v=>.lit v
 | .nn=>.nn
 | .err=>.err
def ups(ρ bs:List Nat):List AV→List AV
 |[]=>[]
 |x::r=>up ρ bs x::ups ρ bs r
end
theorem rj(ρ bs):∀(l:List AV)(i:Nat),(ups ρ bs l)[i]?=(l[i]?).map (up ρ bs)
 |[],i=>by simp[ups]
 |x::r,i=>by cases i with|zero=>simp[ups]|succ i=>simp[ups,rj ρ bs r i]
theorem kC(ρ bs):∀(l:List AV),(ups ρ bs l).length=l.length
 |[]=>rfl
 |x::r=>by simp[ups,kC ρ bs r]
def upC(ρ bs:List Nat):aE→aE
 | .dead=>.dead
 | .box cs=>.box (ups ρ bs cs)
 | .vec sz rows=>.vec sz rows
 | .vv rows y=>.vv rows (y.map (up ρ bs))
def backL(ρ bs:List Nat):Nat→List (Nat×aE)→List cH
 |_,[]=>[]
 |i,(v,c)::r=>⟨ρ.getD i 0,bs.getD i 0+v,upC ρ bs c⟩::backL ρ bs (i+1) r
theorem pY{ρ bs:List Nat}:∀{l:List (Nat×aE)}{i:Nat}{e:cH},e∈backL ρ bs i l↔∃j v c,l[j]?=some (v,c)∧e=⟨ρ.getD (i+j) 0,bs.getD (i+j) 0+v,upC ρ bs c⟩
 |[],i,e=>by simp[backL]
 |(v,c)::r,i,e=>by
  simp only[backL,List.mem_cons,pY (l:=r)];constructor
  ·rintro (rfl|⟨j,v',c',h,rfl⟩)
   ·exact⟨0,v,c,by simp,by simp⟩
   ·exact⟨j+1,v',c',by simpa using h,by rw[show i+(j+1)=i+1+j by omega]⟩
  ·rintro ⟨j,v',c',h,rfl⟩;cases j with
   |zero=>simp at h;obtain⟨rfl,rfl⟩:=h;left;simp
   |succ j=>right;exact⟨j,v',c',by simpa using h,by rw[show i+(j+1)=i+1+j by omega]⟩
theorem Bz{ρ bs:List Nat}:∀(l:List (Nat×aE))(i:Nat),(backL ρ bs i l).map (·.key)=(List.range' i l.length).map fun j=>ρ.getD j 0
 |[],i=>rfl
 |(v,c)::r,i=>by simp[backL,Bz r,List.range'_succ]
def putAll(m:Mem):List cH→Mem
 |[]=>m
 |e::r=>putAll (Mem.set m e) r
theorem jK:∀(es:List cH)(m:Mem),(putAll m es).map (·.key)=m.map (·.key)
 |[],m=>rfl
 |e::r,m=>by rw[putAll,jK r,Mem.gu]
theorem BA:∀(es:List cH)(m:Mem),(m.map (·.key)).Nodup→(es.map (·.key)).Nodup→(∀e∈es,e.key∈m.map (·.key))→∀e,e∈putAll m es↔e∈es∨(e∈m∧e.key∉es.map (·.key))
 |[],m,_,_,_,e=>by simp[putAll]
 |x::r,m,hm,hn,hk,e=>by
  simp only[List.map_cons,List.nodup_cons]at hn;rw[putAll,BA r (Mem.set m x) (by rw[Mem.gu];exact hm) hn.2 (fun e he=>by rw[Mem.gu];exact hk e (by simp[he])),Mem.mem_set hm];have hx:=hk x (by simp);constructor
  ·rintro (h|⟨⟨rfl,_⟩|⟨h,bE⟩,rD⟩)
   ·left;simp[h]
   ·left;simp
   ·right;exact⟨h,by simp only[List.map_cons,List.mem_cons,not_or];exact⟨bE,rD⟩⟩
  ·rintro (h|⟨h,rD⟩)
   ·rcases List.mem_cons.1 h with rfl|h
    ·right;exact⟨.inl ⟨rfl,hx⟩,hn.1⟩
    ·left;exact h
   ·simp only[List.map_cons,List.mem_cons,not_or]at rD;right;exact⟨.inr ⟨h,rD.1⟩,rD.2⟩
def base(m:Mem)(d:Nat):List Nat→List Nat
 |[]=>[]
 |k::r=>(match Mem.get m k with|some e=>e.aj+d|none=>0)::base m d r
theorem Ak(m:Mem)(d:Nat):∀(l:List Nat)(i:Nat),(base m d l)[i]?=(l[i]?).map fun k=>match Mem.get m k with|some e=>e.aj+d|none=>0
 |[],i=>by simp[base]
 |k::r,i=>by cases i with|zero=>simp[base]|succ i=>simp[base,Ak m d r i]
theorem pE(m:Mem)(d:Nat):∀(l:List Nat),(base m d l).length=l.length
 |[]=>rfl
 |k::r=>by simp[base,pE m d r]
def nv0:Nat→Nat→Nat:=fun _ _=>0
def kD(φ:bM)(G:Fr)(m:Mem)(ρ B:List Nat):Fr:=⟨fun b=>Fo G φ m b∧¬xx φ m ρ b∧¬xx φ m B b,[]⟩
section
variable {φ:bM} {G:Fr} {m:Mem} {w:World} {ρ B:List Nat}
theorem DT(hm:bj φ G m w)(hn:ρ.Nodup)(dP:∀k∈ρ,(Mem.get m k).isSome=true):
 bj (φ.gU ρ nv0) (kD φ G m ρ B) (mkM 0 (selL m ρ (fun k=>B.contains k) nv0 0 ρ)) w∧
  (∀y v,aB φ w (Fo G φ m) y v→aB (φ.gU ρ nv0) w (Fo (kD φ G m ρ B) (φ.gU ρ nv0) (mkM 0 (selL m ρ (fun k=>B.contains k) nv0 0 ρ))) (vw m ρ (fun k=>B.contains k) nv0 y) v)∧
  (∀b,Fo (kD φ G m ρ B) (φ.gU ρ nv0) (mkM 0 (selL m ρ (fun k=>B.contains k) nv0 0 ρ)) b→Fo G φ m b):=
 yJ hm hn dP (fun b h=>h.1) (fun b h h'=>h'.2.1 h) (fun k e L b hg _ hb hL ho h'=>h'.2.2 ⟨k,by simpa using hb,e,L,hg,hL,ho⟩)
theorem aB.upR{φ φ':bM}{ρ bs:List Nat}{w F F' x v}(h:aB φ w F x v)(hφ:∀i L,φ i=some L→φ' (ρ.getD i 0)=some {L with aj:=bs.getD i 0+L.aj})
 (hd:(∀b,F' b→F b)∨plainAV x=true):aB φ' w F' (up ρ bs x) v:=by
 have dd:∀{d v},aK w F d v→((∀b,F' b→F b)∨plainD d=true)→aK w F' d v:=fun h hd=>by
  rcases hd with hd|hd
  ·exact h.mono (fun _ _ _=>rfl) (Nat.le_refl _) (fun b _=>hd b)
  ·exact h.plain hd
 induction h with
 |aZ v=>exact .aZ v
 |d x v h=>exact .d x v (dd h (hd.imp id (by simp[plainAV])))
 |agg cs a hl h1 _ ih=>
  refine .agg _ a (by rw[kC];exact hl) h1 (fun i c v hc hv=>?_);rw[rj]at hc;obtain⟨y,hy,rfl⟩:=Option.map_eq_some_iff.1 hc;exact ih i y v hy hv (hd.imp id fun hp=>kf (by simpa only[plainAV]using hp) y (List.mem_of_getElem? hy))
 |ptr k aj off v L hL hv h h1=>exact .ptr _ _ off v _ (hφ k L hL) (by simp only;omega) (fun he=>h (by simp only at he;omega)) h1
 |vec k aj off len v L hL hv h h1=>exact .vec _ _ off len v _ (hφ k L hL) (by simp only;omega) (fun he=>h (by simp only at he;omega)) h1
 |cD k aj i j v L hL hv h h1=>exact .cD _ _ i j v _ (hφ k L hL) (by simp only;omega) (fun he=>h (by simp only at he;omega)) h1
 |dE x j b off x' hb mj hx hc=>
  rcases hd with hd|hd
  ·exact .dE x j b off x' hb (fun h=>mj (hd b h)) (hx.mono (fun _ _ _=>rfl) (Nat.le_refl _) (fun b _=>hd b)) hc
  ·simp[plainAV]at hd
 |fn f cap a hf hl _ ih=>
  refine .fn f _ a hf (by rw[kC];exact hl) (fun i c v hc hv=>?_);rw[rj]at hc;obtain⟨y,hy,rfl⟩:=Option.map_eq_some_iff.1 hc;exact ih i y v hy hv (hd.imp id fun hp=>kf (by simpa only[plainAV]using hp) y (List.mem_of_getElem? hy))
 |qx f cap a hl _ ih=>
  refine .qx f _ a (by rw[kC];exact hl) (fun i c v hc hv=>?_);rw[rj]at hc;obtain⟨y,hy,rfl⟩:=Option.map_eq_some_iff.1 hc;exact ih i y v hy hv (hd.imp id fun hp=>kf (by simpa only[plainAV]using hp) y (List.mem_of_getElem? hy))
 |aU vs a hl _ ih=>
  refine .aU _ a (by rw[kC];exact hl) (fun i c v hc hv=>?_);rw[rj]at hc;obtain⟨y,hy,rfl⟩:=Option.map_eq_some_iff.1 hc;exact ih i y v hy hv (hd.imp id fun hp=>kf (by simpa only[plainAV]using hp) y (List.mem_of_getElem? hy))
 |gJ t x v h=>exact .gJ t x v (dd h (hd.imp id (by simp[plainAV])))
 |lit v h=>exact .lit v h
 |nn a cap=>exact .nn a cap
 |err t v=>exact .err t v
theorem oV{ρ bs L c b}:(upC ρ bs c).cN L b↔c.cN L b:=by cases c<;>exact Iff.rfl
theorem DU(h:bj φ G m w)(hn:ρ.Nodup)(dP:∀k∈ρ,(Mem.get m k).isSome=true){fr:List Nat}(QG:fr.Nodup)(DQ:∀k∈fr,(Mem.get m k).isSome=true∧k∉ρ)
 {φ2:bM} {l2:List (Nat×aE)} {w2:World} (h2:bj φ2 (kD φ G m ρ B) (mkM 0 l2) w2)
 (hk:aP (φ.gU ρ nv0) (mkM 0 (selL m ρ (fun k=>B.contains k) nv0 0 ρ)) w φ2 (mkM 0 l2) w2) (hlen:l2.length=ρ.length+fr.length)
 (dz:B=[]∨∀e∈l2,plainC e.2=true):
 ∃φ':bM,bj φ' G (putAll m (backL (ρ++fr) (base m 0 ρ++base m 1 fr) 0 l2)) w2∧aP φ m w φ' (putAll m (backL (ρ++fr) (base m 0 ρ++base m 1 fr) 0 l2)) w2∧
  ∀x v,(B=[]∨plainAV x=true)→aB φ2 w2 (Fo (kD φ G m ρ B) φ2 (mkM 0 l2)) x v→
   aB φ' w2 (Fo G φ' (putAll m (backL (ρ++fr) (base m 0 ρ++base m 1 fr) 0 l2))) (up (ρ++fr) (base m 0 ρ++base m 1 fr) x) v:=by
 obtain⟨ρ',Gi⟩:∃ρ',ρ'=ρ++fr:=⟨_,rfl⟩;obtain⟨bs,oJ⟩:∃bs,bs=base m 0 ρ++base m 1 fr:=⟨_,rfl⟩;rw[←Gi,←oJ];have sy:ρ'.Nodup:=by
  rw[Gi,List.nodup_append];exact⟨hn,QG,fun a ha b hb sF=>(DQ b hb).2 (sF▸ha)⟩
 have Ff:l2.length=ρ'.length:=by rw[Gi,List.length_append];exact hlen
 have QH:∀k∈ρ',(Mem.get m k).isSome=true:=fun k aN=>by
  rw[Gi]at aN;rcases List.mem_append.1 aN with h1|h1
  ·exact dP k h1
  ·exact (DQ k h1).1
 have aa2:∀k∈ρ',k∈m.map (·.key):=fun k aN=>by
  obtain⟨e,he⟩:=Option.isSome_iff_exists.1 (QH k aN);obtain⟨hm,rfl⟩:=Mem.get_mem he;exact List.mem_map_of_mem hm
 obtain⟨φ',jh⟩:∃φ':bM,φ'=fun k=>match findK ρ' k 0 with|some i=>(φ2 i).map (fun L=>{L with aj:=bs.getD i 0+L.aj})|none=>φ k:=⟨_,rfl⟩
 have oR:∀{i},i<ρ'.length→ρ'[i]?=some (ρ'.getD i 0):=fun hi=>by simp[hi]
 have akG:∀{i},i<ρ'.length→φ' (ρ'.getD i 0)=(φ2 i).map (fun L=>{L with aj:=bs.getD i 0+L.aj}):=fun hi=>by
  simp only[jh,QF sy (oR hi)]
 have qO:∀{k},k∉ρ'→φ' k=φ k:=fun aN=>by simp only[jh,jr.2 aN]
 have NQ:∀{i L},φ2 i=some L→i<ρ'.length:=fun hL=>by
  have:=h2.oB _ _ hL;rw[oU]at this;simp[List.mem_range']at this;omega
 have qC:∀i L,φ2 i=some L→φ' (ρ'.getD i 0)=some {L with aj:=bs.getD i 0+L.aj}:=fun i L hL=>by
  rw[akG (NQ hL),hL];rfl
 --zC entries behind
 have eW:=BA (backL ρ' bs 0 l2) m h.nodup;have Wi:(backL ρ' bs 0 l2).map (·.key)=ρ':=by
  rw[Bz,Ff];apply List.ext_getElem?;intro i;by_cases hi:i<ρ'.length
  ·simp[hi]
  ·rw[List.getElem?_eq_none (by simp;omega),List.getElem?_eq_none (by omega)]
 rw[Wi]at eW;replace eW:=eW sy (fun e he=>aa2 e.key (by rw[←Wi];exact List.mem_map_of_mem he));have JI:∀{e},e∈backL ρ' bs 0 l2→∃j v c L,j<ρ'.length∧l2[j]?=some (v,c)∧e=⟨ρ'.getD j 0,bs.getD j 0+v,upC ρ' bs c⟩∧φ2 j=some L∧L.aj=v∧dO φ2 w2 (Fo (kD φ G m ρ B) φ2 (mkM 0 l2)) L c:=by
  intro e he;obtain⟨j,v,c,hj,rfl⟩:=pY.1 he;have gP:=(List.getElem?_eq_some_iff.1 hj).1;obtain⟨L,hL,aA,hc⟩:=h2.eV ⟨0+j,v,c⟩ (ke.2 ⟨j,v,c,hj,rfl⟩);simp only[Nat.zero_add]at hL⊢;exact⟨j,v,c,L,by omega,hj,rfl,hL,aA,hc⟩
 have BB:=uo (φ:=φ) (nv:=nv0) (bor:=fun k=>B.contains k) dP;have NR:∀b,iq φ' (putAll m (backL ρ' bs 0 l2)) b↔iq φ2 (mkM 0 l2) b∨∃e∈m,e.key∉ρ'∧∃L,φ e.key=some L∧e.cont.cN L b:=by
  intro b;constructor
  ·rintro ⟨e,he,L,hL,ho⟩;rcases (eW e).1 he with he|⟨he,bE⟩
   ·obtain⟨j,v,c,L2,gP,hj,rfl,dR,aA,hc⟩:=JI he;left;simp only[qC j L2 dR,Option.some.injEq]at hL;subst hL;exact⟨⟨0+j,v,c⟩,ke.2 ⟨j,v,c,hj,rfl⟩,L2,by simpa using dR,jJ.1 (oV.1 ho)⟩
   ·right;exact⟨e,he,bE,L,by rw[←qO bE];exact hL,ho⟩
  ·rintro (⟨e2,wB,L,hL,ho⟩|⟨e,he,bE,L,hL,ho⟩)
   ·obtain⟨j,v,c,hj,rfl⟩:=ke.1 wB;simp only[Nat.zero_add]at hL;exact⟨⟨ρ'.getD j 0,bs.getD j 0+v,upC ρ' bs c⟩,(eW _).2 (.inl (pY.2 ⟨j,v,c,hj,by simp⟩)),_,qC j L hL,oV.2 (jJ.2 ho)⟩
   ·exact⟨e,(eW _).2 (.inr ⟨he,bE⟩),L,by rw[qO bE];exact hL,ho⟩
 have hnρ:∀{k},k∉ρ'→k∉ρ:=fun aN h1=>aN (by rw[Gi];exact List.mem_append_left _ h1)
 --an entry beside shares no block with zC akH
 have C4:∀e∈m,e.key∉ρ→∀L b,φ e.key=some L→e.cont.cN L b→¬xx φ m ρ b:=fun e he bE L b hL ho=>
  Bx h (Mem.get_of_mem h.nodup he) hL ho bE
 have hle:φ.le φ':=by
  intro k L hL;by_cases aN:k∈ρ'
  ·obtain⟨i,hi,rfl⟩:=List.mem_iff_getElem.1 aN;have hgd:ρ'.getD i 0=ρ'[i]:=by simp[hi]
   obtain⟨e,he⟩:=Option.isSome_iff_exists.1 (QH _ aN);obtain⟨_,_,L0,ry,aA,_⟩:=h.get he;rw[hL]at ry;cases ry;by_cases hir:i<ρ.length
   ·have fZ:ρ[i]?=some ρ'[i]:=by simp only[Gi];rw[List.getElem_append_left hir];simp
    have hbi:bs.getD i 0=L.aj:=by
     rw[oJ,List.getD_eq_getElem?_getD,List.getElem?_append_left (by rw[pE];exact hir),Ak,fZ];simp[he,aA]
    obtain⟨L',h3,h4,h5⟩:=hk.le i {L with aj:=0} (by simp[bM.gU,fZ,hL,nv0]);refine⟨{L' with aj:=bs.getD i 0+L'.aj},by rw[←hgd];exact qC i L' h3,by simp only;omega,fun wB=>?_⟩;simp only at wB;have h6:=h5 (by simp only;omega);have g1:=congrArg Loc.aj h6;have g2:=congrArg Loc.du h6;have g3:=congrArg Loc.sz h6;have g4:=congrArg Loc.cap h6;have g5:=congrArg Loc.base h6;simp only at g1 g2 g3 g4 g5⊢;rw[g1,g2,g3,g4,g5,hbi,Nat.add_zero]
   ·have iu:i<l2.length:=by omega
    obtain⟨L',bO,_,_⟩:=h2.eV ⟨0+i,l2[i].1,l2[i].2⟩ (ke.2 ⟨i,_,_,by simp[iu],rfl⟩);simp only[Nat.zero_add]at bO;have fZ:fr[i-ρ.length]?=some ρ'[i]:=by
     simp only[Gi]at hi⊢;rw[List.getElem_append_right (by omega)];simp
    have hbi:bs.getD i 0=L.aj+1:=by
     rw[oJ,List.getD_eq_getElem?_getD,List.getElem?_append_right (by rw[pE];omega),pE,Ak,fZ];simp[he,aA]
    refine⟨{L' with aj:=bs.getD i 0+L'.aj},by rw[←hgd];exact qC i L' bO,by simp only;omega,fun wB=>?_⟩;simp only at wB;omega
  ·exact⟨L,by rw[qO aN];exact hL,Nat.le_refl _,fun _=>rfl⟩
 have Wj:∀b,b<w.heap.size→iq φ' (putAll m (backL ρ' bs 0 l2)) b→iq φ m b:=by
  intro b hb JJ;rcases (NR b).1 JJ with h3|⟨e,he,_,L,hL,ho⟩
  ·exact ((BB b).1 (hk.own b hb h3)).own
  ·exact⟨e,he,L,hL,ho⟩
 have hold:∀b,b<w.heap.size→¬iq φ m b→w2.heap[b]?=w.heap[b]?:=fun b hb zK=>hk.wV b hb (fun ho=>zK ((BB b).1 ho).own);have JK:B=[]→∀b,Fo G φ' (putAll m (backL ρ' bs 0 l2)) b→Fo (kD φ G m ρ B) φ2 (mkM 0 l2) b:=by
  rintro rfl b (hG|ho)
  ·refine .inl ⟨.inl hG,fun ho=>h.jY b ho.own hG,?_⟩;rintro ⟨k,aN,_⟩;simp at aN
  ·rcases (NR b).1 ho with h3|⟨e,he,bE,L,hL,ho5⟩
   ·exact .inr h3
   ·refine .inl ⟨.inr ⟨e,he,L,hL,ho5⟩,C4 e he (hnρ bE) L b hL ho5,?_⟩;rintro ⟨k,aN,_⟩;simp at aN
 have bY:∀x v,(B=[]∨plainAV x=true)→aB φ2 w2 (Fo (kD φ G m ρ B) φ2 (mkM 0 l2)) x v→aB φ' w2 (Fo G φ' (putAll m (backL ρ' bs 0 l2))) (up ρ' bs x) v:=
  fun x v hx hr=>hr.upR qC (hx.imp JK id)
 have qD:∀d v,(B=[]∨plainD d=true)→aK w2 (Fo (kD φ G m ρ B) φ2 (mkM 0 l2)) d v→aK w2 (Fo G φ' (putAll m (backL ρ' bs 0 l2))) d v:=fun d v hx hr=>by
  rcases hx with hx|hx
  ·exact hr.mono (fun _ _ _=>rfl) (Nat.le_refl _) (fun b _=>JK hx b)
  ·exact hr.plain hx
 refine⟨φ',⟨?_,?_,?_,?_,?_,?_⟩,⟨hle,hold,Wj,hk.size,hk.os,hk.tape,hk.output⟩,bY⟩
 ·rw[jK];exact h.nodup
 ·intro k L hL;rw[jK];by_cases aN:k∈ρ'
  ·exact aa2 k aN
  ·rw[qO aN]at hL;exact h.oB k L hL
 ·intro e he;rcases (eW e).1 he with he|⟨he,bE⟩
  ·obtain⟨j,v,c,L2,gP,hj,rfl,dR,aA,hc⟩:=JI he;refine⟨_,qC j L2 dR,by simp[aA],?_⟩;have Wk:B=[]∨plainC c=true:=dz.imp id fun hp=>hp (v,c) (List.mem_of_getElem? hj);cases c with
   |dead=>trivial
   |box cs=>
    obtain⟨g0,arr,elem,g1,g2,g3,g4⟩:=hc;refine⟨by simpa [kC]using g0,arr,elem,g1,by simp[kC,g2],g3,fun i c v sE hv=>?_⟩;rw[rj]at sE;obtain⟨y,hy,rfl⟩:=Option.map_eq_some_iff.1 sE;exact bY y v (Wk.imp id fun hp=>kf (by simpa only[plainC]using hp) y (List.mem_of_getElem? hy)) (g4 i y v hy hv)
   |vec sz rows=>
    obtain⟨g1,g2,g3,g4⟩:=hc;refine⟨g1,g2,g3,fun h0=>?_⟩;obtain⟨arr,elem,f1,f2,f3,f4⟩:=g4 h0;exact⟨arr,elem,f1,f2,f3,fun i d zE=>let ⟨v,hv,hj⟩:=f4 i d zE;⟨v,qD d v (Wk.imp id fun hp=>pD (by simpa only[plainC]using hp) d (List.mem_of_getElem? zE)) hv,hj⟩⟩
   |vv rows y=>
    refine (jX.mono (up ρ' bs) hc (fun xs mK d hd u hu=>qD d u (Wk.imp id fun hp=>?_) hu) (fun x hx v hv=>bY x v (Wk.imp id fun hp=>?_) hv) (fun _ _=>rfl)).aj _
    ·simp only[plainC,Bool.and_eq_true,List.all_eq_true]at hp;exact pD (hp.1 xs mK) d hd
    ·simp only[plainC,Bool.and_eq_true,hx]at hp;exact hp.2
  ·obtain⟨L,hL,aA,hc⟩:=h.eV e he;refine⟨L,by rw[qO bE];exact hL,aA,hc.mono hle (fun b hb zK=>hold b hb (fun ho=>zK (.inr ho))) hk.size (fun b hb=>Or.imp id (Wj b hb)) (fun b ho=>?_)⟩;exact hk.wV _ (hc.lt ho) (fun h1=>C4 e he (hnρ bE) L b hL ho ((BB _).1 h1))
 ·rintro e he e' nR L L' hL bO ⟨b,ho,cg⟩;have Wl:∀{j v c L2 Gj QI},l2[j]?=some (v,c)→φ2 j=some L2→c.cN L2 b→Gj∈m→Gj.key∉ρ'→φ Gj.key=some QI→Gj.cont.cN QI b→False:=by
   intro j v c L2 Gj QI hj dR hc aa4 bE aa5 aa6;have bn:b<w.heap.size:=h.Bk ⟨Gj,aa4,QI,aa5,aa6⟩;have h3:iq φ2 (mkM 0 l2) b:=⟨⟨0+j,v,c⟩,ke.2 ⟨j,v,c,hj,rfl⟩,L2,by simpa using dR,hc⟩;exact C4 Gj aa4 (hnρ bE) QI b aa5 aa6 ((BB _).1 (hk.own _ bn h3))
  rcases (eW e).1 he with he|⟨he,bE⟩<;>rcases (eW e').1 nR with nR|⟨nR,Ub⟩
  ·obtain⟨j,v,c,L2,gP,hj,rfl,dR,_,_⟩:=JI he;obtain⟨j',v',c',L2',avU,oD,rfl,C5,_,_⟩:=JI nR;simp only[qC j L2 dR,qC j' L2' C5,Option.some.injEq]at hL bO;subst hL;subst bO;have:=h2.apart ⟨0+j,v,c⟩ (ke.2 ⟨j,v,c,hj,rfl⟩) ⟨0+j',v',c'⟩ (ke.2 ⟨j',v',c',oD,rfl⟩) L2 L2' (by simpa using dR) (by simpa using C5) ⟨b,jJ.1 (oV.1 ho),jJ.1 (oV.1 cg)⟩;simp only[Nat.zero_add]at this;rw[this]
  ·obtain⟨j,v,c,L2,gP,hj,rfl,dR,_,_⟩:=JI he;simp only[qC j L2 dR,Option.some.injEq]at hL;subst hL;exact (Wl hj dR (jJ.1 (oV.1 ho)) nR Ub (by rw[←qO Ub];exact bO) cg).elim
  ·obtain⟨j,v,c,L2,gP,hj,rfl,dR,_,_⟩:=JI nR;simp only[qC j L2 dR,Option.some.injEq]at bO;subst bO;exact (Wl hj dR (jJ.1 (oV.1 cg)) he bE (by rw[←qO bE];exact hL) ho).elim
  ·exact h.apart e he e' nR L L' (by rw[←qO bE];exact hL) (by rw[←qO Ub];exact bO) ⟨b,ho,cg⟩
 ·intro b JJ hG;rcases (NR b).1 JJ with h3|⟨e,he,_,L,hL,ho⟩
  ·exact h.jY b ((BB b).1 (hk.own b (h.bound b hG) h3)).own hG
  ·exact h.jY _ ⟨e,he,L,hL,ho⟩ hG
 ·exact fun b hG=>Nat.lt_of_lt_of_le (h.bound b hG) hk.size
end
def dS(S S':St):Prop:=S'.n=S.n∧S'.gl=S.gl∧∀φ G a w,Rel φ G S a w→∃φ',Rel φ' G S' a w∧aP φ S.mem w φ' S'.mem w
theorem dS.refl(S:St):dS S S:=⟨rfl,rfl,fun φ _ _ _ h=>⟨φ,h,aP.refl ..⟩⟩
theorem dS.trans{S S' Gk:St}(h:dS S S')(k:dS S' Gk):dS S Gk:=
 ⟨k.1.trans h.1,k.2.1.trans h.2.1,fun φ G a w hr=>by
  obtain⟨φ1,h1,h2⟩:=h.2.2 φ G a w hr;obtain⟨φ2,h3,h4⟩:=k.2.2 φ1 G a w h1;exact⟨φ2,h3,h2.trans h4⟩⟩
theorem NS(S:St)(oT:List Nat):dS S (S.prune oT):=⟨rfl,rfl,fun φ _ _ _ h=>⟨φ,h.prune oT,aP.refl ..⟩⟩
theorem Gl{w:World}{φ φ':bM}{m m':Mem}(h:∀b,iq φ' m' b→iq φ m b)(hle:φ.le φ'):aP φ m w φ' m' w:=
 ⟨hle,fun _ _ _=>rfl,fun b _ ho=>h b ho,Nat.le_refl _,rfl,rfl,rfl⟩
def mapC(τ:AV→AV):aE→aE
 | .box cs=>.box (cs.map τ)
 | .dead=>.dead
 | .vec sz rows=>.vec sz rows
 | .vv rows y=>.vv rows (y.map τ)
def mapM(τ:AV→AV)(e':cH):Mem→Mem
 |[]=>[]
 |e::r=>(if e.key=e'.key then e' else ⟨e.key,e.aj,mapC τ e.cont⟩)::mapM τ e' r
def mapEnv(τ:AV→AV):Env→Env
 |[]=>[]
 |(t,g,x)::r=>(t,g,τ x)::mapEnv τ r
theorem xy(τ:AV→AV):∀(env:Env)(t:Nat)(g:Bool)(y:AV),Env.lk (mapEnv τ env) t=some (g,y)→∃x,Env.lk env t=some (g,x)∧y=τ x
 |[],t,g,y,h=>by simp[mapEnv,Env.lk]at h
 |(t',g',x')::r,t,g,y,h=>by
  simp only[mapEnv,Env.lk]at h⊢;by_cases ht:t'=t
  ·subst ht;simp at h⊢;obtain⟨rfl,rfl⟩:=h;simp
  ·simp only[ht,if_false]at h⊢;exact xy τ r t g y h
theorem xz(τ:AV→AV)(e':cH):∀m:Mem,(mapM τ e' m).map (·.key)=m.map (·.key)
 |[]=>rfl
 |e::r=>by
  simp only[mapM,List.map_cons,xz τ e' r];congr 1;split
  ·rename_i h;exact h.symm
  ·rfl
theorem mapM_mem{τ:AV→AV}{e':cH}:∀{m:Mem}{x:cH},x∈mapM τ e' m↔∃e∈m,x=if e.key=e'.key then e' else ⟨e.key,e.aj,mapC τ e.cont⟩
 |[],x=>by simp[mapM]
 |e::r,x=>by simp[mapM,mapM_mem (m:=r)]
theorem kz{τ L c b}:(mapC τ c).cN L b↔c.cN L b:=by cases c<;>exact Iff.rfl
def St.mapAll(S:St)(τ:AV→AV)(e':cH):St:={S with env:=mapEnv τ S.env,mem:=mapM τ e' S.mem}
theorem Gm{φ:bM}{G S a w}(h:Rel φ G S a w)(τ:AV→AV){e e':cH}(he:e∈S.mem){L L':Loc}(hL:φ e.key=some L)(iS:e'.key=e.key)
 (hv:L.aj<L'.aj) (sq:L'.aj=e'.aj) (fw:∀b,e'.cont.cN L' b→e.cont.cN L b)
 (hτ:∀(φ':bM)(F':Nat→Prop),φ' e.key=some L'→(∀k,k≠e.key→φ' k=φ k)→(∀b,F' b→Fo G φ S.mem b)→(∀b,¬e'.cont.cN L' b→e.cont.cN L b→¬F' b)→∀x v,aB φ w (Fo G φ S.mem) x v→aB φ' w F' (τ x) v)
 (hc:∀(φ':bM)(F':Nat→Prop),(∀b,F' b→Fo G φ S.mem b)→dO φ' w F' L' e'.cont):
 ∃φ',Rel φ' G (S.mapAll τ e') a w∧aP φ S.mem w φ' (S.mapAll τ e').mem w:=by
 have hm:=h.mem;obtain⟨φ',jh⟩:∃φ':bM,φ'=fun k=>if k=e.key then some L' else φ k:=⟨_,rfl⟩
 have eX:φ' e.key=some L':=by simp[jh]
 have en:∀k,k≠e.key→φ' k=φ k:=fun k hk=>by simp[jh,hk]
 have hle:φ.le φ':=by
  intro k L0 h0;by_cases hk:k=e.key
  ·subst hk;rw[hL]at h0;cases h0;exact⟨L',eX,by omega,fun hh=>by omega⟩
  ·exact⟨L0,by rw[en k hk];exact h0,Nat.le_refl _,fun _=>rfl⟩
 have NT:∀b,iq φ' (mapM τ e' S.mem) b→iq φ S.mem b:=by
  rintro b ⟨x,hx,Lx,ek,ir⟩;obtain⟨y,hy,rfl⟩:=mapM_mem.1 hx;by_cases hk:y.key=e'.key
  ·simp only[hk,if_true]at ek ir;rw[iS,eX]at ek;cases ek;exact⟨e,he,L,hL,fw b ir⟩
  ·simp only[hk,if_false]at ek ir;rw[iS]at hk;rw[en _ hk]at ek;exact⟨y,hy,Lx,ek,kz.1 ir⟩
 have hF:∀b,Fo G φ' (mapM τ e' S.mem) b→Fo G φ S.mem b:=fun b=>Or.imp id (NT b);have NU:∀b,¬e'.cont.cN L' b→e.cont.cN L b→¬Fo G φ' (mapM τ e' S.mem) b:=by
  rintro b zK ho (hG|⟨x,hx,Lx,ek,ir⟩)
  ·exact hm.jY _ ⟨e,he,L,hL,ho⟩ hG
  ·obtain⟨y,hy,rfl⟩:=mapM_mem.1 hx;by_cases hk:y.key=e'.key
   ·simp only[hk,if_true]at ek ir;rw[iS,eX]at ek;cases ek;exact zK ir
   ·simp only[hk,if_false]at ek ir;rw[iS]at hk;rw[en _ hk]at ek;exact hk (hm.apart y hy e he Lx L ek hL ⟨b,kz.1 ir,ho⟩)
 have bY:=hτ φ' (Fo G φ' (mapM τ e' S.mem)) eX en hF NU;refine⟨φ',⟨h.size,h.defers,?_,⟨?_,?_,?_,?_,?_,?_⟩,h.jZ.mono (fun _ _ _=>rfl) (Nat.le_refl _) (fun b _=>hF b)⟩,Gl NT hle⟩
 ·intro t x hx;obtain⟨y,hy,rfl⟩:=xy τ S.env t true x hx;exact bY _ _ (h.env t y hy)
 ·show ((mapM τ e' S.mem).map (·.key)).Nodup;rw[xz];exact hm.nodup
 ·intro k L0 h0;show k∈(mapM τ e' S.mem).map (·.key);rw[xz];by_cases hk:k=e.key
  ·subst hk;exact List.mem_map_of_mem he
  ·rw[en k hk]at h0;exact hm.oB k L0 h0
 ·intro x hx;obtain⟨y,hy,rfl⟩:=mapM_mem.1 hx;by_cases hk:y.key=e'.key
  ·simp only[hk,if_true];exact⟨L',by rw[iS];exact eX,sq,hc _ _ hF⟩
  ·simp only[hk,if_false];obtain⟨Ly,dy,QJ,kN⟩:=hm.eV y hy;refine⟨Ly,by rw[en _ (by rw[←iS];exact hk)];exact dy,QJ,?_⟩;cases mL:y.cont with
   |dead=>trivial
   |box cs=>
    rw[mL]at kN;obtain⟨g0,arr,elem,g1,g2,g3,g4⟩:=kN;refine⟨by simpa using g0,arr,elem,g1,by simp[g2],g3,fun i c v sE hv=>?_⟩;rw[List.getElem?_map]at sE;obtain⟨z,hz,rfl⟩:=Option.map_eq_some_iff.1 sE;exact bY z v (g4 i z v hz hv)
   |vec sz rows=>
    rw[mL]at kN;obtain⟨g1,g2,g3,g4⟩:=kN;refine⟨g1,g2,g3,fun h0=>?_⟩;obtain⟨arr,elem,f1,f2,f3,f4⟩:=g4 h0;exact⟨arr,elem,f1,f2,f3,fun i d zE=>let ⟨v,hv,hj⟩:=f4 i d zE;⟨v,hv.mono (fun _ _ _=>rfl) (Nat.le_refl _) (fun b _=>hF b),hj⟩⟩
   |vv rows y=>
    rw[mL]at kN;exact jX.mono τ kN (fun _ _ _ _ u hu=>hu.mono (fun _ _ _=>rfl) (Nat.le_refl _) (fun b _=>hF b)) (fun x _ v hx=>bY x v hx) (fun _ _=>rfl)
 ·rintro x hx x' nu Lx Lx' ek Ny ⟨b,ho,cg⟩;obtain⟨y,hy,rfl⟩:=mapM_mem.1 hx;obtain⟨y',nO,rfl⟩:=mapM_mem.1 nu;have pull:∀{z:cH}{Lz:Loc},z∈S.mem→φ' (if z.key=e'.key then e' else ⟨z.key,z.aj,mapC τ z.cont⟩:cH).key=some Lz→(if z.key=e'.key then e' else ⟨z.key,z.aj,mapC τ z.cont⟩:cH).cont.cN Lz b→
   ∃z0∈S.mem,∃L0,φ z0.key=some L0∧z0.cont.cN L0 b∧(if z.key=e'.key then e' else ⟨z.key,z.aj,mapC τ z.cont⟩:cH).key=z0.key:=by
   intro z Lz hz iE nz;by_cases hk:z.key=e'.key
   ·simp only[hk,if_true]at iE nz⊢;rw[iS,eX]at iE;cases iE;exact⟨e,he,L,hL,fw b nz,iS⟩
   ·simp only[hk,if_false]at iE nz⊢;rw[iS]at hk;rw[en _ hk]at iE;exact⟨z,hz,Lz,iE,kz.1 nz,rfl⟩
  obtain⟨z,hz,Lz,iE,nz,hkz⟩:=pull hy ek ho;obtain⟨z',sG,Lz',akI,akJ,akK⟩:=pull nO Ny cg;rw[hkz,akK];exact hm.apart z hz z' sG Lz Lz' iE akI ⟨b,nz,akJ⟩
 ·exact fun b hb=>hm.jY b (NT b hb)
 ·exact hm.bound
mutual
def trAV(k v off len:Nat):AV→AV
 | .vec k' v' o l=>if k'=k∧v'=v∧off≤o∧o+l≤off+len then .vec k (v+1) (o-off) l else .vec k' v' o l
 | .cD k' v' i j=>if k'=k∧v'=v∧off≤i then .cD k (v+1) (i-off) j else .cD k' v' i j
 | .agg cs=>.agg (trAVs k v off len cs)
 | .fn f cap=>.fn f (trAVs k v off len cap)
 | .aU vs=>.aU (trAVs k v off len vs)
 | .aZ=>.aZ
 | .d x=>.d x
 | .ptr a b c=>.ptr a b c
 | .dE x j=>.dE x j
 | .gJ t x=>.gJ t x
 | .lit v=>.lit v
 | .nn=>.nn
 | .err=>.err
def trAVs(k v off len:Nat):List AV→List AV
 |[]=>[]
 |x::r=>trAV k v off len x::trAVs k v off len r
end
theorem pZ(k v off len):∀(l:List AV)(i:Nat),(trAVs k v off len l)[i]?=(l[i]?).map (trAV k v off len)
 |[],i=>by simp[trAVs]
 |x::r,i=>by cases i with|zero=>simp[trAVs]|succ i=>simp[trAVs,pZ k v off len r i]
theorem lF(k v off len):∀(l:List AV),(trAVs k v off len l).length=l.length
 |[]=>rfl
 |x::r=>by simp[trAVs,lF k v off len r]
def St.trim(S:St)(k off len:Nat):St:=
 match Mem.get S.mem k with
 |some ⟨_,v,.vec sz rows⟩=>if off+len≤rows.length then S.mapAll (trAV k v off len) ⟨k,v+1,.vec sz ((rows.drop off).take len)⟩else S
 |_=>S
theorem DV(S:St)(k off len:Nat):dS S (S.trim k off len):=by
 unfold St.trim;split
 ·rename_i key v sz rows hg;split
  ·rename_i hle;refine⟨rfl,rfl,fun φ G a w hr=>?_⟩;obtain⟨hm,hk,L,hL,aA,b7⟩:=hr.mem.get hg;simp only at hk aA b7;subst hk;obtain⟨g1,g2,g3,g4⟩:=b7;refine Gm hr (trAV key v off len) (e:=⟨key,v,.vec sz rows⟩) (e':=⟨key,v+1,.vec sz ((rows.drop off).take len)⟩) hm hL rfl (L':=⟨v+1,L.du,L.sz,L.cap-off,L.base+off*L.sz,[]⟩)
    (by simp only;omega) rfl (fun b ho=>⟨by have:=ho.1;simp only at this;omega,ho.2⟩) ?_ ?_
   ·intro φ' F' eX en hF _ x u hx;induction hx with
    |aZ v=>exact .aZ v
    |d x v h=>exact .d x v (h.mono (fun _ _ _=>rfl) (Nat.le_refl _) (fun b _=>hF b))
    |agg cs a hl h1 _ ih=>
     refine .agg _ a (by rw[lF];exact hl) h1 (fun i c v hc hv=>?_);rw[pZ]at hc;obtain⟨y,hy,rfl⟩:=Option.map_eq_some_iff.1 hc;exact ih i y v hy hv
    |ptr k2 aj o v2 L2 dR rq h h1=>
     unfold trAV;by_cases cn:k2=key
     ·subst cn;rw[hL]at dR;cases dR;exact .ptr _ aj o v2 _ eX (by simp only;omega) (fun he=>by simp only at he;omega) h1
     ·exact .ptr k2 aj o v2 L2 (by rw[en _ cn];exact dR) rq h h1
    |vec k2 aj o l v2 L2 dR rq h h1=>
     unfold trAV;split
     ·rename_i hc;obtain⟨rfl,rfl,ho,pU⟩:=hc;rw[hL]at dR;cases dR;refine .vec _ _ _ l v2 _ eX (Nat.le_refl _) (fun _=>?_) h1;obtain⟨a0,cap,rfl,fU,dz⟩:=h aA.symm;refine⟨a0,cap,rfl,fU,fun gO=>?_⟩;obtain⟨rfl,dg⟩:=dz gO;refine⟨?_,by simp only;omega⟩;congr 2;show L.base+o*L.sz=L.base+off*L.sz+(o-off)*L.sz;rw[Nat.add_assoc,←Nat.add_mul];congr 2;omega
     ·by_cases cn:k2=key
      ·subst cn;rw[hL]at dR;cases dR;exact .vec _ aj o l v2 _ eX (by simp only;omega) (fun he=>by simp only at he;omega) h1
      ·exact .vec k2 aj o l v2 L2 (by rw[en _ cn];exact dR) rq h h1
    |cD k2 aj i j v2 L2 dR rq h h1=>
     unfold trAV;split
     ·rename_i hc;obtain⟨rfl,rfl,ho⟩:=hc;rw[hL]at dR;cases dR;refine .cD _ _ _ j v2 _ eX (Nat.le_refl _) (fun _=>?_) h1;rw[h aA.symm];congr 3;show L.base+i*L.sz+j=L.base+off*L.sz+(i-off)*L.sz+j;rw[Nat.add_assoc L.base (off*L.sz),←Nat.add_mul];congr 3;omega
     ·by_cases cn:k2=key
      ·subst cn;rw[hL]at dR;cases dR;exact .cD _ aj i j v2 _ eX (by simp only;omega) (fun he=>by simp only at he;omega) h1
      ·exact .cD k2 aj i j v2 L2 (by rw[en _ cn];exact dR) rq h h1
    |dE x j b o x' hb mj hx hc=>exact .dE x j b o x' hb (fun h=>mj (hF b h)) (hx.mono (fun _ _ _=>rfl) (Nat.le_refl _) (fun b _=>hF b)) hc
    |fn f cap a hf hl _ ih=>
     refine .fn f _ a hf (by rw[lF];exact hl) (fun i c v hc hv=>?_);rw[pZ]at hc;obtain⟨y,hy,rfl⟩:=Option.map_eq_some_iff.1 hc;exact ih i y v hy hv
    |qx f cap a hl _ ih=>
     refine .qx f _ a (by rw[lF];exact hl) (fun i c v hc hv=>?_);rw[pZ]at hc;obtain⟨y,hy,rfl⟩:=Option.map_eq_some_iff.1 hc;exact ih i y v hy hv
    |aU vs a hl _ ih=>
     refine .aU _ a (by rw[lF];exact hl) (fun i c v hc hv=>?_);rw[pZ]at hc;obtain⟨y,hy,rfl⟩:=Option.map_eq_some_iff.1 hc;exact ih i y v hy hv
    |gJ t x v h=>exact .gJ t x v (h.mono (fun _ _ _=>rfl) (Nat.le_refl _) (fun b _=>hF b))
    |lit v h=>exact .lit v h
    |nn a cap=>exact .nn a cap
    |err t v=>exact .err t v
   ·intro φ' F' hF;refine⟨g1,by simp only[List.length_take,List.length_drop];omega,fun d hd=>g3 d (List.mem_of_mem_drop (List.mem_of_mem_take hd)),fun h0=>?_⟩;simp only at h0;obtain⟨arr,elem,f1,f2,f3,f4⟩:=g4 (by omega);refine⟨arr,elem,f1,?_,f3,fun i d hd=>?_⟩
    ·rw[f2];show L.base+L.cap*L.sz=L.base+off*L.sz+(L.cap-off)*L.sz;rw[Nat.add_assoc,←Nat.add_mul];congr 2;omega
    ·rw[List.getElem?_take]at hd;split at hd
     ·rw[List.getElem?_drop]at hd;obtain⟨v,hv,hj⟩:=f4 _ d hd;refine⟨v,hv.mono (fun _ _ _=>rfl) (Nat.le_refl _) (fun b _=>hF b),fun j c hjc=>?_⟩;have:=hj j c hjc;rw[Nat.add_mul]at this;rw[←Nat.add_assoc L.base]at this;exact this
     ·cases hd
  ·exact dS.refl S
 ·exact dS.refl S
mutual
def fzAV(k v:Nat)(rows:List D):AV→AV
 | .vec k' v' o l=>if k'=k∧v'=v∧o+l≤rows.length then .d (.list ((rows.drop o).take l))else .vec k' v' o l
 | .agg cs=>.agg (fzAVs k v rows cs)
 | .fn f cap=>.fn f (fzAVs k v rows cap)
 | .aU vs=>.aU (fzAVs k v rows vs)
 | .cD a b c d=>.cD a b c d
 | .aZ=>.aZ
 | .d x=>.d x
 | .ptr a b c=>.ptr a b c
 | .dE x j=>.dE x j
 | .gJ t x=>.gJ t x
 | .lit v=>.lit v
 | .nn=>.nn
 | .err=>.err
def fzAVs(k v:Nat)(rows:List D):List AV→List AV
 |[]=>[]
 |x::r=>fzAV k v rows x::fzAVs k v rows r
end
theorem p4(k v rows):∀(l:List AV)(i:Nat),(fzAVs k v rows l)[i]?=(l[i]?).map (fzAV k v rows)
 |[],i=>by simp[fzAVs]
 |x::r,i=>by cases i with|zero=>simp[fzAVs]|succ i=>simp[fzAVs,p4 k v rows r i]
theorem lG(k v rows):∀(l:List AV),(fzAVs k v rows l).length=l.length
 |[]=>rfl
 |x::r=>by simp[fzAVs,lG k v rows r]
def St.freeze(S:St)(k:Nat):St:=
 match Mem.get S.mem k with
 |some ⟨_,v,.vec _ rows⟩=>S.mapAll (fzAV k v rows) ⟨k,v+1,.dead⟩
 |_=>S
theorem I7(S:St)(k:Nat):dS S (S.freeze k):=by
 unfold St.freeze;split
 ·rename_i key v sz rows hg;refine⟨rfl,rfl,fun φ G a w hr=>?_⟩;obtain⟨hm,hk,L,hL,aA,b7⟩:=hr.mem.get hg;simp only at hk aA b7;subst hk;refine Gm hr (fzAV key v rows) (e:=⟨key,v,.vec sz rows⟩) (e':=⟨key,v+1,.dead⟩) hm hL rfl (L':={L with aj:=v+1})
   (by simp only;omega) rfl (fun _ ho=>ho.elim) ?_ (fun _ _ _=>trivial)
  intro φ' F' eX en hF NU x u hx;induction hx with
  |aZ v=>exact .aZ v
  |d x v h=>exact .d x v (h.mono (fun _ _ _=>rfl) (Nat.le_refl _) (fun b _=>hF b))
  |agg cs a hl h1 _ ih=>
   refine .agg _ a (by rw[lG];exact hl) h1 (fun i c v hc hv=>?_);rw[p4]at hc;obtain⟨y,hy,rfl⟩:=Option.map_eq_some_iff.1 hc;exact ih i y v hy hv
  |ptr k2 aj o v2 L2 dR rq h h1=>
   unfold fzAV;by_cases cn:k2=key
   ·subst cn;rw[hL]at dR;cases dR;exact .ptr _ aj o v2 _ eX (by simp only;omega) (fun he=>by simp only at he;omega) h1
   ·exact .ptr k2 aj o v2 L2 (by rw[en _ cn];exact dR) rq h h1
  |vec k2 aj o l v2 L2 dR rq h h1=>
   unfold fzAV;split
   ·rename_i hc;obtain⟨rfl,rfl,pU⟩:=hc;rw[hL]at dR;cases dR;exact .d _ _ (Aj (.vec _ _ o l v2 L hL rq h h1) hL aA b7 pU hF (fun ho=>NU _ (fun hh=>hh) ⟨ho,rfl⟩))
   ·by_cases cn:k2=key
    ·subst cn;rw[hL]at dR;cases dR;exact .vec _ aj o l v2 _ eX (by simp only;omega) (fun he=>by simp only at he;omega) h1
    ·exact .vec k2 aj o l v2 L2 (by rw[en _ cn];exact dR) rq h h1
  |cD k2 aj i j v2 L2 dR rq h h1=>
   unfold fzAV;by_cases cn:k2=key
   ·subst cn;rw[hL]at dR;cases dR;exact .cD _ aj i j v2 _ eX (by simp only;omega) (fun he=>by simp only at he;omega) h1
   ·exact .cD k2 aj i j v2 L2 (by rw[en _ cn];exact dR) rq h h1
  |dE x j b o x' hb mj hx hc=>exact .dE x j b o x' hb (fun h=>mj (hF b h)) (hx.mono (fun _ _ _=>rfl) (Nat.le_refl _) (fun b _=>hF b)) hc
  |fn f cap a hf hl _ ih=>
   refine .fn f _ a hf (by rw[lG];exact hl) (fun i c v hc hv=>?_);rw[p4]at hc;obtain⟨y,hy,rfl⟩:=Option.map_eq_some_iff.1 hc;exact ih i y v hy hv
  |qx f cap a hl _ ih=>
   refine .qx f _ a (by rw[lG];exact hl) (fun i c v hc hv=>?_);rw[p4]at hc;obtain⟨y,hy,rfl⟩:=Option.map_eq_some_iff.1 hc;exact ih i y v hy hv
  |aU vs a hl _ ih=>
   refine .aU _ a (by rw[lG];exact hl) (fun i c v hc hv=>?_);rw[p4]at hc;obtain⟨y,hy,rfl⟩:=Option.map_eq_some_iff.1 hc;exact ih i y v hy hv
  |gJ t x v h=>exact .gJ t x v (h.mono (fun _ _ _=>rfl) (Nat.le_refl _) (fun b _=>hF b))
  |lit v h=>exact .lit v h
  |nn a cap=>exact .nn a cap
  |err t v=>exact .err t v
 ·exact dS.refl S
def resOne(P:Program)(S:St):ResultVar→di
 | .tmp t=>.val (S.opd (.tmp t)).1 (S.opd (.tmp t)).2
 | .cell p t=>match loadR P S.mem t (S.opd (.tmp p)).2 with
  | .val c x=>.val ((S.opd (.tmp p)).1&&c) x
  |_=>.no
def resAll(P:Program)(S:St):List ResultVar→Option (Bool×List AV)
 |[]=>some (true,[])
 |r::rs=>match resOne P S r with
  | .val c x=>match resAll P S rs with
   |some (c',xs)=>some (c&&c',x::xs)
   |none=>none
  |_=>none
def oneOf:List AV→AV
 |[x]=>x
 |xs=>.aU xs
def xA(tmps:Array Value):ResultVar→Sem Value
 | .tmp t=>pure (tmps.getD t undef)
 | .cell a t=>do loadVar t (←asAddr (tmps.getD a undef))
theorem NV{P:Program}{S:St}{r:ResultVar}{c:Bool}{x:AV}(h:resOne P S r=.val c x)(hc:c=true){φ G a w}(hr:Rel φ G S a w):
 ∃v,(xA a.tmps r).run P w=.ok v w∧aB φ w (Fo G φ S.mem) x v:=by
 unfold resOne at h;split at h
 ·rename_i t;simp only[di.val.injEq]at h;obtain⟨rfl,rfl⟩:=h;exact⟨_,rfl,hr.opd (.tmp t) hc⟩
 ·rename_i p t;split at h
  ·rename_i c' x' hl;simp only[di.val.injEq]at h;obtain⟨rfl,rfl⟩:=h;simp only[Bool.and_eq_true]at hc;have:=Jv P S {dst:=none,op:=.load t (.tmp p),type:=0,pos:= "",after:=#[],guard:=none} t (.tmp p) rfl hc.1;rw[hl]at this;obtain⟨v,nQ,bY⟩:=this hc.2 φ G a w hr;have bU:a.eval (.tmp p)=a.tmps.getD p undef:=rfl;simp only[execOp,Instr.loadAt,bU]at nQ;cases zB:a.tmps.getD p undef with
   |pointer ad=>
    rw[zB]at nQ;cases ad with
    |none=>simp[Instr.sureAddr,stuck]at nQ
    |some ad=>
     simp only[Instr.sureAddr,Sem.run_bind,Sem.run_pure,Result.andThen_ok]at nQ;generalize hq:(loadVar t ad).run P w=q at nQ;cases q with
     |halt _ _=>simp at nQ
     |ok v2 w2=>
      simp at nQ;obtain⟨rfl,rfl⟩:=nQ;refine⟨v2,?_,bY⟩;simp only[xA,zB,asAddr,Sem.run_bind,Sem.run_pure,Result.andThen_ok,hq]
   |_=>rw[zB]at nQ;simp[Instr.sureAddr,stuck]at nQ
  ·cases h
theorem vp{P:Program}{S:St}{φ G a w}(hr:Rel φ G S a w):∀(rs:List ResultVar)(c:Bool)(xs:List AV),resAll P S rs=some (c,xs)→c=true→
 ∃vs:List Value,(rs.mapM (xA a.tmps)).run P w=.ok vs w∧xs.length=vs.length∧
  ∀(i:Nat) x v,xs[i]?=some x→vs[i]?=some v→aB φ w (Fo G φ S.mem) x v
 |[],c,xs,h,_=>by
  simp only[resAll,Option.some.injEq,Prod.mk.injEq]at h;obtain⟨_,rfl⟩:=h;exact⟨[],by simp,rfl,by simp⟩
 |r::rs,c,xs,h,hc=>by
  simp only[resAll]at h;split at h
  ·rename_i c1 x hx;split at h
   ·rename_i c2 Br mK;simp only[Option.some.injEq,Prod.mk.injEq]at h;obtain⟨rfl,rfl⟩:=h;simp only[Bool.and_eq_true]at hc;obtain⟨v,h1,h2⟩:=NV hx hc.1 hr;obtain⟨vs,h3,h4,h5⟩:=vp (P:=P) hr rs c2 Br mK hc.2;refine⟨v::vs,?_,by simp[h4],fun i x v h h'=>?_⟩
    ·rw[List.mapM_cons];simp only[Sem.run_bind,h1,Result.andThen_ok,h3,Sem.run_pure]
    ·cases i with
     |zero=>simp at h h';subst h;subst h';exact h2
     |succ i=>exact h5 i x v (by simpa using h) (by simpa using h')
   ·cases h
  ·cases h
mutual
def refAV(k v:Nat):AV→Option (Nat×Nat)
 | .vec k' v' o l=>if k'=k∧v'=v then some (o,l)else none
 | .agg cs=>refAVs k v cs
 | .fn _ cap=>refAVs k v cap
 | .aU vs=>refAVs k v vs
 | .cD _ _ _ _=>none
 | .aZ=>none
 | .d _=>none
 | .ptr _ _ _=>none
 | .dE _ _=>none
 | .gJ _ _=>none
 | .lit _=>none
 | .nn=>none
 | .err=>none
def refAVs(k v:Nat):List AV→Option (Nat×Nat)
 |[]=>none
 |x::r=>match refAV k v x with
  |some p=>some p
  |none=>refAVs k v r
end
def refMem(k v:Nat):Mem→Option (Nat×Nat)
 |[]=>none
 |⟨_,_,.box cs⟩::r=>match refAVs k v cs with
  |some p=>some p
  |none=>refMem k v r
 |_::r=>refMem k v r
def refEnv(k v:Nat):Env→Option (Nat×Nat)
 |[]=>none
 |(_,_,x)::r=>match refAV k v x with
  |some p=>some p
  |none=>refEnv k v r
def St.trim1(S:St)(k:Nat):St:=
 match Mem.get S.mem k with
 |some ⟨_,v,.vec _ _⟩=>match refMem k v S.mem with
  |some (o,l)=>S.trim k o l
  |none=>match refEnv k v S.env with
   |some (o,l)=>S.trim k o l
   |none=>S
 |_=>S
theorem BC(S:St)(k:Nat):dS S (S.trim1 k):=by
 unfold St.trim1;split
 ·split
  ·exact DV ..
  ·split
   ·exact DV ..
   ·exact dS.refl S
 ·exact dS.refl S
def St.trims(S:St):List Nat→St
 |[]=>S
 |k::r=>(S.trim1 k).trims r
theorem BD:∀(l:List Nat)(S:St),dS S (S.trims l)
 |[],S=>dS.refl S
 |k::r,S=>(BC S k).trans (BD r _)
mutual
def avKeys:AV→List Nat
 | .ptr k _ _=>[k]
 | .vec k _ _ _=>[k]
 | .cD k _ _ _=>[k]
 | .agg cs=>avsKeys cs
 | .fn _ cap=>avsKeys cap
 | .aU vs=>avsKeys vs
 | .aZ=>[]
 | .d _=>[]
 | .dE _ _=>[]
 | .gJ _ _=>[]
 | .lit _=>[]
 | .nn=>[]
 | .err=>[]
def avsKeys:List AV→List Nat
 |[]=>[]
 |x::r=>avKeys x++avsKeys r
end
def contKeys:Option cH→List Nat
 |some ⟨_,_,.box cs⟩=>avsKeys cs
 |some ⟨_,_,.vv _ (some x)⟩=>avKeys x
 |_=>[]
def collect(m:Mem):Nat→List Nat→List Nat→List Nat
 |0,_,acc=>acc
 |_+1,[],acc=>acc
 |n+1,k::todo,acc=>match acc.contains k||(Mem.get m k).isNone with
  |true=>collect m n todo acc
  |false=>collect m n (todo++contKeys (Mem.get m k)) (acc++[k])
theorem nS(m:Mem):∀(n:Nat)(todo acc:List Nat),acc.Nodup→(∀k∈acc,(Mem.get m k).isSome=true)→(collect m n todo acc).Nodup∧∀k∈collect m n todo acc,(Mem.get m k).isSome=true
 |0,todo,acc,h,hs=>⟨h,hs⟩
 |n+1,[],acc,h,hs=>⟨h,hs⟩
 |n+1,k::todo,acc,h,hs=>by
  simp only[collect];split
  ·exact nS m n todo acc h hs
  ·rename_i hc;simp only[Bool.or_eq_false_iff,List.contains_eq_mem,decide_eq_false_iff_not,Option.isNone_eq_false_iff]at hc;refine nS m n _ _ ?_ ?_
   ·rw[List.nodup_append];exact⟨h,by simp,fun a ha b hb sF=>by simp at hb;subst hb;subst sF;exact hc.1 ha⟩
   ·intro x hx;rcases List.mem_append.1 hx with hx|hx
    ·exact hs x hx
    ·simp at hx;subst hx;exact hc.2
def dead(k:Nat):cH:=⟨k,0,.dead⟩
def bM.add(φ:bM)(ks:List Nat):bM:=fun k=>if k∈ks then some ⟨0,0,0,0,0,[]⟩else φ k
theorem yK{φ:bM}{m:Mem}{ks:List Nat}(hd:∀k∈ks,k∉m.map (·.key))(b:Nat):iq (φ.add ks) (m++ks.map dead) b↔iq φ m b:=by
 constructor
 ·rintro ⟨e,he,L,hL,ho⟩;rcases List.mem_append.1 he with he|he
  ·have:e.key∉ks:=fun h=>hd _ h (List.mem_map_of_mem he);simp only[bM.add,this,if_false]at hL;exact⟨e,he,L,hL,ho⟩
  ·simp only[List.mem_map]at he;obtain⟨k,_,rfl⟩:=he;exact ho.elim
 ·rintro ⟨e,he,L,hL,ho⟩;have:e.key∉ks:=fun h=>hd _ h (List.mem_map_of_mem he);exact⟨e,List.mem_append_left _ he,L,by simp[bM.add,this,hL],ho⟩
theorem aa7{φ:bM}{G}{m:Mem}{ks:List Nat}(hd:∀k∈ks,k∉m.map (·.key)):Fo G (φ.add ks) (m++ks.map dead)=Fo G φ m:=by
 funext b;simp only[Fo,yK hd b]
theorem Gn{φ:bM}{G m w}(h:bj φ G m w){ks:List Nat}(hd:∀k∈ks,k∉m.map (·.key)):φ.le (φ.add ks):=by
 intro k L hL;have:k∉ks:=fun hk=>hd k hk (h.oB k L hL);exact⟨L,by simp[bM.add,this,hL],Nat.le_refl _,fun _=>rfl⟩
theorem bj.add{φ G m w}(h:bj φ G m w){ks:List Nat}(hn:ks.Nodup)(hd:∀k∈ks,k∉m.map (·.key)):bj (φ.add ks) G (m++ks.map dead) w:=by
 have hle:=Gn h hd;have hF:=aa7 (φ:=φ) (G:=G) hd;refine⟨?_,?_,?_,?_,?_,h.bound⟩
 ·rw[List.map_append,List.nodup_append];have e:(ks.map dead).map (·.key)=ks:=by simp[Function.comp_def,dead]
  rw[e];exact⟨h.nodup,hn,fun a ha b hb sF=>hd b hb (sF▸ha)⟩
 ·intro k L hL;simp only[bM.add]at hL;split at hL
  ·rename_i hk;rw[List.map_append];refine List.mem_append_right _ ?_;rw[List.map_map];exact List.mem_map.2 ⟨k,hk,rfl⟩
  ·rw[List.map_append];exact List.mem_append_left _ (h.oB k L hL)
 ·intro e he;rw[hF];rcases List.mem_append.1 he with he|he
  ·obtain⟨L,hL,hv,hc⟩:=h.eV e he;have:e.key∉ks:=fun h=>hd _ h (List.mem_map_of_mem he);exact⟨L,by simp[bM.add,this,hL],hv,hc.mono hle (fun _ _ _=>rfl) (Nat.le_refl _) (fun _ _ h=>h) (fun _ _=>rfl)⟩
  ·simp only[List.mem_map]at he;obtain⟨k,hk,rfl⟩:=he;exact⟨⟨0,0,0,0,0,[]⟩,by simp[bM.add,dead,hk],rfl,trivial⟩
 ·rintro e he e' nR L L' hL bO ⟨b,ho,cg⟩;rcases List.mem_append.1 he with he|he
  ·rcases List.mem_append.1 nR with nR|nR
   ·have h1:e.key∉ks:=fun h=>hd _ h (List.mem_map_of_mem he);have h2:e'.key∉ks:=fun h=>hd _ h (List.mem_map_of_mem nR);simp only[bM.add,h1,h2,if_false]at hL bO;exact h.apart e he e' nR L L' hL bO ⟨b,ho,cg⟩
   ·simp only[List.mem_map]at nR;obtain⟨k,_,rfl⟩:=nR;exact cg.elim
  ·simp only[List.mem_map]at he;obtain⟨k,_,rfl⟩:=he;exact ho.elim
 ·intro b hb hG;exact h.jY b ((yK hd b).1 hb) hG
def entryEnv:Nat→List AV→Env
 |_,[]=>[]
 |i,x::r=>(i,true,x)::entryEnv (i+1) r
theorem vq:∀(i:Nat)(xs:List AV)(t:Nat)(y:Bool×AV),Env.lk (entryEnv i xs) t=some y→∃j,t=i+j∧xs[j]?=some y.2
 |i,[],t,y,h=>by simp[entryEnv,Env.lk]at h
 |i,x::r,t,y,h=>by
  simp only[entryEnv,Env.lk]at h;by_cases ht:i=t
  ·subst ht;simp at h;subst h;exact⟨0,rfl,rfl⟩
  ·simp only[ht,if_false]at h;obtain⟨j,rfl,hj⟩:=vq (i+1) r t y h;exact⟨j+1,by omega,by simpa using hj⟩
def inM:Nat→List aE→Mem
 |_,[]=>[]
 |i,c::r=>⟨i,0,c⟩::inM (i+1) r
theorem Gp:∀(cs:List aE)(i:Nat),inM i cs=mkM i (cs.map fun c=>(0,c))
 |[],i=>rfl
 |c::r,i=>by simp[inM,mkM,Gp r]
def entry(n:Nat)(gl:List (Nat×D))(args:List AV)(cs:List aE)(sites:List Nat):St:={n,gl,env:=entryEnv 0 args,mem:=inM 0 cs++sites.map dead}
def nvX(n0:Nat)(i v:Nat):Nat:=if i<n0 then (if v=0 then 0 else 1)else 0
structure ay where
 akL:List Nat
 exp:Bool
 sites:List Nat
 vr:List Nat
 split:Bool
def finKeys(p:ay)(n0:Nat)(m:Mem)(xs:List AV):List Nat:=
 match p.exp with
 |true=>List.range n0++(collect m 64 (avsKeys xs++List.range n0) []).filter (fun k=>!decide (k<n0))
 |false=>List.range n0
def envVals:Env→List AV
 |[]=>[]
 |(_,_,x)::r=>x::envVals r
def nrm:Bool→AV→AV
 |true,x=>x
 |false,x=>x.norm
theorem aB.nrm{b:Bool}{φ w F x v}(h:aB φ w F x v):aB φ w F (nrm b x) v:=by
 cases b
 ·exact h.norm
 ·exact h
def finOut(b:Bool)(K:List Nat)(n0:Nat)(S:St)(one:List AV→Out):Option (Out×List (Nat×aE)):=
 if K.all (fun k=>(Mem.get S.mem k).isSome)then some (one ((envVals S.env).map fun x=>nrm b (vw S.mem K (fun _=>true) (nvX n0) x)),selL S.mem K (fun _=>true) (nvX n0) 0 K)else none
def finTrim(p:ay)(K:List Nat)(S:St):St:=S.trims (K.filter fun k=>!p.akL.contains k)
def finVals(p:ay)(n0:Nat)(S:St)(xs:List AV)(one:List AV→Out):Option (Out×List (Nat×aE)):=
 let K:=finKeys p n0 S.mem xs
 finOut (p.vr.contains 1000) K n0 (finTrim p K {S with n:=xs.length,env:=entryEnv 0 xs}) one
def finish(P:Program)(p:ay)(n0:Nat)(rs:List ResultVar)(S:St):Option (Out×List (Nat×aE)):=
 match resAll P S rs with
 |some (c,xs)=>if c=true then finVals p n0 S xs (fun ys=>.ret (oneOf ys))else none
 |none=>none
def finPanic(p:ay)(n0:Nat)(t:TypeId)(x:D)(S:St):Option (Out×List (Nat×aE)):=finVals p n0 S [] (fun _=>.panic t x)
def fM:Env→List (Nat×Bool)
 |[]=>[]
 |(t,g,_)::r=>(t,g)::fM r
theorem zL(τ:AV→AV):∀env:Env,fM (mapEnv τ env)=fM env
 |[]=>rfl
 |(t,g,x)::r=>by simp[mapEnv,fM,zL τ r]
theorem DW(S:St)(k o l:Nat):fM (S.trim k o l).env=fM S.env:=by
 unfold St.trim;split
 ·split
  ·exact zL _ _
  ·rfl
 ·rfl
theorem NW(S:St)(k:Nat):fM (S.trim1 k).env=fM S.env:=by
 unfold St.trim1;split
 ·split
  ·exact DW ..
  ·split
   ·exact DW ..
   ·rfl
 ·rfl
theorem BE:∀(l:List Nat)(S:St),fM (S.trims l).env=fM S.env
 |[],S=>rfl
 |k::r,S=>by rw[St.trims,BE r,NW]
theorem BF:∀(i:Nat)(xs:List AV),fM (entryEnv i xs)=(List.range' i xs.length).map fun j=>(j,true)
 |i,[]=>rfl
 |i,x::r=>by simp[entryEnv,fM,BF (i+1) r,List.range'_succ]
theorem JL:∀(env:Env)(i n j:Nat),fM env=(List.range' i n).map (fun j=>(j,true))→∀x,(envVals env)[j]?=some x→Env.lk env (i+j)=some (true,x)
 |[],i,n,j,_,x,hx=>by simp[envVals]at hx
 |(t,g,y)::r,i,n,j,h,x,hx=>by
  cases n with
  |zero=>simp[fM]at h
  |succ n=>
   simp only[fM,List.range'_succ,List.map_cons,List.cons.injEq,Prod.mk.injEq]at h;obtain⟨⟨rfl,rfl⟩,h⟩:=h;cases j with
   |zero=>simp[envVals]at hx;subst hx;simp[Env.lk]
   |succ j=>
    have:=JL r (t+1) n j h x (by simpa [envVals]using hx);simp only[Env.lk];rw[if_neg (by omega),show t+(j+1)=t+1+j by omega];exact this
theorem uq:∀env:Env,(envVals env).length=(fM env).length
 |[]=>rfl
 |(_,_,_)::r=>by simp[envVals,fM,uq r]
theorem E5(p:ay)(n0:Nat)(m:Mem)(xs:List AV):(finKeys p n0 m xs).Nodup:=by
 unfold finKeys;split
 ·rw[List.nodup_append];refine⟨List.nodup_range,((nS m 64 _ [] List.nodup_nil (by simp)).1).filter _,fun a ha b hb sF=>?_⟩;simp only[List.mem_range]at ha;simp only[List.mem_filter,Bool.not_eq_true',decide_eq_false_iff_not]at hb;omega
 ·exact List.nodup_range
theorem I8(p:ay)(n0:Nat)(m:Mem)(xs:List AV){k:Nat}(hk:k<n0):(finKeys p n0 m xs)[k]?=some k:=by
 unfold finKeys;split
 ·rw[List.getElem?_append_left (by simpa using hk)];simp[hk]
 ·simp[hk]
theorem qP{p:ay}{n0:Nat}{S:St}{xs:List AV}{one:List AV→Out}{out:Out}{l:List (Nat×aE)}(h:finVals p n0 S xs one=some (out,l))
 {φ:bM} {G:Fr} {w:World} (hm:bj φ G S.mem w) (hg:eF w (Fo G φ S.mem) S.gl) {vs:List Value} (hl:xs.length=vs.length)
 (hx:∀(i:Nat) x v,xs[i]?=some x→vs[i]?=some v→aB φ w (Fo G φ S.mem) x v) {φ0:bM} {m0:Mem} {w0:World} (hk:aP φ0 m0 w0 φ S.mem w) (oW:∀k L,φ0 k=some L→k<n0∧L.aj=0):
 ∃φ' ys,out=one ys∧bj φ' G (mkM 0 l) w∧aP φ0 m0 w0 φ' (mkM 0 l) w∧ys.length=vs.length∧(∀(i:Nat) y v,ys[i]?=some y→vs[i]?=some v→aB φ' w (Fo G φ' (mkM 0 l)) y v)∧
  ∀b,Fo G φ' (mkM 0 l) b→Fo G φ S.mem b:=by
 unfold finVals at h;obtain⟨K,hK⟩:∃K,K=finKeys p n0 S.mem xs:=⟨_,rfl⟩;have hKn:K.Nodup:=by rw[hK];exact E5 ..
 have hKl:∀k,k<n0→K[k]?=some k:=fun k h=>by rw[hK];exact I8 _ _ _ _ h
 simp only[←hK]at h;clear hK;have rI:Rel φ G {S with n:=xs.length,env:=entryEnv 0 xs} {tmps:=vs.toArray,defers:=G.dv} w:=by
  refine⟨by simp[hl],rfl,fun t x ht=>?_,hm,hg⟩;obtain⟨j,rfl,hj⟩:=vq 0 xs t _ ht;have gP:j<vs.length:=by rw[←hl];exact (List.getElem?_eq_some_iff.1 hj).1
  have e:vs.toArray.getD (0+j) undef=vs[j]:=by simp[gP]
  simp only[e];exact hx j x _ hj (by simp[gP])
 obtain⟨S2,Wm⟩:∃S2,S2=finTrim p K {S with n:=xs.length,env:=entryEnv 0 xs}:=⟨_,rfl⟩;have ht:dS {S with n:=xs.length,env:=entryEnv 0 xs} S2:=by rw[Wm];exact BD ..
 have Wn:fM S2.env=(List.range' 0 xs.length).map fun j=>(j,true):=by
  rw[Wm,finTrim,BE];exact BF 0 xs
 rw[←Wm]at h;clear Wm;obtain⟨φ2,iN,cn⟩:=ht.2.2 φ G _ w rI;unfold finOut at h;split at h
 ·rename_i dP;simp only[Option.some.injEq,Prod.mk.injEq]at h;obtain⟨rfl,rfl⟩:=h;have jt:=iN.mem;have Wo:∀k∈K,(Mem.get S2.mem k).isSome=true:=by simpa using dP
  obtain⟨s1,s2,s3⟩:=yJ (G1:=G) (ρ:=K) (bor:=fun _=>true) (nv:=nvX n0) jt hKn Wo (fun b h=>.inl h) (fun b h=>jt.jY b h.own)
   (fun k e L b hg _ _ hL ho=>jt.jY _ ⟨e,(Mem.get_mem hg).1,L,by rw[(Mem.get_mem hg).2];exact hL,ho⟩)
  have Al:=hk.trans cn;refine⟨φ2.gU K (nvX n0),_,rfl,s1,⟨?_,Al.wV,?_,Al.size,Al.os,Al.tape,Al.output⟩,?_,?_,?_⟩
  ·intro k L hL;obtain⟨hkn,aA⟩:=oW k L hL;obtain⟨L2,h1,h2,h3⟩:=Al.le k L hL;refine⟨{L2 with aj:=nvX n0 k L2.aj},by simp[bM.gU,hKl k hkn,h1],by simp[aA],fun he=>?_⟩;simp only[nvX,hkn,if_true,aA]at he;split at he
   ·rename_i h0;have h4:=h3 (by rw[aA];exact h0);have g1:=congrArg Loc.aj h4;have g2:=congrArg Loc.du h4;have g3:=congrArg Loc.sz h4;have g4:=congrArg Loc.cap h4;have g5:=congrArg Loc.base h4;simp only at g1 g2 g3 g4 g5⊢;rw[g1,g2,g3,g4,g5];simp only[nvX,hkn,if_true,aA]
   ·simp at he
  ·intro b hb ho;exact Al.own b hb ((uo (φ:=φ2) (nv:=nvX n0) (bor:=fun _=>true) Wo b).1 ho).own
  ·rw[List.length_map,uq,Wn];simp[hl]
  ·intro i y v hy hv;rw[List.getElem?_map]at hy;obtain⟨x,hx2,rfl⟩:=Option.map_eq_some_iff.1 hy;have h5:=JL S2.env 0 xs.length i Wn x hx2;rw[Nat.zero_add]at h5;have h6:=iN.env i x h5;have e:vs.toArray.getD i undef=v:=by simp[hv]
   simp only[e]at h6;exact (s2 x v h6).nrm
  ·intro b hb;have h7:=s3 b hb;rcases h7 with h7|h7
   ·exact .inl h7
   ·rcases Nat.lt_or_ge b w.heap.size with h8|h8
    ·exact .inr (cn.own b h8 h7)
    ·exact absurd (jt.Bk h7) (by omega)
 ·cases h
def keyTop:AV→List Nat
 | .ptr k _ _=>[k]
 | .vec k _ _ _=>[k]
 | .cD k _ _ _=>[k]
 |_=>[]
def keysTop(S:St):List Operand→List Nat
 |[]=>[]
 |x::r=>keyTop (S.opd x).2++keysTop S r
def topsOf(S:St):Op→List Nat
 | .move _=>[]
 | .assign _=>[]
 |op=>keysTop S op.operands.toList
def touch(S:St)(o:Oper):List Nat:=keyOf o::topsOf S o.op
theorem zM{S:St}:∀{l:List Operand}{x:Operand},x∈l→∀k∈keyTop (S.opd x).2,k∈keysTop S l
 |[],x,h,_,_=>by simp at h
 |y::r,x,h,k,hk=>by
  simp only[keysTop,List.mem_append];rcases List.mem_cons.1 h with rfl|h
  ·exact .inl hk
  ·exact .inr (zM h k hk)
section
variable {P:Program} {m m':Mem}
theorem QK{t p}(h:∀k∈keyTop p,Mem.get m' k=Mem.get m k):loadR P m' t p=loadR P m t p:=by
 cases p<;>simp_all [loadR,keyTop]
theorem tG{sz x}(h:∀k∈keyTop x,Mem.get m' k=Mem.get m k):srcRows m' sz x=srcRows m sz x:=by
 cases x with
 |vec k aj off len=>simp only[srcRows,h k (by simp[keyTop])]
 |d x=>cases x<;>rfl
 |lit v=>unfold srcRows;split<;>simp_all
 |_=>rfl
theorem NX{t p x}(h:∀k∈keyTop p,Mem.get m' k=Mem.get m k):storeR P m' t p x=storeR P m t p x:=by
 cases p<;>simp_all [storeR,keyTop]
theorem NY{s f p}(h:∀k∈keyTop p,Mem.get m' k=Mem.get m k):fieldRm P m' s f p=fieldRm P m s f p:=by
 cases p<;>simp_all [fieldRm,keyTop]
theorem E6{p}(h:∀k∈keyTop p,Mem.get m' k=Mem.get m k):nilCheckR m' p=nilCheckR m p:=by
 cases p<;>simp_all [nilCheckR,keyTop]
theorem NZ{t p i}(h:∀k∈keyTop p,Mem.get m' k=Mem.get m k):indexR P m' t p i=indexR P m t p i:=by
 cases p with
 |vec k aj off len=>simp only[indexR,h k (by simp[keyTop])]
 |ptr k aj off=>simp only[indexR,h k (by simp[keyTop])]
 |cD k aj i j=>simp only[indexR,h k (by simp[keyTop])]
 |d x=>cases x<;>rfl
 |_=>rfl
theorem N0{t p lo hi}(h:∀k∈keyTop p,Mem.get m' k=Mem.get m k):sliceR P m' t p lo hi=sliceR P m t p lo hi:=by
 cases p with
 |cD k aj i j=>simp only[sliceR,h k (by simp[keyTop])]
 |vec k aj off len=>simp only[sliceR,h k (by simp[keyTop])]
 |ptr k aj off=>simp only[sliceR,h k (by simp[keyTop])]
 |d x=>cases x<;>rfl
 |_=>rfl
theorem Uc{k c cs}(h:Mem.get m' k=Mem.get m k):boxR m' k c cs=boxR m k c cs:=by simp only[boxR,h]
theorem N1{k t}(h:Mem.get m' k=Mem.get m k):allocR P m' k t=allocR P m k t:=by simp only[allocR,arrR,boxR,h]
theorem QL{k s d x}(h:Mem.get m' k=Mem.get m k)(hx:∀k∈keyTop x,Mem.get m' k=Mem.get m k):convR P m' k s d x=convR P m k s d x:=by
 have e:=tG (m:=m) (m':=m') (sz:=1) hx;cases htd:tk P d<;>cases x with
 |d x=>cases x<;>simp only[convR,htd,e,h]
 |_=>simp only[convR,htd,e]
theorem QM{k s d x}(h:Mem.get m' k=Mem.get m k)(hx:∀k∈keyTop x,Mem.get m' k=Mem.get m k):convM P m' k s d x=convM P m k s d x:=by
 have e:=QL (P:=P) (s:=s) (d:=d) h hx;cases x with
 |vec k1 aj off len=>simp only[convM,e,hx k1 (by simp[keyTop])]
 |_=>simp only[convM,e]
theorem QN{k t l c}(h:Mem.get m' k=Mem.get m k):makeR P m' k t l c=makeR P m k t l c:=by simp only[makeR,h]
theorem BG{k t n ps}(h:Mem.get m' k=Mem.get m k):buildSliceR P m' k t n ps=buildSliceR P m k t n ps:=by simp only[buildSliceR,buildSlice0,h]
theorem Ud{t x}(h:∀k∈keyTop x,Mem.get m' k=Mem.get m k):lenRm P m' t x=lenRm P m t x:=by
 cases x with
 |vec k aj off len=>simp only[lenRm,h k (by simp[keyTop])]
 |d x=>cases x<;>rfl
 |lit v=>unfold lenRm;split<;>simp_all
 |_=>rfl
theorem Ue{u sz ib zd s x}(hs:∀k∈keyTop s,Mem.get m' k=Mem.get m k)(hx:∀k∈keyTop x,Mem.get m' k=Mem.get m k):appV P m' u sz ib zd s x=appV P m u sz ib zd s x:=by
 cases s with
 |vec k aj off len=>
  cases x with
  |vec kx vx ox lx=>
   match ox,lx with
   |0,1=>simp only[appV,hs k (by simp[keyTop]),hx kx (by simp[keyTop])]
   |0,0=>rfl
   |0,_+2=>rfl
   |_+1,_=>rfl
  |_=>rfl
 |_=>rfl
theorem Uf{P:Program}{m:Mem}{u:TypeId}{sz ib:Nat}{zd:D}{s x:AV}{c:Bool}{k v off n:Nat}{e:cH}(h:appV P m u sz ib zd s x=.cW c (.vec k v off n) e):k∈keyTop s:=by
 unfold appV at h;split at h
 ·split at h
  ·cases h;simp[keyTop]
  ·cases h
 ·cases h
theorem Ug{k t u s x}(h:Mem.get m' k=Mem.get m k)(hs:∀k∈keyTop s,Mem.get m' k=Mem.get m k)(hx:∀k∈keyTop x,Mem.get m' k=Mem.get m k):appR P m' k t u s x=appR P m k t u s x:=by
 unfold appR appSrc;simp only[tG hx,h,Ue hs hx];cases s with
 |vec k aj off len=>simp only[hs k (by simp[keyTop])]
 |lit v=>
  cases v with
  |slice ao n c=>cases ao<;>cases n<;>cases c<;>simp only
  |_=>rfl
 |_=>rfl
theorem Uh{P:Program}{m:Mem}{k0:Nat}{t u:TypeId}{s x:AV}{c:Bool}{k v off n:Nat}{e:cH}(h:appR P m k0 t u s x=.cW c (.vec k v off n) e):k=k0∨k∈keyTop s:=by
 unfold appR at h;split at h
 ·split at h
  ·split at h
   ·split at h
    ·split at h
     ·cases h;right;simp[keyTop]
     ·cases h
    ·split at h
     ·cases h;left;rfl
     ·cases h
    ·cases h
   ·exact .inr (Uf h)
  ·cases h
 ·cases h
theorem QO{P:Program}{m m':Mem}{k t u s x}(h:Mem.get m' k=Mem.get m k)(hs:∀k∈keyTop s,Mem.get m' k=Mem.get m k)(hx:∀k∈keyTop x,Mem.get m' k=Mem.get m k):
 fzRes m' (Mem.get m' k).isSome k (appR P m' k t u s x)=fzRes m (Mem.get m k).isSome k (appR P m k t u s x):=by
 rw[Ug h hs hx,h];unfold fzRes;generalize hr:appR P m k t u s x=r;split
 ·rename_i c k1 v n k' v' sz rows;have hk:Mem.get m' k1=Mem.get m k1:=by
   rcases Uh hr with rfl|hk
   ·exact h
   ·exact hs _ hk
  rw[hk]
 ·rfl
theorem DX{k t x}(h:Mem.get m' k=Mem.get m k):moveR P m' k t x=moveR P m k t x:=by
 unfold moveR;simp only[h]
theorem Ui{neg t x v}(h:∀k∈keyTop x,Mem.get m' k=Mem.get m k):nilR P m' neg t x v=nilR P m neg t x v:=by
 cases x with
 |vec k aj off len=>unfold nilR;simp only[h k (by simp[keyTop])]
 |ptr k aj off=>unfold nilR;simp only[h k (by simp[keyTop])]
 |d x=>unfold nilR;cases x with
  |list xs=>cases xs<;>rfl
  |_=>rfl
 |lit u=>unfold nilR;cases u with
  |slice ao n c=>cases ao<;>cases n<;>cases c<;>rfl
  |pointer a=>cases a<;>rfl
  |_=>rfl
 |_=>rfl
theorem QP{t s x}(hs:∀k∈keyTop s,Mem.get m' k=Mem.get m k)(hx:∀k∈keyTop x,Mem.get m' k=Mem.get m k):copyR P m' t s x=copyR P m t s x:=by
 unfold copyR;simp only[tG hx];cases s with
 |vec k aj off len=>simp only[hs k (by simp[keyTop])]
 |_=>rfl
end
theorem DY{P:Program}{S S':St}{o:Oper}(hx:∀x∈o.op.operands.toList,S'.opd x=S.opd x)(hk:∀k∈touch S o,Mem.get S'.mem k=Mem.get S.mem k):stepv P S' o=stepv P S o:=by
 have nA:Mem.get S'.mem (keyOf o)=Mem.get S.mem (keyOf o):=hk _ (by simp[touch]);have ui:match o.op with
  | .move _=>True
  | .assign _=>True
  |op=>∀x∈op.operands.toList,∀k∈keyTop (S.opd x).2,Mem.get S'.mem k=Mem.get S.mem k:=by
  unfold touch at hk;generalize o.op=op at hk;cases op<;>first|trivial|exact fun x gm k ny=>hk k (List.mem_cons_of_mem _ (zM gm k ny))
 have Uj:∀(l:List Operand),(∀x∈l,S'.opd x=S.opd x)→l.map (fun x=>(S'.opd x).2)=l.map (fun x=>(S.opd x).2):=fun l hl=>List.map_congr_left (fun x gm=>by rw[hl x gm]);have Wp:∀(l:List (Nat×Operand)),(∀x∈l,S'.opd x.2=S.opd x.2)→l.map (fun x=>(x.1,(S'.opd x.2).2))=l.map (fun x=>(x.1,(S.opd x.2).2)):=fun l hl=>List.map_congr_left (fun x gm=>by rw[hl x gm]);unfold stepv;generalize cS:o.op=op at hx ui;cases op with
 |move x=>simp only[hx x (by simp[Op.operands]),DX nA]
 |assign x=>simp only[hx x (by simp[Op.operands]),DX nA]
 |pick c a b=>simp only[hx c (by simp[Op.operands]),hx a (by simp[Op.operands]),hx b (by simp[Op.operands])]
 |alloc t=>simp only[N1 nA]
 |box t x=>simp only[hx x (by simp[Op.operands]),Uc nA]
 |load t x=>simp only[hx x (by simp[Op.operands]),QK (ui x (by simp[Op.operands]))]
 |store t p x=>simp only[hx x (by simp[Op.operands]),hx p (by simp[Op.operands]),NX (ui p (by simp[Op.operands]))]
 |fieldAddr s x f=>simp only[hx x (by simp[Op.operands]),NY (ui x (by simp[Op.operands]))]
 |nilCheck x=>simp only[hx x (by simp[Op.operands]),E6 (ui x (by simp[Op.operands]))]
 |indexAddr t x i=>simp only[hx x (by simp[Op.operands]),hx i (by simp[Op.operands]),NZ (ui x (by simp[Op.operands]))]
 |index t x i=>simp only[hx x (by simp[Op.operands]),hx i (by simp[Op.operands])]
 |slice t x lo hi mx=>
  cases mx with
  |none=>
   have cP:lo.map (fun y=>(S'.opd y).2)=lo.map (fun y=>(S.opd y).2):=by cases lo with|none=>rfl|some y=>simp[hx y (by simp[Op.operands])]
   have nw:hi.map (fun y=>(S'.opd y).2)=hi.map (fun y=>(S.opd y).2):=by cases hi with|none=>rfl|some y=>simp[hx y (by simp[Op.operands])]
   simp only[hx x (by simp[Op.operands]),cP,nw,N0 (ui x (by simp[Op.operands]))]
  |some _=>rfl
 |binOp op t x y t'=>
  have e1:=hx x (by simp[Op.operands]);have e2:=hx y (by simp[Op.operands]);have ny:=ui x (by simp[Op.operands]);simp only
  unfold binOpR;cases y with
  |const v=>simp only[e1,Ui ny];rfl
  |_=>simp only[e1,e2]
 |unOp op t x=>simp only[hx x (by simp[Op.operands])]
 |convert s d x=>simp only[hx x (by simp[Op.operands]),QM nA (ui x (by simp[Op.operands]))]
 |makeInterface t x=>simp only[hx x (by simp[Op.operands])]
 |makeFunc f first cap=>simp only[Uj cap.toList (fun x gm=>hx x (by simp[Op.operands];right;simpa using gm)),Uj first.toList (fun x gm=>hx x (by simp[Op.operands];left;simpa using gm))]
 |makeSlice t l c=>simp only[hx l (by simp[Op.operands]),hx c (by simp[Op.operands]),QN nA]
 |build t ps=>simp only[Wp ps.toList (fun x gm=>hx x.2 (by simp only[Op.operands,List.toList_toArray,List.mem_map];exact⟨x,gm,rfl⟩))]
 |buildSlice t n ps=>simp only[Wp ps.toList (fun x gm=>hx x.2 (by simp only[Op.operands,List.toList_toArray,List.mem_map];exact⟨x,gm,rfl⟩)),BG nA]
 |extract x i=>simp only[hx x (by simp[Op.operands])]
 |field s x f=>simp only[hx x (by simp[Op.operands])]
 |typeAssert x xt t ok=>simp only[hx x (by simp[Op.operands])]
 |call c=>
  obtain⟨callee,args,gV⟩:=c;cases callee with
  |builtin b=>
   have ha:∀x∈args.toList,S'.opd x=S.opd x:=fun x gm=>hx x (by simp[Op.operands,Call.operands];simpa using gm);have DZ:∀x∈args.toList,∀k∈keyTop (S.opd x).2,Mem.get S'.mem k=Mem.get S.mem k:=fun x gm=>ui x (by simp[Op.operands,Call.operands];simpa using gm);simp only
   unfold builtinR;have em:=Uj args.toList ha;generalize args.toList=al at ha DZ em;generalize gV.toList=tl;split
   ·rename_i x t;simp only[ha x (by simp),Ud (DZ x (by simp))]
   ·rename_i s x t u;simp only[ha x (by simp),ha s (by simp),QO nA (DZ s (by simp)) (DZ x (by simp))]
   ·rename_i s x t u;simp only[ha x (by simp),ha s (by simp),QP (DZ s (by simp)) (DZ x (by simp))]
   ·simp only[em]
   ·simp only[em]
   ·rename_i x t;simp only[ha x (by simp)]
   ·rfl
  |_=>rfl
 |_=>rfl
structure aS where
 ks:List Nat
 es:List cH
 g:Bool
 x:AV
def aS.app(p:aS)(o:Oper)(S:St):St:=({S with mem:=putAll S.mem p.es}:St).put o.dst p.g p.x
def Wq(all:List Oper)(j:Nat):List Nat:=
 match all[j]? with
 |some o=>match o.dst with|some t=>[t]|none=>[]
 |none=>[]
def looks(all:List Oper)(o:Oper):List Nat:=
 (o.op.operands.toList.filterMap fun| .tmp t=>some t|_=>none)++(match o.guard with|some (j,_)=>Wq all j|none=>[])
structure jU(all:List Oper)(o:Oper)(ks:List Nat)(S' S:St):Prop where
 n:S'.n=S.n
 gl:S'.gl=S.gl
 keys:S'.mem.map (·.key)=S.mem.map (·.key)
 env:∀t∈looks all o,Env.lk S'.env t=Env.lk S.env t
 mem:∀k∈ks,Mem.get S'.mem k=Mem.get S.mem k
def jV(P:Program)(all:List Oper)(S:St)(o:Oper)(p:aS):Prop:=
 ∀S',jU all o p.ks S' S→∀φ G a w,Rel φ G S' a w→∀(next:Act→World→Prop)(R:Exit→Act→World→Prop),
  (∀φ' a' w',Rel φ' G (p.app o S') a' w'→aP φ S'.mem w φ' (p.app o S').mem w'→next a' w')→
  if Region.wanted o (yielded all.toArray a.tmps)then o.wp P a w next R else next (a.put o.dst undef) w
def qQ(P:Program)(I:Mem→Prop)(all:List Oper)(S:St)(o:Oper)(p:aS):Prop:=
 ∀S',jU all o p.ks S' S→I S'.mem→∀φ G a w,Rel φ G S' a w→∀(next:Act→World→Prop)(R:Exit→Act→World→Prop),
  (∀φ' a' w',Rel φ' G (p.app o S') a' w'→aP φ S'.mem w φ' (p.app o S').mem w'→next a' w')→
  if Region.wanted o (yielded all.toArray a.tmps)then o.wp P a w next R else next (a.put o.dst undef) w
theorem jV.toI{P:Program}{I:Mem→Prop}{all:List Oper}{S:St}{o:Oper}{p:aS}(h:jV P all S o p):qQ P I all S o p:=fun S' ha _=>h S' ha
inductive Cert(P:Program)(I:Mem→Prop)(all:List Oper):List Oper→St→List aS→St→Prop
 |nil (S):Cert P I all [] S [] S
 |cons (o rest S p ps S1) (hk:∀e∈p.es,e.key∈p.ks) (hI:∀m,I m→I (putAll m p.es)) (h:qQ P I all S o p) (hr:Cert P I all rest (p.app o S) ps S1):Cert P I all (o::rest) S (p::ps) S1
def ew(o:Oper):List Nat:=(o.after.toList.filter (Region.binds .any)).map (·.on)
def gA:List Oper→List (List Nat)→List (List Nat)
 |[],acc=>acc
 |o::r,acc=>gA r (acc++[((ew o).flatMap fun p=>p::acc.getD p []).eraseDups])
def disj(l r:List Nat):Bool:=l.all fun x=>!r.contains x
def xB(all:List Oper)(o o':Oper)(p p':aS):Bool:=
 disj o.dst.toList (looks all o')&&disj o'.dst.toList (looks all o)&&disj o.dst.toList o'.dst.toList&&disj (p.es.map (·.key)) p'.ks&&disj (p'.es.map (·.key)) p.ks
def Fh(all:List Oper)(ps:List aS)(an:List (List Nat))(j:Nat):Bool:=
 match all[j]?,ps[j]? with
 |some o,some p=>(ew o).all (fun i=>decide (i<j))&&(List.range j).all fun i=>(an.getD j []).contains i||(match all[i]?,ps[i]? with
  |some o',some p'=>xB all o' o p' p
  |_,_=>false)
 |_,_=>false
def lY(all:List Oper)(ps:List aS):Bool:=(List.range all.length).all (Fh all ps (gA all []))
theorem zN:∀(l:List Oper)(acc:List (List Nat)),∃r,gA l acc=acc++r∧r.length=l.length
 |[],acc=>⟨[],by simp[gA]⟩
 |o::l,acc=>by
  obtain⟨r,h1,h2⟩:=zN l (acc++[((ew o).flatMap fun p=>p::acc.getD p []).eraseDups]);exact⟨((ew o).flatMap fun p=>p::acc.getD p []).eraseDups::r,by rw[gA,h1,List.append_assoc,List.singleton_append],by simp[h2]⟩
theorem mem_eraseDups{l:List Nat}{x:Nat}:x∈l.eraseDups↔x∈l:=List.mem_eraseDups
theorem D0:∀(l:List Oper)(acc:List (List Nat))(j:Nat)(o:Oper),l[j]?=some o→(∀p∈ew o,p<acc.length+j)→
 ∀i,i∈(gA l acc).getD (acc.length+j) []↔∃p∈ew o,i=p∨i∈(gA l acc).getD p []
 |[],acc,j,o,h,_=>by simp at h
 |x::l,acc,j,o,h,hp=>by
  simp only[gA];cases j with
  |zero=>
   simp at h;subst h;obtain⟨r,h1,_⟩:=zN l (acc++[((ew x).flatMap fun p=>p::acc.getD p []).eraseDups]);rw[h1];intro i;have e1:(acc++[((ew x).flatMap fun p=>p::acc.getD p []).eraseDups]++r).getD (acc.length+0) []=((ew x).flatMap fun p=>p::acc.getD p []).eraseDups:=by
    simp[List.getD_eq_getElem?_getD,List.append_assoc]
   rw[e1,mem_eraseDups,List.mem_flatMap];constructor
   ·rintro ⟨p,rM,hi⟩;refine⟨p,rM,?_⟩;have bn:=hp p rM;rcases List.mem_cons.1 hi with rfl|hi
    ·exact .inl rfl
    ·right;rw[List.getD_eq_getElem?_getD]at hi⊢;rw[List.append_assoc,List.getElem?_append_left (by omega)];exact hi
   ·rintro ⟨p,rM,hi⟩;refine⟨p,rM,?_⟩;have bn:=hp p rM;rcases hi with rfl|hi
    ·simp
    ·rw[List.getD_eq_getElem?_getD,List.append_assoc,List.getElem?_append_left (by omega),←List.getD_eq_getElem?_getD]at hi;exact List.mem_cons_of_mem _ hi
  |succ j=>
   have:=D0 l (acc++[((ew x).flatMap fun p=>p::acc.getD p []).eraseDups]) j o (by simpa using h) (fun p rM=>by have:=hp p rM;simp;omega);simp only[List.length_append,List.length_cons,List.length_nil]at this;rw[show acc.length+(j+1)=acc.length+(0+1)+j by omega];exact this
theorem ju{all:List Oper}{L:Nat→Prop}(hp:∀j o,all[j]?=some o→∀p∈ew o,p<j)(hL:∀j o,all[j]?=some o→L j→∀p∈ew o,L p):
 ∀j,(∃o,all[j]?=some o)→∀i,i∈(gA all []).getD j []→i<j∧((∀o,all[j]?=some o→∀p∈ew o,L p)→L i):=by
 intro j;induction j using Nat.strongRecOn with
 |_ j ih=>
  rintro ⟨o,ho⟩ i hi;have hs:=(D0 all [] j o ho (fun p rM=>by simpa using hp j o ho p rM) i);simp only[List.length_nil,Nat.zero_add]at hs;obtain⟨p,rM,h⟩:=hs.1 hi;have sH:=hp j o ho p rM;rcases h with rfl|h
  ·exact⟨sH,fun hh=>hh o ho i rM⟩
  ·have gP:j<all.length:=(List.getElem?_eq_some_iff.1 ho).1;obtain⟨op,cS⟩:∃op,all[p]?=some op:=⟨all[p],by simp[show p<all.length by omega]⟩;obtain⟨h1,h2⟩:=ih p sH ⟨op,cS⟩ i h;exact⟨by omega,fun hh=>h2 (fun o' cg q hq=>hL p o' cg (hh o ho p rM) q hq)⟩
def aG(all:List Oper)(ps:List aS)(S:St)(l:List Nat):St:=
 l.foldl (fun S i=>match all[i]?,ps[i]? with|some o,some p=>p.app o S|_,_=>S) S
theorem sI(p:aS)(o:Oper)(S:St):(p.app o S).n=S.n:=by simp[aS.app,lu]
theorem p5(p:aS)(o:Oper)(S:St):(p.app o S).gl=S.gl:=by cases h:o.dst<;>simp[aS.app,h,St.put]
theorem An(p:aS)(o:Oper)(S:St):(p.app o S).mem.map (·.key)=S.mem.map (·.key):=by simp[aS.app,eY,jK]
theorem rN(p:aS)(o:Oper)(S:St)(t:Nat):Env.lk (p.app o S).env t=if o.dst=some t then some (p.g,p.x)else Env.lk S.env t:=by
 cases hd:o.dst with
 |none=>simp[aS.app,St.put,hd]
 |some d=>
  by_cases h:d=t
  ·subst h;simp[aS.app,St.put,hd,Env.lk]
  ·simp[aS.app,St.put,hd,Env.lk,h]
theorem wH:∀(es:List cH)(m:Mem)(k:Nat),k∉es.map (·.key)→Mem.get (putAll m es) k=Mem.get m k
 |[],m,k,_=>rfl
 |e::r,m,k,h=>by
  simp only[List.map_cons,List.mem_cons,not_or]at h;rw[putAll,wH r _ k h.2,Mem.nM (fun he=>h.1 he.symm)]
theorem mX:∀(es:List cH)(m m':Mem)(k:Nat),m.map (·.key)=m'.map (·.key)→(k∈es.map (·.key)∨Mem.get m k=Mem.get m' k)→Mem.get (putAll m es) k=Mem.get (putAll m' es) k
 |[],m,m',k,_,h=>by simpa [putAll]using h
 |e::r,m,m',k,hk,h=>by
  simp only[putAll];refine mX r _ _ k (by rw[Mem.gu,Mem.gu,hk]) ?_;by_cases he:e.key=k
  ·right;subst he;by_cases cL:e.key∈m.map (·.key)
   ·rw[Mem.nL cL,Mem.nL (hk▸cL)]
   ·have JM:∀(m:Mem),e.key∉m.map (·.key)→Mem.get (Mem.set m e) e.key=none:=by
     intro m hm;cases hg:Mem.get (Mem.set m e) e.key with
     |none=>rfl
     |some y=>
      obtain⟨h1,h2⟩:=Mem.get_mem hg;have:y.key∈(Mem.set m e).map (·.key):=List.mem_map_of_mem h1;rw[Mem.gu,h2]at this;exact absurd this hm
    rw[JM m cL,JM m' (hk▸cL)]
  ·rw[Mem.nM he,Mem.nM he];rcases h with h|h
   ·simp only[List.map_cons,List.mem_cons]at h;rcases h with h|h
    ·exact absurd h.symm he
    ·exact .inl h
   ·exact .inr h
theorem BH(p:aS)(o:Oper)(S:St)(k:Nat)(h:k∉p.es.map (·.key)):Mem.get (p.app o S).mem k=Mem.get S.mem k:=by
 simp only[aS.app,eY];exact wH _ _ _ h
section
variable {all:List Oper} {ps:List aS} {S:St}
theorem nb(l:List Nat):∀(S:St),(aG all ps S l).n=S.n:=by
 induction l with
 |nil=>exact fun _=>rfl
 |cons i l ih=>
  intro S;have e1:aG all ps S (i::l)=aG all ps (aG all ps S [i]) l:=by simp[aG]
  rw[e1,ih];simp only[aG,List.foldl_cons,List.foldl_nil];split
  ·exact sI ..
  ·rfl
theorem lH(l:List Nat):∀(S:St),(aG all ps S l).gl=S.gl:=by
 induction l with
 |nil=>exact fun _=>rfl
 |cons i l ih=>
  intro S;have e1:aG all ps S (i::l)=aG all ps (aG all ps S [i]) l:=by simp[aG]
  rw[e1,ih];simp only[aG,List.foldl_cons,List.foldl_nil];split
  ·exact p5 ..
  ·rfl
theorem eA(l:List Nat):∀(S:St),(aG all ps S l).mem.map (·.key)=S.mem.map (·.key):=by
 induction l with
 |nil=>exact fun _=>rfl
 |cons i l ih=>
  intro S;have e1:aG all ps S (i::l)=aG all ps (aG all ps S [i]) l:=by simp[aG]
  rw[e1,ih];simp only[aG,List.foldl_cons,List.foldl_nil];split
  ·exact An ..
  ·rfl
theorem mY(l l':List Nat)(S:St):aG all ps S (l++l')=aG all ps (aG all ps S l) l':=by simp[aG]
theorem sJ(t:Nat)(q:Nat→Bool)(l:List Nat):∀(S S':St),(∀i∈l,∀o,all[i]?=some o→o.dst=some t→q i=true)→Env.lk S.env t=Env.lk S'.env t→Env.lk (aG all ps S l).env t=Env.lk (aG all ps S' (l.filter q)).env t:=by
 induction l with
 |nil=>intro S S' _ h;exact h
 |cons i l ih=>
  intro S S' hq h;have e1:aG all ps S (i::l)=aG all ps (aG all ps S [i]) l:=by simp[aG]
  have oI:∀i'∈l,∀o,all[i']?=some o→o.dst=some t→q i'=true:=fun i' lB=>hq i' (List.mem_cons_of_mem _ lB);rw[e1];by_cases kg:q i=true
  ·rw[List.filter_cons_of_pos kg];have e2:aG all ps S' (i::l.filter q)=aG all ps (aG all ps S' [i]) (l.filter q):=by simp[aG]
   rw[e2];refine ih _ _ oI ?_;simp only[aG,List.foldl_cons,List.foldl_nil];split
   ·rw[rN,rN,h]
   ·exact h
  ·rw[List.filter_cons_of_neg kg];refine ih _ _ oI ?_;simp only[aG,List.foldl_cons,List.foldl_nil];split
   ·rename_i o p ho hp;rw[rN,if_neg (fun hd=>kg (hq i (by simp) o ho hd)),h]
   ·exact h
theorem lZ(k:Nat)(q:Nat→Bool)(l:List Nat):∀(S S':St),(∀i∈l,∀p,ps[i]?=some p→k∈p.es.map (·.key)→q i=true)→S.mem.map (·.key)=S'.mem.map (·.key)→Mem.get S.mem k=Mem.get S'.mem k→Mem.get (aG all ps S l).mem k=Mem.get (aG all ps S' (l.filter q)).mem k:=by
 induction l with
 |nil=>intro S S' _ _ h;exact h
 |cons i l ih=>
  intro S S' hq hk h;have e1:aG all ps S (i::l)=aG all ps (aG all ps S [i]) l:=by simp[aG]
  have oI:∀i'∈l,∀p,ps[i']?=some p→k∈p.es.map (·.key)→q i'=true:=fun i' lB=>hq i' (List.mem_cons_of_mem _ lB);rw[e1];by_cases kg:q i=true
  ·rw[List.filter_cons_of_pos kg];have e2:aG all ps S' (i::l.filter q)=aG all ps (aG all ps S' [i]) (l.filter q):=by simp[aG]
   rw[e2];refine ih _ _ oI (by rw[eA,eA,hk]) ?_;simp only[aG,List.foldl_cons,List.foldl_nil];split
   ·simp only[aS.app,eY];exact mX _ _ _ k hk (.inr h)
   ·exact h
  ·rw[List.filter_cons_of_neg kg];refine ih _ _ oI (by rw[eA,hk]) ?_;simp only[aG,List.foldl_cons,List.foldl_nil];split
   ·rename_i o p ho hp;rw[BH _ _ _ _ (fun hd=>kg (hq i (by simp) p hp hd)),h]
   ·exact h
end
structure gB(S' S:St):Prop where
 n:S'.n=S.n
 gl:S'.gl=S.gl
 mem:S'.mem=S.mem
 env:∀t,Env.lk S'.env t=Env.lk S.env t
theorem Rel.eqv{φ G S S' a w}(h:Rel φ G S' a w)(he:gB S' S):Rel φ G S a w:=
 ⟨by rw[←he.n];exact h.size,h.defers,fun t x hx=>by rw[←he.mem];exact h.env t x (by rw[he.env];exact hx),by rw[←he.mem];exact h.mem,by rw[←he.gl,←he.mem];exact h.jZ⟩
theorem Mem.ext{m m':Mem}(hn:(m.map (·.key)).Nodup)(hk:m.map (·.key)=m'.map (·.key))(h:∀k,Mem.get m k=Mem.get m' k):m=m':=by
 induction m generalizing m' with
 |nil=>cases m' with|nil=>rfl|cons _ _=>simp at hk
 |cons e r ih=>
  cases m' with
  |nil=>simp at hk
  |cons e' r'=>
   simp only[List.map_cons,List.cons.injEq]at hk;simp only[List.map_cons,List.nodup_cons]at hn;have h0:=h e.key;simp only[Mem.get,if_true,hk.1]at h0;cases h0;congr 1;refine ih hn.2 hk.2 fun k=>?_;have:=h k;simp only[Mem.get]at this;by_cases he:e.key=k
   ·subst he;have nn:∀{r:Mem},e.key∉r.map (·.key)→Mem.get r e.key=none:=by
     intro r hr;cases hg:Mem.get r e.key with
     |none=>rfl
     |some y=>obtain⟨h1,h2⟩:=Mem.get_mem hg;exact absurd (h2▸List.mem_map_of_mem h1) hr
    rw[nn hn.1,nn (by rw[←hk.2];exact hn.1)]
   ·simpa [he]using this
def gW(n:Nat)(f:Nat→Bool):List Nat:=(List.range n).filter f
theorem zO{j n:Nat}(h:j<n):List.range n=List.range j++j::List.range' (j+1) (n-j-1):=by
 have h2:(j::List.range' (j+1) (n-j-1))=List.range' j (n-j):=by
  rw[show n-j=(n-j-1)+1 by omega,List.range'_succ];simp
 rw[h2,List.range_eq_range',List.range_eq_range'];rw[show List.range' 0 n=List.range' 0 (j+(n-j)) by rw[show j+(n-j)=n by omega]];rw[←List.range'_append_1];simp
theorem xC{j n:Nat}{f:Nat→Bool}(h:j<n)(hf:f j=false):gW n f=(List.range j).filter f++(List.range' (j+1) (n-j-1)).filter f:=by
 rw[gW,zO h,List.filter_append,List.filter_cons_of_neg (by simp[hf])]
theorem N3{j n:Nat}{f g:Nat→Bool}(h:j<n)(hg:g j=true)(bE:∀i,i≠j→g i=f i):gW n g=(List.range j).filter f++j::(List.range' (j+1) (n-j-1)).filter f:=by
 rw[gW,zO h,List.filter_append,List.filter_cons_of_pos hg];congr 1
 ·exact List.filter_congr fun i hi=>bE i (by have:=List.mem_range.1 hi;omega)
 ·congr 1;exact List.filter_congr fun i hi=>bE i (by have:=List.mem_range'_1.1 hi;omega)
theorem p6{l r:List Nat}(h:disj l r=true){x:Nat}(hl:x∈l)(hr:x∈r):False:=by
 have:=List.all_eq_true.1 h x hl;simp at this;exact this hr
structure BI(all:List Oper)(o o':Oper)(p p':aS):Prop where
 a:∀t,o.dst=some t→t∉looks all o'
 b:∀t,o'.dst=some t→t∉looks all o
 c:∀t,o.dst=some t→o'.dst≠some t
 d:∀k∈p.es.map (·.key),k∉p'.ks
 e:∀k∈p'.es.map (·.key),k∉p.ks
theorem I9{all o o' p p'}(h:xB all o o' p p'=true):BI all o o' p p':=by
 simp only[xB,Bool.and_eq_true]at h;obtain⟨⟨⟨⟨h1,h2⟩,h3⟩,h4⟩,h5⟩:=h;exact⟨fun t ht hl=>p6 h1 (by simp[ht]) hl,fun t ht hl=>p6 h2 (by simp[ht]) hl,fun t ht hl=>p6 h3 (x:=t) (by simp[ht]) (by simp[hl]),fun k hk hl=>p6 h4 hk hl,fun k hk hl=>p6 h5 hk hl⟩
section
variable {all:List Oper} {ps:List aS}
theorem ei(h:lY all ps=true){j:Nat}{o:Oper}(ho:all[j]?=some o):∃p,ps[j]?=some p∧(∀i∈ew o,i<j)∧
 ∀i,i<j→i∈(gA all []).getD j []∨∃o' p',all[i]?=some o'∧ps[i]?=some p'∧BI all o' o p' p:=by
 have hj:j<all.length:=(List.getElem?_eq_some_iff.1 ho).1;have h1:=List.all_eq_true.1 h j (List.mem_range.2 hj);unfold Fh at h1;rw[ho]at h1;cases hp:ps[j]? with
 |none=>rw[hp]at h1;simp at h1
 |some p=>
  rw[hp]at h1;simp only[Bool.and_eq_true,List.all_eq_true,decide_eq_true_eq,Bool.or_eq_true,List.mem_range]at h1;refine⟨p,rfl,h1.1,fun i hi=>?_⟩;rcases h1.2 i hi with h2|h2
  ·exact .inl (by simpa using h2)
  ·right;split at h2
   ·rename_i o' p' cg ly;exact⟨o',p',cg,ly,I9 h2⟩
   ·cases h2
theorem Cert.at{P:Program}{I:Mem→Prop}{rest:List Oper}{S0 S:St}{qs:List aS}{S1:St}(h:Cert P I all rest S qs S1):∀(pre:List Oper)(pp:List aS),pre.length=pp.length→all=pre++rest→ps=pp++qs→aG all ps S0 (List.range pre.length)=S→
 aG all ps S0 (List.range all.length)=S1∧ps.length=all.length∧∀j o p,pre.length≤j→all[j]?=some o→ps[j]?=some p→(∀e∈p.es,e.key∈p.ks)∧(∀m,I m→I (putAll m p.es))∧qQ P I all (aG all ps S0 (List.range j)) o p:=by
 induction h with
 |nil S=>
  intro pre pp hl ha jR hS;simp only[List.append_nil]at ha jR;subst ha jR;refine⟨hS,hl.symm,fun j o p hj ho _=>?_⟩;rw[List.getElem?_eq_none (by omega)]at ho;cases ho
 |cons o rest S p qs S1 hk hI db hr ih=>
  intro pre pp hl ha jR hS;have e1:all[pre.length]?=some o:=by rw[ha];simp
  have e2:ps[pre.length]?=some p:=by rw[jR,hl];simp
  obtain⟨h1,h2,h3⟩:=ih (pre++[o]) (pp++[p]) (by simp[hl]) (by rw[ha];simp) (by rw[jR];simp) (by
   rw[List.length_append,List.length_singleton,List.range_succ,mY,hS];simp[aG,e1,e2])
  refine⟨h1,h2,fun j o' p' hj cg ly=>?_⟩;rcases Nat.eq_or_lt_of_le hj with rfl|hj
  ·rw[e1]at cg;rw[e2]at ly;cases cg;cases ly;exact⟨hk,hI,by rw[hS];exact db⟩
  ·exact h3 j o' p' (by simp;omega) cg ly
variable {S:St} {f:Nat→Bool}
def nU(all:List Oper)(f:Nat→Bool):Prop:=∀j o,all[j]?=some o→f j=true→∀p∈ew o,f p=true
theorem pF(hlen:ps.length=all.length)(cG:lY all ps=true)(aO:nU all f){j:Nat}{o:Oper}{p:aS}(ho:all[j]?=some o)(hp:ps[j]?=some p)(hj:f j=false)(jH:∀i∈ew o,f i=true):
 jU all o p.ks (aG all ps S (gW all.length f)) (aG all ps S (List.range j)):=by
 have bn:j<all.length:=(List.getElem?_eq_some_iff.1 ho).1;have dz:∀j o,all[j]?=some o→∀p∈ew o,p<j:=fun j o ho=>(ei cG ho).choose_spec.2.1;obtain⟨p0,Gq,_,Wr⟩:=ei cG ho;rw[hp]at Gq;cases Gq
 --akM arE ahead of j is listed
 have Gr:∀i∈(gA all []).getD j [],i<j∧f i=true:=fun i hi=>by
  obtain⟨h1,h2⟩:=ju (L:=fun i=>f i=true) dz (fun j o ho hf=>aO j o ho hf) j ⟨o,ho⟩ i hi;exact⟨h1,h2 fun o' cg=>by rw[ho]at cg;cases cg;exact jH⟩
 let q:Nat→Bool:=fun i=>(gA all []).getD j [] |>.contains i
 have hq:∀i,q i=true↔i∈(gA all []).getD j []:=fun i=>by simp[q]
 --any other listed one,and any other ahead in zC text,is apart
 have uf:∀i,(i<j∨(j<i∧f i=true))→q i=false→∀oi pi,all[i]?=some oi→ps[i]?=some pi→BI all oi o pi p∨BI all o oi p pi:=by
  rintro i (hi|⟨hi,j9⟩) kg oi pi gX jv
  ·rcases Wr i hi with h|⟨o',p',cg,ly,h⟩
   ·rw[(hq i).2 h]at kg;cases kg
   ·rw[gX]at cg;rw[jv]at ly;cases cg;cases ly;exact .inl h
  ·obtain⟨pi',Gs,_,Uk⟩:=ei cG gX;rw[jv]at Gs;cases Gs;rcases Uk j hi with h|⟨o',p',cg,ly,h⟩
   ·have:=(ju (L:=fun i=>f i=true) dz (fun j o ho hf=>aO j o ho hf) i ⟨oi,gX⟩ j h).2 (fun o' cg=>by rw[gX]at cg;cases cg;exact aO i oi gX j9);simp[hj]at this
   ·rw[ho]at cg;rw[hp]at ly;cases cg;cases ly;exact .inr h
 have yL:(gW all.length f).filter q=(List.range j).filter q:=by
  rw[xC bn hj,List.filter_append,List.filter_filter,List.filter_filter];have:(List.range' (j+1) (all.length-j-1)).filter (fun a=>q a&&f a)=[]:=by
   rw[List.filter_eq_nil_iff];intro i hi;have:=(List.mem_range'_1.1 hi).1;simp only[Bool.and_eq_true,not_and];intro kg;have:=(Gr i ((hq i).1 kg)).1;omega
  rw[this,List.append_nil];refine List.filter_congr fun i hi=>?_;cases kg:q i with
  |false=>rfl
  |true=>simp[(Gr i ((hq i).1 kg)).2]
 have hl:∀i∈gW all.length f,i<j∨(j<i∧f i=true):=fun i hi=>by
  have j9:=(List.mem_filter.1 hi).2;rcases Nat.lt_trichotomy i j with h|h|h
  ·exact .inl h
  ·subst h;simp[hj]at j9
  ·exact .inr ⟨h,j9⟩
 have hr:∀i∈List.range j,i<j∨(j<i∧f i=true):=fun i hi=>.inl (List.mem_range.1 hi);refine⟨by rw[nb,nb],by rw[lH,lH],by rw[eA,eA],fun t ht=>?_,fun k hk=>?_⟩
 ·have key:∀l:List Nat,(∀i∈l,i<j∨(j<i∧f i=true))→∀i∈l,∀oi,all[i]?=some oi→oi.dst=some t→q i=true:=by
   intro l hl i hi oi gX hd;cases kg:q i with
   |true=>rfl
   |false=>
    obtain⟨pi,jv,_⟩:=ei cG gX;rcases uf i (hl i hi) kg oi pi gX jv with h|h
    ·exact absurd ht (h.a t hd)
    ·exact absurd ht (h.b t hd)
  rw[sJ t q _ S S (key _ hl) rfl,sJ t q (List.range j) S S (key _ hr) rfl,yL]
 ·have key:∀l:List Nat,(∀i∈l,i<j∨(j<i∧f i=true))→∀i∈l,∀pi,ps[i]?=some pi→k∈pi.es.map (·.key)→q i=true:=by
   intro l hl i hi pi jv hd;cases kg:q i with
   |true=>rfl
   |false=>
    have iu:i<ps.length:=(List.getElem?_eq_some_iff.1 jv).1;cases gX:all[i]? with
    |none=>
     rw[List.getElem?_eq_none_iff]at gX;omega
    |some oi=>
     rcases uf i (hl i hi) kg oi pi gX jv with h|h
     ·exact absurd hk (h.d k hd)
     ·exact absurd hk (h.e k hd)
  rw[lZ k q _ S S (key _ hl) rfl rfl,lZ k q (List.range j) S S (key _ hr) rfl rfl,yL]
theorem vt(hlen:ps.length=all.length)(cG:lY all ps=true)(aO:nU all f)(gT:∀(j:Nat) (p:aS),ps[j]?=some p→∀e∈p.es,e.key∈p.ks)(xD:(S.mem.map (·.key)).Nodup){j:Nat}{o:Oper}{p:aS}(ho:all[j]?=some o)(hp:ps[j]?=some p)(hj:f j=false){g:Nat→Bool}(hg:g j=true)(hgf:∀i,i≠j→g i=f i):
 gB (p.app o (aG all ps S (gW all.length f))) (aG all ps S (gW all.length g)):=by
 have bn:j<all.length:=(List.getElem?_eq_some_iff.1 ho).1;have dz:∀j o,all[j]?=some o→∀p∈ew o,p<j:=fun j o ho=>(ei cG ho).choose_spec.2.1;have N4:∀i∈(List.range' (j+1) (all.length-j-1)).filter f,∀oi pi,all[i]?=some oi→ps[i]?=some pi→BI all o oi p pi:=by
  intro i hi oi pi gX jv;obtain⟨hi,j9⟩:=List.mem_filter.1 hi;have p7:=(List.mem_range'_1.1 hi).1;obtain⟨pi',Gs,_,Uk⟩:=ei cG gX;rw[jv]at Gs;cases Gs;rcases Uk j (by omega)with h|⟨o',p',cg,ly,h⟩
  ·have:=(ju (L:=fun i=>f i=true) dz (fun j o ho hf=>aO j o ho hf) i ⟨oi,gX⟩ j h).2 (fun o' cg=>by rw[gX]at cg;cases cg;exact aO i oi gX j9);simp[hj]at this
  ·rw[ho]at cg;rw[hp]at ly;cases cg;cases ly;exact h
 rw[N3 bn hg hgf,xC bn hj];generalize QQ:(List.range j).filter f=L1;generalize dR:(List.range' (j+1) (all.length-j-1)).filter f=L2 at N4;have akN:∀i∈L1++L2,i≠j:=by
  intro i hi;rw[←QQ,←dR]at hi;rcases List.mem_append.1 hi with h|h
  ·have:=List.mem_range.1 (List.mem_filter.1 h).1;omega
  ·have:=(List.mem_range'_1.1 (List.mem_filter.1 h).1).1;omega
 have aba:∀{i pi},ps[i]?=some pi→∃oi,all[i]?=some oi:=fun {i pi} h=>by
  have:=(List.getElem?_eq_some_iff.1 h).1;exact⟨all[i]'(by omega),List.getElem?_eq_getElem _⟩
 let q:Nat→Bool:=fun i=>i != j
 have hf1:(L1++j::L2).filter q=L1++L2:=by
  rw[List.filter_append,List.filter_cons_of_neg (by simp[q]),←List.filter_append,List.filter_eq_self];intro i hi;simpa [q]using akN i hi
 have kE:∀S,aG all ps S (L1++j::L2)=aG all ps (p.app o (aG all ps S L1)) L2:=fun S=>by
  rw[mY];simp[aG,ho,hp]
 have ma:(p.app o (aG all ps S (L1++L2))).mem.map (·.key)=(aG all ps S (L1++j::L2)).mem.map (·.key):=by
  rw[An,eA,eA]
 refine⟨by rw[sI,nb,nb],by rw[p5,lH,lH],Mem.ext (by rw[An,eA];exact xD) ma fun k=>?_,fun t=>?_⟩
 ·by_cases hk:k∈p.es.map (·.key)
  ·have h1:Mem.get (p.app o (aG all ps S (L1++L2))).mem k=Mem.get (p.app o (aG all ps S L1)).mem k:=by
    simp only[aS.app,eY];exact mX _ _ _ k (by rw[eA,eA]) (.inl hk)
   rw[h1,kE];rw[lZ k (fun _=>false) L2 _ (p.app o (aG all ps S L1)) ?_ rfl rfl]
   ·rw[List.filter_eq_nil_iff.2 (by simp)];rfl
   ·intro i hi pi jv kh;obtain⟨oi,gX⟩:=aba jv;have:=(N4 i hi oi pi gX jv).e k kh;obtain⟨e,he,rfl⟩:=List.mem_map.1 hk;exact absurd (gT j p hp e he) this
  ·rw[BH _ _ _ _ hk,lZ k q (L1++j::L2) S S ?_ rfl rfl,hf1];intro i hi pi jv kh;by_cases ka:i=j
   ·subst ka;rw[hp]at jv;cases jv;exact absurd kh hk
   ·simpa [q]using ka
 ·rw[rN];by_cases hd:o.dst=some t
  ·rw[if_pos hd,kE];rw[sJ t (fun _=>false) L2 _ (p.app o (aG all ps S L1)) ?_ rfl]
   ·rw[List.filter_eq_nil_iff.2 (by simp)];simp[aG,rN,hd]
   ·intro i hi oi gX hdi;obtain⟨pi,jv,_⟩:=ei cG gX;exact absurd hdi ((N4 i hi oi pi gX jv).c t hd)
  ·rw[if_neg hd,sJ t q (L1++j::L2) S S ?_ rfl,hf1];intro i hi oi gX hdi;by_cases ka:i=j
   ·subst ka;rw[ho]at gX;cases gX;exact absurd hdi hd
   ·simpa [q]using ka
theorem N5{P:Program}{S0 S1:St}{φ0:bM}{G:Fr}{w0:World}{Q:Exit→Act→World→Prop}{I:Mem→Prop}(Gt:I S0.mem)(hc:Cert P I all all S0 ps S1)(cG:lY all ps=true)(xD:(S0.mem.map (·.key)).Nodup)
 (hQ:∀φ' a' w',Rel φ' G S1 a' w'→aP φ0 S0.mem w0 φ' S1.mem w'→Q .normal a' w'):
 ∀(fuel:Nat)(listed:Array Bool) φ a w,listed.size=all.length→nU all (fun i=>listed.getD i false)→Rel φ G (aG all ps S0 (gW all.length fun i=>listed.getD i false)) a w→aP φ0 S0.mem w0 φ (aG all ps S0 (gW all.length fun i=>listed.getD i false)).mem w→
  ((List.range all.length).filter fun i=>!listed.getD i false).length≤fuel→wpAny P .any all.toArray Q fuel listed a w:=by
 obtain⟨eP,hlen,db⟩:=Cert.at (ps:=ps) (S0:=S0) hc [] [] rfl rfl rfl rfl;have gT:∀(j:Nat)(p:aS),ps[j]?=some p→∀e∈p.es,e.key∈p.ks:=fun j p hp=>by
  have gP:j<ps.length:=(List.getElem?_eq_some_iff.1 hp).1;exact (db j (all[j]'(by omega)) p (by simp) (by simp) hp).1
 have hIs:∀l:List Nat,I (aG all ps S0 l).mem:=by
  have key:∀(l:List Nat)(S:St),I S.mem→I (aG all ps S l).mem:=by
   intro l;induction l with
   |nil=>exact fun _ h=>h
   |cons i l ih=>
    intro S h;have e1:aG all ps S (i::l)=aG all ps (aG all ps S [i]) l:=by simp[aG]
    rw[e1];refine ih _ ?_;simp only[aG,List.foldl_cons,List.foldl_nil];split
    ·rename_i o p ho hp;simp only[aS.app,eY];exact (db i o p (by simp) ho hp).2.1 _ h
    ·exact h
  exact fun l=>key l S0 Gt
 --zC first avV auJ listed is ready
 have first:∀(f:Nat→Bool)(n:Nat),n≤all.length→(∀i,i<n→f i=true)∨∃i,i<n∧f i=false∧∀i',i'<i→f i'=true:=by
  intro f n;induction n with
  |zero=>exact fun _=>.inl (fun i hi=>by omega)
  |succ n ih=>
   intro hn;rcases ih (by omega)with h|⟨i,h1,h2,h3⟩
   ·cases hf:f n with
    |true=>
     refine .inl fun i hi=>?_;rcases Nat.lt_succ_iff_lt_or_eq.1 hi with h'|h'
     ·exact h i h'
     ·rw[h'];exact hf
    |false=>exact .inr ⟨n,by omega,hf,h⟩
   ·exact .inr ⟨i,by omega,h2,h3⟩
 have done:∀(listed:Array Bool) φ a w,listed.size=all.length→Rel φ G (aG all ps S0 (gW all.length fun i=>listed.getD i false)) a w→aP φ0 S0.mem w0 φ (aG all ps S0 (gW all.length fun i=>listed.getD i false)).mem w→Region.ready .any all.toArray listed=[]→Q .normal a w:=by
  intro listed φ a w bQ hr hk oX;have dP:∀i,i<all.length→listed.getD i false=true:=by
   rcases first (fun i=>listed.getD i false) all.length (Nat.le_refl _)with h|⟨i,h1,h2,h3⟩
   ·exact h
   ·exfalso;have:i∈Region.ready .any all.toArray listed:=by
     rw[mem_ready];refine⟨?_,all[i],by simp[h1],fun e he hb=>?_⟩
     ·have:i<listed.size:=by omega
      simp only[Array.getD_eq_getD_getElem?,Array.getElem?_eq_getElem this,Option.getD_some]at h2⊢;exact h2
     ·obtain⟨p,_,hp,_⟩:=ei cG (show all[i]?=some all[i] by simp[h1]);exact h3 e.on (hp e.on (by
       simp only[ew,List.mem_map,List.mem_filter];exact⟨e,⟨by simpa using he,hb⟩,rfl⟩))
    rw[oX]at this;cases this
  have hl:(gW all.length fun i=>listed.getD i false)=List.range all.length:=by
   rw[gW,List.filter_eq_self];intro i hi;exact dP i (List.mem_range.1 hi)
  rw[hl,eP]at hr hk;exact hQ φ a w hr hk
 intro fuel;induction fuel with
 |zero=>
  intro listed φ a w bQ aO hr hk hf;have oX:Region.ready .any all.toArray listed=[]:=by
   cases h:Region.ready .any all.toArray listed with
   |nil=>rfl
   |cons i r=>
    exfalso;have hi:i∈Region.ready .any all.toArray listed:=by rw[h];simp
    rw[mem_ready]at hi;obtain⟨h0,o,ho,_⟩:=hi;have iu:i<all.length:=by
     have:=(Array.getElem?_eq_some_iff.1 ho).1;simpa using this
    have nV:listed.getD i false=false:=by
     have:i<listed.size:=by omega
     simp only[Array.getD_eq_getD_getElem?,Array.getElem?_eq_getElem this,Option.getD_some]at h0⊢;exact h0
    have:i∈(List.range all.length).filter fun i=>!listed.getD i false:=List.mem_filter.2 ⟨List.mem_range.2 iu,by simp[nV]⟩;have:=List.length_pos_of_mem this;omega
  exact⟨oX,done listed φ a w bQ hr hk oX⟩
 |succ fuel ih=>
  intro listed φ a w bQ aO hr hk hf;refine⟨done listed φ a w bQ hr hk,fun i hi=>?_⟩;rw[mem_ready]at hi;obtain⟨h0,o,ho,xE⟩:=hi;have cg:all[i]?=some o:=by simpa using ho
  have iu:i<all.length:=(List.getElem?_eq_some_iff.1 cg).1;have xF:i<listed.size:=by omega
  have nV:listed.getD i false=false:=by
   simp only[Array.getD_eq_getD_getElem?,Array.getElem?_eq_getElem xF,Option.getD_some]at h0⊢;exact h0
  have jH:∀k∈ew o,listed.getD k false=true:=by
   intro k aN;simp only[ew,List.mem_map,List.mem_filter]at aN;obtain⟨e,⟨he,hb⟩,rfl⟩:=aN;exact xE e (by simpa using he) hb
  obtain⟨p,hp,_⟩:=ei cG cg;obtain⟨hke,_,BJ⟩:=db i o p (by simp) cg hp;have pW:=pF (S:=S0) hlen cG aO cg hp nV jH;have jI:(listed.setIfInBounds i true).getD i false=true:=by simp[xF]
  have lI:∀k,k≠i→(listed.setIfInBounds i true).getD k false=listed.getD k false:=fun k aN=>getD_set_ne false (Ne.symm aN);have heq:=vt (S:=S0) (f:=fun i=>listed.getD i false) (g:=fun k=>(listed.setIfInBounds i true).getD k false) hlen cG aO gT xD cg hp nV jI lI;have Gu:nU all (fun k=>(listed.setIfInBounds i true).getD k false):=by
   intro k ok cQ QR x hx;by_cases D3:x=i
   ·subst D3;exact jI
   ·show (listed.setIfInBounds i true).getD x false=true;rw[lI x D3];by_cases kh:k=i
    ·subst kh;rw[cg]at cQ;cases cQ;exact jH x hx
    ·exact aO k ok cQ ((lI k kh).symm.trans QR) x hx
  have xG:((List.range all.length).filter fun k=>!(listed.setIfInBounds i true).getD k false).length≤fuel:=by
   have h1:(List.range all.length).filter (fun k=>!(listed.setIfInBounds i true).getD k false)=((List.range all.length).filter fun k=>!listed.getD k false).filter (fun k=>k != i):=by
    rw[List.filter_filter];refine List.filter_congr fun k _=>?_;by_cases kh:k=i
    ·subst kh;rw[jI];simp
    ·rw[lI k kh];simp[kh]
   have eW:i∈(List.range all.length).filter fun k=>!listed.getD k false:=List.mem_filter.2 ⟨List.mem_range.2 iu,by simp[nV]⟩;rw[h1];have:(((List.range all.length).filter fun k=>!listed.getD k false).filter (fun k=>k != i)).length<((List.range all.length).filter fun k=>!listed.getD k false).length:=by
    rw[List.length_filter_lt_length_iff_exists];exact⟨i,eW,by simp⟩
   omega
  have hs:=BJ _ pW (hIs _) φ G a w hr (wpAny P .any all.toArray Q fuel (listed.setIfInBounds i true)) Q (fun φ' a' w' b6 aN=>
   ih _ φ' a' w' (by simpa using bQ) Gu (b6.eqv heq) (by rw[←heq.mem];exact hk.trans aN) xG)
  unfold wpOp;rw[ho];simp only
  split at hs
  ·rename_i hw;rw[if_pos hw];exact .inl hs
  ·rename_i hw;rw[if_neg hw];exact hs
end
theorem Ja{P:Program}{S S1:St}{id:Nat}{ops:List Oper}{ps:List aS}{I:Mem→Prop}(Gt:I S.mem)(hm:P.follows .mixedOrders=true)(hc:Cert P I ops ops S ps S1)(cG:lY ops ps=true){φ G a w}(hr:Rel φ G S a w){Q:Exit→Act→World→Prop}
 (hQ:∀φ' a' w',Rel φ' G S1 a' w'→aP φ S.mem w φ' S1.mem w'→Q .normal a' w'):(Code.region id ops.toArray true).wp P Q a w:=by
 refine wp_region_any hm ?_;have iU:Rel φ G S a {w with drawn:=w.drawn+1}:=hr.grow (fun _ _=>rfl) (Nat.le_refl _);have cm:(gW ops.length fun i=>(Array.replicate ops.length false).getD i false)=[]:=by
  rw[gW,List.filter_eq_nil_iff];intro i hi;simp[Array.getD_eq_getD_getElem?,List.mem_range.1 hi]
 refine N5 (S0:=S) (φ0:=φ) (w0:=w) (G:=G) Gt hc cG hr.mem.nodup (fun φ' a' w' b6 aN=>hQ φ' a' w' b6 aN) _ _ φ a _ (by simp) ?_ ?_ ?_ ?_
 ·intro j o _ hj;exfalso;simp only[Array.getD_eq_getD_getElem?]at hj;by_cases h:j<ops.length
  ·simp[h]at hj
  ·simp[h]at hj
 ·simp only[List.size_toArray];rw[cm];exact iU
 ·simp only[List.size_toArray];rw[cm];exact aP.grow (fun _ _=>rfl) (Nat.le_refl _) rfl rfl rfl
 ·simp only[List.size_toArray];exact Nat.le_trans (List.length_filter_le _ _) (by simp)
theorem abd{P:Program}{I:Mem→Prop}{ops:List Oper}{S S1:St}{ps:List aS}(hc:Cert P I ops ops S ps S1):S1.n=S.n∧S1.gl=S.gl:=by
 obtain⟨eP,_,_⟩:=Cert.at (ps:=ps) (S0:=S) hc [] [] rfl rfl rfl rfl;rw[←eP];exact⟨nb ..,lH ..⟩
def Ao(all:List Oper)(o o':Oper):Bool:=disj o.dst.toList (looks all o')&&disj o'.dst.toList (looks all o)&&disj o.dst.toList o'.dst.toList
def xH(all:List Oper)(nd:List (List Nat))(an:List (List Nat))(j:Nat):Bool:=
 match all[j]? with
 |some o=>(ew o).all (fun i=>decide (i<j))&&(List.range j).all fun i=>(an.getD j []).contains i||(match all[i]? with
  |some o'=>Ao all o' o&&((nd.getD i []).contains j&&(nd.getD j []).contains i)
  |none=>false)
 |none=>false
def Ap(all:List Oper)(nd:List (List Nat)):Bool:=(List.range all.length).all (xH all nd (gA all []))
def ordK(ps:List aS)(es:List cH):List Nat→Bool
 |[]=>true
 |j::r=>(match ps[j]? with|some q=>disj (es.map (·.key)) q.ks|none=>false)&&ordK ps es r
def ordE(ps:List aS)(js:List Nat):List cH→Bool
 |[]=>true
 |e::es=>ordK ps (e::es) js
def ordL(ps:List aS):List (List Nat)→List aS→Bool
 |_,[]=>true
 |[],p::r=>ordE ps [] p.es&&ordL ps [] r
 |js::nd,p::r=>ordE ps js p.es&&ordL ps nd r
def ordD(nd:List (List Nat))(ps:List aS):Bool:=ordL ps nd ps
theorem oY{ps:List aS}:∀{nd:List (List Nat)}{l:List aS},ordL ps nd l=true→∀i p,l[i]?=some p→ordE ps (nd.getD i []) p.es=true
 |_,[],_,i,p,hp=>by simp at hp
 |[],q::r,h,i,p,hp=>by
  simp only[ordL,Bool.and_eq_true]at h;cases i with
  |zero=>simp at hp;subst hp;simpa using h.1
  |succ i=>have:=oY h.2 i p (by simpa using hp);simpa using this
 |js::nd,q::r,h,i,p,hp=>by
  simp only[ordL,Bool.and_eq_true]at h;cases i with
  |zero=>simp at hp;subst hp;simpa using h.1
  |succ i=>have:=oY h.2 i p (by simpa using hp);simpa using this
theorem Gv{ps:List aS}{es:List cH}:∀{js:List Nat},ordK ps es js=true→∀j∈js,∀q,ps[j]?=some q→disj (es.map (·.key)) q.ks=true
 |[],_,j,hj,_,_=>by simp at hj
 |k::r,h,j,hj,q,hq=>by
  simp only[ordK,Bool.and_eq_true]at h;rcases List.mem_cons.1 hj with rfl|hj
  ·have:=h.1;rw[hq]at this;exact this
  ·exact Gv h.2 j hj q hq
theorem vu{ps:List aS}{js:List Nat}:∀{es:List cH},ordE ps js es=true→∀j∈js,∀q,ps[j]?=some q→disj (es.map (·.key)) q.ks=true
 |[],_,_,_,_,_=>rfl
 |_::_,h,j,hj,q,hq=>Gv h j hj q hq
theorem QS{all:List Oper}{nd:List (List Nat)}{ps:List aS}(hs:Ap all nd=true)(hd:ordD nd ps=true)(hl:ps.length=all.length):lY all ps=true:=by
 unfold lY;refine List.all_eq_true.2 fun j hj=>?_;have h1:=List.all_eq_true.1 hs j hj;have oD:j<all.length:=List.mem_range.1 hj;unfold xH at h1;unfold Fh;have sH:ps[j]?=some (ps[j]'(by omega)):=by simp[hl,oD]
 rw[sH];cases ho:all[j]? with
 |none=>rw[ho]at h1;cases h1
 |some o=>
  rw[ho]at h1;simp only[Bool.and_eq_true,List.all_eq_true,decide_eq_true_eq,Bool.or_eq_true,List.mem_range]at h1⊢;refine⟨h1.1,fun i hi=>?_⟩;rcases h1.2 i hi with h2|h2
  ·exact .inl h2
  ·right;have jv:ps[i]?=some (ps[i]'(by omega)):=by simp[show i<ps.length by omega]
   cases gX:all[i]? with
   |none=>rw[gX]at h2;cases h2
   |some o'=>
    rw[gX]at h2;rw[jv];simp only[Bool.and_eq_true]at h2;simp only[xB];have e1:=vu (oY hd i _ jv) j (by simpa using h2.2.1) _ sH;have e2:=vu (oY hd j _ sH) i (by simpa using h2.2.2) _ jv;have e3:=h2.1;simp only[Ao,Bool.and_eq_true]at e3;simp only[Bool.and_eq_true];exact⟨⟨e3,e1⟩,e2⟩
def Aq(all:List Oper):Prop:=∀i,i+1<all.length→i∈(gA all []).getD (all.length-1) []
theorem zP{all:List Oper}{nd:List (List Nat)}(hs:Ap all nd=true)(hn:nd.getD (all.length-1) []=[]):Aq all:=by
 intro i hi;have h1:=List.all_eq_true.1 hs (all.length-1) (List.mem_range.2 (by omega));unfold xH at h1;rw[List.getElem?_eq_getElem (by omega)]at h1;simp only[Bool.and_eq_true,List.all_eq_true,Bool.or_eq_true,List.mem_range]at h1;rcases h1.2 i (by omega)with h2|h2
 ·simpa using h2
 ·rw[List.getElem?_eq_getElem (by omega)]at h2;simp only[Bool.and_eq_true]at h2;have:=h2.2.2;rw[hn]at this;cases this
def zQ:aS:=⟨[],[],false,.aZ⟩
section
variable {all:List Oper} {ps:List aS}
theorem Cert.at2{P:Program}{I:Mem→Prop}{rest:List Oper}{S0 S:St}{qs:List aS}{S1:St}(h:Cert P I all rest S qs S1):∀(pre:List Oper)(pp:List aS)(tl:List Oper)(tq:List aS),pre.length=pp.length→all=pre++rest++tl→ps=pp++qs++tq→aG all ps S0 (List.range pre.length)=S→
 aG all ps S0 (List.range (pre.length+rest.length))=S1∧qs.length=rest.length∧∀j o p,pre.length≤j→j<pre.length+rest.length→all[j]?=some o→ps[j]?=some p→(∀e∈p.es,e.key∈p.ks)∧(∀m,I m→I (putAll m p.es))∧qQ P I all (aG all ps S0 (List.range j)) o p:=by
 induction h with
 |nil S=>
  intro pre pp tl tq hl ha jR hS;exact⟨by simpa using hS,rfl,fun j o p hj zR _=>by simp at zR;omega⟩
 |cons o rest S p qs S1 hk hI db hr ih=>
  intro pre pp tl tq hl ha jR hS;have e1:all[pre.length]?=some o:=by rw[ha];simp
  have e2:ps[pre.length]?=some p:=by rw[jR,hl];simp
  obtain⟨h1,h2,h3⟩:=ih (pre++[o]) (pp++[p]) tl tq (by simp[hl]) (by rw[ha];simp) (by rw[jR];simp) (by
   rw[List.length_append,List.length_singleton,List.range_succ,mY,hS];simp[aG,e1,e2])
  refine⟨by rw[←h1];simp;congr 2;omega,by simp[h2],fun j o' p' hj zR cg ly=>?_⟩;rcases Nat.eq_or_lt_of_le hj with rfl|hj
  ·rw[e1]at cg;rw[e2]at ly;cases cg;cases ly;exact⟨hk,hI,by rw[hS];exact db⟩
  ·exact h3 j o' p' (by simp;omega) (by simp at zR⊢;omega) cg ly
theorem N6{P:Program}{S0 S1:St}{φ0:bM}{G:Fr}{w0:World}{Q:Exit→Act→World→Prop}{I:Mem→Prop}{init:List Oper}{ol:Oper}(dP:all=init++[ol])(xI:Aq all)(Gt:I S0.mem){qs:List aS}(hc:Cert P I all init S0 qs S1)(jR:ps=qs++[zQ])(cG:lY all ps=true)(xD:(S0.mem.map (·.key)).Nodup)
 (jw:∀φ a w,Rel φ G S1 a w→aP φ0 S0.mem w0 φ S1.mem w→∀next:Act→World→Prop,(∀a' w',Q .normal a' w'→next a' w')→if Region.wanted ol (yielded all.toArray a.tmps)then ol.wp P a w next Q else next (a.put ol.dst undef) w):
 ∀(fuel:Nat)(listed:Array Bool) φ a w,listed.size=all.length→listed.getD init.length false=false→nU all (fun i=>listed.getD i false)→Rel φ G (aG all ps S0 (gW all.length fun i=>listed.getD i false)) a w→aP φ0 S0.mem w0 φ (aG all ps S0 (gW all.length fun i=>listed.getD i false)).mem w→
  ((List.range all.length).filter fun i=>!listed.getD i false).length≤fuel→wpAny P .any all.toArray Q fuel listed a w:=by
 obtain⟨eP,hlq,db⟩:=Cert.at2 (ps:=ps) (S0:=S0) hc [] [] [ol] [zQ] rfl (by simp[dP]) (by simp[jR]) rfl;have bm:all.length=init.length+1:=by rw[dP];simp
 have nB:ps.length=all.length:=by rw[jR,bm];simp[hlq]
 have hoL:all[init.length]?=some ol:=by rw[dP];simp
 have hpL:ps[init.length]?=some zQ:=by rw[jR,←hlq];simp
 have gT:∀(j:Nat)(p:aS),ps[j]?=some p→∀e∈p.es,e.key∈p.ks:=fun j p hp=>by
  have gP:j<ps.length:=(List.getElem?_eq_some_iff.1 hp).1;by_cases hj:j<init.length
  ·exact (db j (all[j]'(by omega)) p (by simp) (by simpa using hj) (by simp) hp).1
  ·have:j=init.length:=by omega
   subst this;rw[hpL]at hp;cases hp;simp[zQ]
 have dz:∀j o,all[j]?=some o→∀p∈ew o,p<j:=fun j o ho=>(ei cG ho).choose_spec.2.1;have hIs:∀l:List Nat,I (aG all ps S0 l).mem:=by
  have key:∀(l:List Nat)(S:St),I S.mem→I (aG all ps S l).mem:=by
   intro l;induction l with
   |nil=>exact fun _ h=>h
   |cons i l ih=>
    intro S h;have e1:aG all ps S (i::l)=aG all ps (aG all ps S [i]) l:=by simp[aG]
    rw[e1];refine ih _ ?_;simp only[aG,List.foldl_cons,List.foldl_nil];split
    ·rename_i o p ho hp;simp only[aS.app,eY];have iu:i<all.length:=(List.getElem?_eq_some_iff.1 ho).1;by_cases hi:i<init.length
     ·exact (db i o p (by simp) (by simpa using hi) ho hp).2.1 _ h
     ·have:i=init.length:=by omega
      subst this;rw[hpL]at hp;cases hp;exact h
    ·exact h
  exact fun l=>key l S0 Gt
 have first:∀(f:Nat→Bool)(n:Nat),n≤all.length→(∀i,i<n→f i=true)∨∃i,i<n∧f i=false∧∀i',i'<i→f i'=true:=by
  intro f n;induction n with
  |zero=>exact fun _=>.inl (fun i hi=>by omega)
  |succ n ih=>
   intro hn;rcases ih (by omega)with h|⟨i,h1,h2,h3⟩
   ·cases hf:f n with
    |true=>
     refine .inl fun i hi=>?_;rcases Nat.lt_succ_iff_lt_or_eq.1 hi with h'|h'
     ·exact h i h'
     ·rw[h'];exact hf
    |false=>exact .inr ⟨n,by omega,hf,h⟩
   ·exact .inr ⟨i,by omega,h2,h3⟩
 have rdy:∀(listed:Array Bool),listed.size=all.length→Region.ready .any all.toArray listed=[]→∀i,i<all.length→listed.getD i false=true:=by
  intro listed bQ oX;rcases first (fun i=>listed.getD i false) all.length (Nat.le_refl _)with h|⟨i,h1,h2,h3⟩
  ·exact h
  ·exfalso;have:i∈Region.ready .any all.toArray listed:=by
    rw[mem_ready];refine⟨?_,all[i],by simp[h1],fun e he hb=>?_⟩
    ·have:i<listed.size:=by omega
     simp only[Array.getD_eq_getD_getElem?,Array.getElem?_eq_getElem this,Option.getD_some]at h2⊢;exact h2
    ·obtain⟨p,_,hp,_⟩:=ei cG (show all[i]?=some all[i] by simp[h1]);exact h3 e.on (hp e.on (by
      simp only[ew,List.mem_map,List.mem_filter];exact⟨e,⟨by simpa using he,hb⟩,rfl⟩))
   rw[oX]at this;cases this
 have akO:∀(listed:Array Bool),listed.size=all.length→(∀i,i<all.length→listed.getD i false=true)→Region.ready .any all.toArray listed=[]:=by
  intro listed bQ afJ;cases h:Region.ready .any all.toArray listed with
  |nil=>rfl
  |cons i r=>
   exfalso;have hi:i∈Region.ready .any all.toArray listed:=by rw[h];simp
   rw[mem_ready]at hi;obtain⟨h0,o,ho,_⟩:=hi;have iu:i<all.length:=by
    have:=(Array.getElem?_eq_some_iff.1 ho).1;simpa using this
   have:=afJ i iu;have h2:i<listed.size:=by omega
   simp only[Array.getD_eq_getD_getElem?,Array.getElem?_eq_getElem h2,Option.getD_some]at h0 this;rw[h0]at this;cases this
 intro fuel;induction fuel with
 |zero=>
  intro listed φ a w bQ wI aO hr hk hf;exfalso;have:init.length∈(List.range all.length).filter fun i=>!listed.getD i false:=List.mem_filter.2 ⟨List.mem_range.2 (by omega),by simp only[wI];rfl⟩;have:=List.length_pos_of_mem this;omega
 |succ fuel ih=>
  intro listed φ a w bQ wI aO hr hk hf;refine⟨fun oX=>?_,fun i hi=>?_⟩
  ·have:=rdy listed bQ oX init.length (by omega);rw[wI]at this;cases this
  rw[mem_ready]at hi;obtain⟨h0,o,ho,xE⟩:=hi;have cg:all[i]?=some o:=by simpa using ho
  have iu:i<all.length:=(List.getElem?_eq_some_iff.1 cg).1;have xF:i<listed.size:=by omega
  have nV:listed.getD i false=false:=by
   simp only[Array.getD_eq_getD_getElem?,Array.getElem?_eq_getElem xF,Option.getD_some]at h0⊢;exact h0
  have jH:∀k∈ew o,listed.getD k false=true:=by
   intro k aN;simp only[ew,List.mem_map,List.mem_filter]at aN;obtain⟨e,⟨he,hb⟩,rfl⟩:=aN;exact xE e (by simpa using he) hb
  have jI:(listed.setIfInBounds i true).getD i false=true:=by simp[xF]
  have lI:∀k,k≠i→(listed.setIfInBounds i true).getD k false=listed.getD k false:=fun k aN=>getD_set_ne false (Ne.symm aN);by_cases QT:i=init.length
  ·subst QT;rw[hoL]at cg;cases cg;have oZ:∀k,k<init.length→listed.getD k false=true:=by
    intro k gn;have DZ:k∈(gA all []).getD init.length []:=by
     have:=xI k (by omega);rw[bm]at this;simpa using this
    exact (ju (L:=fun i=>listed.getD i false=true) dz (fun j o ho hf=>aO j o ho hf) init.length ⟨ol,hoL⟩ k DZ).2 (fun o' BK=>by rw[hoL]at BK;cases BK;exact jH)
   have hl:(gW all.length fun i=>listed.getD i false)=List.range init.length:=by
    rw[gW,bm,List.range_succ,List.filter_append];have e1:(List.range init.length).filter (fun i=>listed.getD i false)=List.range init.length:=by
     rw[List.filter_eq_self];intro k gn;exact oZ k (List.mem_range.1 gn)
    rw[e1];simp only[List.filter_cons,List.filter_nil];rw[nV];simp
   have afK:aG all ps S0 (List.range init.length)=S1:=by simpa using eP
   rw[hl,afK]at hr hk;have hs:=jw φ a w hr hk (wpAny P .any all.toArray Q fuel (listed.setIfInBounds init.length true)) (fun a' w' hq=>by
    have oX:=akO (listed.setIfInBounds init.length true) (by simpa using bQ) (fun k gn=>by
     by_cases kh:k=init.length
     ·subst kh;exact jI
     ·rw[lI k kh];exact oZ k (by omega))
    cases fuel with
    |zero=>exact⟨oX,hq⟩
    |succ fuel=>exact⟨fun _=>hq,fun i hi=>by rw[oX]at hi;cases hi⟩)
   unfold wpOp;rw[ho];simp only
   split at hs
   ·rename_i hw;rw[if_pos hw];exact .inl hs
   ·rename_i hw;rw[if_neg hw];exact hs
  ·have Wc:i<init.length:=by omega
   obtain⟨p,hp,_⟩:=ei cG cg;obtain⟨hke,_,BJ⟩:=db i o p (by simp) (by simpa using Wc) cg hp;have pW:=pF (S:=S0) nB cG aO cg hp nV jH;have heq:=vt (S:=S0) (f:=fun i=>listed.getD i false) (g:=fun k=>(listed.setIfInBounds i true).getD k false) nB cG aO gT xD cg hp nV jI lI;have Gu:nU all (fun k=>(listed.setIfInBounds i true).getD k false):=by
    intro k ok cQ QR x hx;by_cases D3:x=i
    ·subst D3;exact jI
    ·show (listed.setIfInBounds i true).getD x false=true;rw[lI x D3];by_cases kh:k=i
     ·subst kh;rw[cg]at cQ;cases cQ;exact jH x hx
     ·exact aO k ok cQ ((lI k kh).symm.trans QR) x hx
   have xG:((List.range all.length).filter fun k=>!(listed.setIfInBounds i true).getD k false).length≤fuel:=by
    have h1:(List.range all.length).filter (fun k=>!(listed.setIfInBounds i true).getD k false)=((List.range all.length).filter fun k=>!listed.getD k false).filter (fun k=>k != i):=by
     rw[List.filter_filter];refine List.filter_congr fun k _=>?_;by_cases kh:k=i
     ·subst kh;rw[jI];simp
     ·rw[lI k kh];simp[kh]
    have eW:i∈(List.range all.length).filter fun k=>!listed.getD k false:=List.mem_filter.2 ⟨List.mem_range.2 iu,by simp[nV]⟩;rw[h1];have:(((List.range all.length).filter fun k=>!listed.getD k false).filter (fun k=>k != i)).length<((List.range all.length).filter fun k=>!listed.getD k false).length:=by
     rw[List.length_filter_lt_length_iff_exists];exact⟨i,eW,by simp⟩
    omega
   have hs:=BJ _ pW (hIs _) φ G a w hr (wpAny P .any all.toArray Q fuel (listed.setIfInBounds i true)) Q (fun φ' a' w' b6 aN=>
    ih _ φ' a' w' (by simpa using bQ) (by rw[lI _ (Ne.symm QT)];exact wI) Gu (b6.eqv heq) (by rw[←heq.mem];exact hk.trans aN) xG)
   unfold wpOp;rw[ho];simp only
   split at hs
   ·rename_i hw;rw[if_pos hw];exact .inl hs
   ·rename_i hw;rw[if_neg hw];exact hs
end
theorem Jb{P:Program}{S S1:St}{id:Nat}{ops init:List Oper}{ol:Oper}{qs:List aS}{I:Mem→Prop}(dP:ops=init++[ol])(xI:Aq ops)(Gt:I S.mem)(hm:P.follows .mixedOrders=true)(hc:Cert P I ops init S qs S1)(cG:lY ops (qs++[zQ])=true){φ G a w}(hr:Rel φ G S a w){Q:Exit→Act→World→Prop}
 (jw:∀φ' a' w',Rel φ' G S1 a' w'→aP φ S.mem w φ' S1.mem w'→∀next:Act→World→Prop,(∀a' w',Q .normal a' w'→next a' w')→if Region.wanted ol (yielded ops.toArray a'.tmps)then ol.wp P a' w' next Q else next (a'.put ol.dst undef) w'):(Code.region id ops.toArray true).wp P Q a w:=by
 refine wp_region_any hm ?_;have iU:Rel φ G S a {w with drawn:=w.drawn+1}:=hr.grow (fun _ _=>rfl) (Nat.le_refl _);have cm:(gW ops.length fun i=>(Array.replicate ops.length false).getD i false)=[]:=by
  rw[gW,List.filter_eq_nil_iff];intro i hi;simp[Array.getD_eq_getD_getElem?,List.mem_range.1 hi]
 refine N6 (S0:=S) (φ0:=φ) (w0:=w) (G:=G) dP xI Gt hc rfl cG hr.mem.nodup jw _ _ φ a _ (by simp) ?_ ?_ ?_ ?_ ?_
 ·simp only[Array.getD_eq_getD_getElem?];rw[dP];simp
 ·intro j o _ hj;exfalso;simp only[Array.getD_eq_getD_getElem?]at hj;by_cases h:j<ops.length
  ·simp[h]at hj
  ·simp[h]at hj
 ·simp only[List.size_toArray];rw[cm];exact iU
 ·simp only[List.size_toArray];rw[cm];exact aP.grow (fun _ _=>rfl) (Nat.le_refl _) rfl rfl rfl
 ·simp only[List.size_toArray];exact Nat.le_trans (List.length_filter_le _ _) (by simp)
def verSum:Mem→Nat
 |[]=>0
 |e::r=>e.aj+verSum r
def verSums:List aS→Nat
 |[]=>0
 |p::r=>verSum p.es+verSums r
def killM(N:Nat):Mem→Mem
 |[]=>[]
 |e::r=>(match decide (100≤e.key)with|true=>⟨e.key,N,.dead⟩|false=>e)::killM N r
def St.kill(S:St)(N:Nat):St:={S with env:=[],mem:=killM N S.mem}
def farE:List cH→Bool
 |[]=>true
 |e::r=>decide (100≤e.key)&&farE r
def farJ(ps:List aS):List Nat→Bool
 |[]=>true
 |i::r=>(match ps[i]? with|some p=>farE p.es|none=>false)&&farJ ps r
theorem xJ:∀{m:Mem}{e:cH},e∈m→e.aj≤verSum m
 |_::r,e,h=>by
  rcases List.mem_cons.1 h with rfl|h
  ·simp only[verSum];omega
  ·have:=xJ (m:=r) h;simp only[verSum];omega
theorem BL:∀{ps:List aS}{p:aS},p∈ps→verSum p.es≤verSums ps
 |_::r,p,h=>by
  rcases List.mem_cons.1 h with rfl|h
  ·simp only[verSums];omega
  ·have:=BL (ps:=r) h;simp only[verSums];omega
theorem nW(N:Nat):∀m:Mem,(killM N m).map (·.key)=m.map (·.key)
 |[]=>rfl
 |e::r=>by
  simp only[killM,List.map_cons,nW N r];split<;>rfl
theorem p8{N:Nat}:∀{m:Mem}{e:cH},e∈killM N m→(∃e0∈m,100≤e0.key∧e=⟨e0.key,N,.dead⟩)∨(e∈m∧e.key<100)
 |e0::r,e,h=>by
  simp only[killM,List.mem_cons]at h;rcases h with h|h
  ·by_cases hk:100≤e0.key
   ·simp only[hk,decide_true]at h;exact .inl ⟨e0,by simp,hk,h⟩
   ·simp only[hk,decide_false]at h;subst h;exact .inr ⟨by simp,by omega⟩
  ·rcases p8 h with ⟨e1,h1,h2,h3⟩|⟨h1,h2⟩
   ·exact .inl ⟨e1,List.mem_cons_of_mem _ h1,h2,h3⟩
   ·exact .inr ⟨List.mem_cons_of_mem _ h1,h2⟩
theorem xK(N:Nat)(k:Nat):∀m:Mem,Mem.get (killM N m) k=(Mem.get m k).map fun e=>match decide (100≤e.key)with|true=>⟨e.key,N,.dead⟩|false=>e
 |[]=>rfl
 |e::r=>by
  have e1:(match decide (100≤e.key)with|true=>(⟨e.key,N,.dead⟩:cH)|false=>e).key=e.key:=by split<;>rfl
  simp only[killM,Mem.get,e1];split
  ·rfl
  ·exact xK N k r
def nX(φ:bM)(N:Nat):bM:=fun k=>match φ k with
 |some L=>some (match decide (100≤k)with|true=>{L with aj:=N}|false=>L)
 |none=>none
theorem nY{φ:bM}{N k:Nat}(h:k<100):nX φ N k=φ k:=by
 unfold nX;have:decide (100≤k)=false:=by simp;omega
 rw[this];cases φ k<;>rfl
theorem D4{φ:bM}{N k:Nat}{L:Loc}(h:100≤k)(hL:φ k=some L):nX φ N k=some {L with aj:=N}:=by
 unfold nX;have:decide (100≤k)=true:=by simp;omega
 rw[this,hL]
theorem Zl{φ:bM}{G:Fr}{S:St}{a:Act}{w:World}{N:Nat}(h:Rel φ G S a w)(hv:∀e∈S.mem,e.aj<N):
 Rel (nX φ N) G (S.kill N) a w∧aP φ S.mem w (nX φ N) (S.kill N).mem w:=by
 have hle:φ.le (nX φ N):=by
  intro k L hL;by_cases hk:100≤k
  ·obtain⟨e,he,rfl⟩:=List.mem_map.1 (h.mem.oB k L hL);obtain⟨L',bO,hve,_⟩:=h.mem.eV e he;rw[hL]at bO;cases bO;have:=hv e he;exact⟨_,D4 hk hL,by simp only;omega,fun hh=>by simp only at hh;omega⟩
  ·exact⟨L,by rw[nY (by omega)];exact hL,Nat.le_refl _,fun _=>rfl⟩
 have fw:∀b,iq (nX φ N) (killM N S.mem) b→iq φ S.mem b:=by
  rintro b ⟨e,he,L,hL,ho⟩;rcases p8 he with ⟨e0,h0,h1,rfl⟩|⟨h0,h1⟩
  ·exact ho.elim
  ·rw[nY h1]at hL;exact⟨e,h0,L,hL,ho⟩
 have hF:∀b,Fo G (nX φ N) (killM N S.mem) b→Fo G φ S.mem b:=fun b=>Or.imp id (fw b);have hk:aP φ S.mem w (nX φ N) (S.kill N).mem w:=⟨hle,fun _ _ _=>rfl,fun b _ hb=>fw b hb,Nat.le_refl _,rfl,rfl,rfl⟩;refine⟨⟨h.size,h.defers,(fun t x hx=>nomatch hx),⟨?_,?_,?_,?_,?_,h.mem.bound⟩,h.jZ.mono (fun _ _ _=>rfl) (Nat.le_refl _) (fun b _ hb=>hF b hb)⟩,hk⟩
 ·show ((killM N S.mem).map (·.key)).Nodup;rw[nW];exact h.mem.nodup
 ·intro k L hL;show k∈(killM N S.mem).map (·.key);rw[nW];unfold nX at hL;cases hp:φ k with
  |none=>rw[hp]at hL;cases hL
  |some L0=>exact h.mem.oB k L0 hp
 ·intro e he;rcases p8 he with ⟨e0,h0,h1,rfl⟩|⟨h0,h1⟩
  ·obtain⟨L,hL,_,_⟩:=h.mem.eV e0 h0;exact⟨_,D4 h1 hL,rfl,trivial⟩
  ·obtain⟨L,hL,hve,hc⟩:=h.mem.eV e h0;exact⟨L,by rw[nY h1];exact hL,hve,hc.mono hle (fun _ _ _=>rfl) (Nat.le_refl _) (fun b _ hb=>hF b hb) (fun _ _=>rfl)⟩
 ·rintro e he e' nR L L' hL bO ⟨b,ho,cg⟩;rcases p8 he with ⟨e0,h0,h1,rfl⟩|⟨h0,h1⟩
  ·exact ho.elim
  ·rcases p8 nR with ⟨e1,h2,h3,rfl⟩|⟨h2,h3⟩
   ·exact cg.elim
   ·rw[nY h1]at hL;rw[nY h3]at bO;exact h.mem.apart e h0 e' h2 L L' hL bO ⟨b,ho,cg⟩
 ·intro b hb;exact h.mem.jY b (fw b hb)
def yM(P:Program)(all:List Oper)(S:St)(o:Oper)(p:aS)(t:TypeId)(x:D):Prop:=
 ∀S',jU all o p.ks S' S→∀φ G a w,Rel φ G S' a w→∀(next:Act→World→Prop)(R:Exit→Act→World→Prop),
  (∀φ' a' w' v,Rel φ' G {S' with mem:=putAll S'.mem p.es} a' w'→aP φ S'.mem w φ' (putAll S'.mem p.es) w'→aK w' (Fo G φ' (putAll S'.mem p.es)) x v→R (.panic [{v:=.iface t v,recovered:=false}]) a' w')→
  if Region.wanted o (yielded all.toArray a.tmps)then o.wp P a w next R else next (a.put o.dst undef) w
section
variable {all:List Oper} {ps:List aS}
theorem N7{m:Mem}{x e:cH}(h:e∈Mem.set m x):e∈m∨e=x:=by
 induction m with
 |nil=>exact .inl h
 |cons y r ih=>
  simp only[Mem.set]at h;split at h
  ·rcases List.mem_cons.1 h with h|h
   ·exact .inr h
   ·exact .inl (List.mem_cons_of_mem _ h)
  ·rcases List.mem_cons.1 h with h|h
   ·exact .inl (by simp[h])
   ·rcases ih h with h|h
    ·exact .inl (List.mem_cons_of_mem _ h)
    ·exact .inr h
theorem xL:∀{es:List cH}{m:Mem}{e:cH},e∈putAll m es→e∈m∨e∈es
 |[],m,e,h=>.inl h
 |x::r,m,e,h=>by
  have h1:e∈putAll (Mem.set m x) r:=h;rcases xL h1 with h|h
  ·rcases N7 h with h|h
   ·exact .inl h
   ·exact .inr (by simp[h])
  ·exact .inr (List.mem_cons_of_mem _ h)
theorem BM(B:Nat)(jR:∀p∈ps,∀e∈p.es,e.aj<B):∀(l:List Nat)(S:St),(∀e∈S.mem,e.aj<B)→∀e∈(aG all ps S l).mem,e.aj<B
 |[],S,h=>h
 |i::l,S,h=>by
  have e1:aG all ps S (i::l)=aG all ps (aG all ps S [i]) l:=by simp[aG]
  rw[e1];refine BM B jR l _ ?_;simp only[aG,List.foldl_cons,List.foldl_nil];split
  ·rename_i o p ho hp;simp only[aS.app,eY];intro e he;rcases xL he with he|he
   ·exact h e he
   ·exact jR p (List.mem_of_getElem? hp) e he
  ·exact h
variable {S:St} {f:Nat→Bool}
theorem Jc(hlen:ps.length=all.length)(cG:lY all ps=true)(aO:nU all f){j:Nat}{o:Oper}(ho:all[j]?=some o)(hj:f j=false)(jH:∀i∈ew o,f i=true)
 (tH:∀i p,ps[i]?=some p→i≠j→i∉(gA all []).getD j []→j∉(gA all []).getD i []→∀e∈p.es,100≤e.key) {k:Nat} (hk:k<100):
 Mem.get (aG all ps S (gW all.length f)).mem k=Mem.get (aG all ps S (List.range j)).mem k:=by
 have bn:j<all.length:=(List.getElem?_eq_some_iff.1 ho).1;have dz:∀j o,all[j]?=some o→∀p∈ew o,p<j:=fun j o ho=>(ei cG ho).choose_spec.2.1;have Gr:∀i∈(gA all []).getD j [],i<j∧f i=true:=fun i hi=>by
  obtain⟨h1,h2⟩:=ju (L:=fun i=>f i=true) dz (fun j o ho hf=>aO j o ho hf) j ⟨o,ho⟩ i hi;exact⟨h1,h2 fun o' cg=>by rw[ho]at cg;cases cg;exact jH⟩
 have N8:∀i,f i=true→i<all.length→j∉(gA all []).getD i []:=by
  intro i j9 iu p7;obtain⟨oi,gX⟩:∃oi,all[i]?=some oi:=⟨all[i],by simp[iu]⟩;have:=(ju (L:=fun i=>f i=true) dz (fun j o ho hf=>aO j o ho hf) i ⟨oi,gX⟩ j p7).2 (fun o' cg=>by rw[gX]at cg;cases cg;exact aO i oi gX j9);simp[hj]at this
 let q:Nat→Bool:=fun i=>(gA all []).getD j [] |>.contains i
 have hq:∀i,q i=true↔i∈(gA all []).getD j []:=fun i=>by simp[q]
 have yL:(gW all.length f).filter q=(List.range j).filter q:=by
  rw[xC bn hj,List.filter_append,List.filter_filter,List.filter_filter];have h2:(List.range' (j+1) (all.length-j-1)).filter (fun a=>q a&&f a)=[]:=by
   rw[List.filter_eq_nil_iff];intro i hi;have:=(List.mem_range'_1.1 hi).1;simp only[Bool.and_eq_true,not_and];intro kg;have:=(Gr i ((hq i).1 kg)).1;omega
  rw[h2,List.append_nil];refine List.filter_congr fun i hi=>?_;cases kg:q i with
  |false=>simp
  |true=>simp[(Gr i ((hq i).1 kg)).2]
 have far:∀i p,ps[i]?=some p→i≠j→q i=false→j∉(gA all []).getD i []→k∉p.es.map (·.key):=by
  intro i p hp ka kg p7 ur;obtain⟨e,he,rfl⟩:=List.mem_map.1 ur;have:=tH i p hp ka (fun h=>by rw[(hq i).2 h]at kg;cases kg) p7 e he;omega
 have side:∀(i:Nat)(p:aS),i≠j→j∉(gA all []).getD i []→ps[i]?=some p→k∈p.es.map (·.key)→q i=true:=by
  intro i p ka p7 hp ur;cases kg:q i with
  |true=>rfl
  |false=>exact absurd ur (far i p hp ka kg p7)
 rw[lZ k q (gW all.length f) S S (fun i hi p hp ur=>by
  have lB:=List.mem_filter.1 hi;have iu:=List.mem_range.1 lB.1;refine side i p (fun h=>by subst h;simp[hj]at lB) (N8 i lB.2 iu) hp ur) rfl rfl,
  lZ k q (List.range j) S S (fun i hi p hp ur=>by
   have iu:=List.mem_range.1 hi;refine side i p (by omega) (fun h=>?_) hp ur;obtain⟨oi,gX⟩:∃oi,all[i]?=some oi:=⟨all[i]'(by omega),by simp[show i<all.length by omega]⟩
   have:=(ju (L:=fun _=>True) dz (fun _ _ _ _ _ _=>trivial) i ⟨oi,gX⟩ j h).1;omega) rfl rfl,yL]
theorem QU{P:Program}{S0 S1:St}{φ0:bM}{G:Fr}{w0:World}{Q:Exit→Act→World→Prop}{j:Nat}{oj:Oper}{pj:aS}{t:TypeId}{x:D}
 (hlen:ps.length=all.length) (cG:lY all ps=true) (xD:(S0.mem.map (·.key)).Nodup) (gT:∀(i:Nat)(p:aS),ps[i]?=some p→∀e∈p.es,e.key∈p.ks)
 (db:∀i o p,all[i]?=some o→ps[i]?=some p→i≠j→j∉(gA all []).getD i []→jV P all (aG all ps S0 (List.range i)) o p)
 (Gw:all[j]?=some oj) (sH:ps[j]?=some pj) (Gx:yM P all (aG all ps S0 (List.range j)) oj pj t x)
 (tH:∀i p,ps[i]?=some p→i≠j→i∉(gA all []).getD j []→j∉(gA all []).getD i []→∀e∈p.es,100≤e.key)
 (dJ:S1.n=S0.n) (eR:S1.gl=S0.gl) (FE:S1.env=[]) (rL:S1.mem=killM (verSum S0.mem+verSums ps+1) (putAll (aG all ps S0 (List.range j)).mem pj.es))
 (hQ:∀φ' a' w' v,Rel φ' G S1 a' w'→aP φ0 S0.mem w0 φ' S1.mem w'→aK w' (Fo G φ' S1.mem) x v→Q (.panic [{v:=.iface t v,recovered:=false}]) a' w'):
 ∀(fuel:Nat)(listed:Array Bool) φ a w,listed.size=all.length→nU all (fun i=>listed.getD i false)→listed.getD j false=false→Rel φ G (aG all ps S0 (gW all.length fun i=>listed.getD i false)) a w→aP φ0 S0.mem w0 φ (aG all ps S0 (gW all.length fun i=>listed.getD i false)).mem w→
  ((List.range all.length).filter fun i=>!listed.getD i false).length≤fuel→wpAny P .any all.toArray Q fuel listed a w:=by
 have gP:j<all.length:=(List.getElem?_eq_some_iff.1 Gw).1;have dz:∀j o,all[j]?=some o→∀p∈ew o,p<j:=fun j o ho=>(ei cG ho).choose_spec.2.1;have first:∀(f:Nat→Bool)(n:Nat),n≤all.length→(∀i,i<n→f i=true)∨∃i,i<n∧f i=false∧∀i',i'<i→f i'=true:=by
  intro f n;induction n with
  |zero=>exact fun _=>.inl (fun i hi=>by omega)
  |succ n ih=>
   intro hn;rcases ih (by omega)with h|⟨i,h1,h2,h3⟩
   ·cases hf:f n with
    |true=>
     refine .inl fun i hi=>?_;rcases Nat.lt_succ_iff_lt_or_eq.1 hi with h'|h'
     ·exact h i h'
     ·rw[h'];exact hf
    |false=>exact .inr ⟨n,by omega,hf,h⟩
   ·exact .inr ⟨i,by omega,h2,h3⟩
 have done:∀(listed:Array Bool),listed.size=all.length→listed.getD j false=false→Region.ready .any all.toArray listed=[]→False:=by
  intro listed bQ wI oX;rcases first (fun i=>listed.getD i false) all.length (Nat.le_refl _)with h|⟨i,h1,h2,h3⟩
  ·have:=h j gP;simp only[wI]at this;cases this
  ·have:i∈Region.ready .any all.toArray listed:=by
    rw[mem_ready];refine⟨?_,all[i],by simp[h1],fun e he hb=>?_⟩
    ·have:i<listed.size:=by omega
     simp only[Array.getD_eq_getD_getElem?,Array.getElem?_eq_getElem this,Option.getD_some]at h2⊢;exact h2
    ·obtain⟨p,_,hp,_⟩:=ei cG (show all[i]?=some all[i] by simp[h1]);exact h3 e.on (hp e.on (by
      simp only[ew,List.mem_map,List.mem_filter];exact⟨e,⟨by simpa using he,hb⟩,rfl⟩))
   rw[oX]at this;cases this
 intro fuel;induction fuel with
 |zero=>
  intro listed φ a w bQ aO wI hr hk hf;exfalso;have:j∈(List.range all.length).filter fun i=>!listed.getD i false:=List.mem_filter.2 ⟨List.mem_range.2 gP,by simp[wI]⟩;have:=List.length_pos_of_mem this;omega
 |succ fuel ih=>
  intro listed φ a w bQ aO wI hr hk hf;refine⟨fun h=>(done listed bQ wI h).elim,fun i hi=>?_⟩;rw[mem_ready]at hi;obtain⟨h0,o,ho,xE⟩:=hi;have cg:all[i]?=some o:=by simpa using ho
  have iu:i<all.length:=(List.getElem?_eq_some_iff.1 cg).1;have xF:i<listed.size:=by omega
  have nV:listed.getD i false=false:=by
   simp only[Array.getD_eq_getD_getElem?,Array.getElem?_eq_getElem xF,Option.getD_some]at h0⊢;exact h0
  have jH:∀k∈ew o,listed.getD k false=true:=by
   intro k aN;simp only[ew,List.mem_map,List.mem_filter]at aN;obtain⟨e,⟨he,hb⟩,rfl⟩:=aN;exact xE e (by simpa using he) hb
  by_cases ka:i=j
  ·subst ka;rw[Gw]at cg;cases cg;have pW:=pF (S:=S0) hlen cG aO Gw sH nV jH;have hs:=Gx _ pW φ G a w hr (wpAny P .any all.toArray Q fuel (listed.setIfInBounds i true)) Q (fun φ' a' w' v b6 aN hv=>by
    have hB1:∀p∈ps,∀e∈p.es,e.aj<verSum S0.mem+verSums ps+1:=by
     intro p hp e he;have h1:=xJ he;have h2:=BL hp;omega
    have xM:∀e∈S0.mem,e.aj<verSum S0.mem+verSums ps+1:=by
     intro e he;have h1:=xJ he;omega
    have aA:∀e∈putAll (aG all ps S0 (gW all.length fun i=>listed.getD i false)).mem pj.es,e.aj<verSum S0.mem+verSums ps+1:=by
     intro e he;rcases xL he with he|he
     ·exact BM _ hB1 _ _ xM e he
     ·exact hB1 pj (List.mem_of_getElem? sH) e he
    obtain⟨iN,cn⟩:=Zl b6 aA;have eW:killM (verSum S0.mem+verSums ps+1) (putAll (aG all ps S0 (gW all.length fun i=>listed.getD i false)).mem pj.es)=S1.mem:=by
     rw[rL];refine Mem.ext ?_ ?_ fun k=>?_
     ·rw[nW,jK,eA];exact xD
     ·simp only[nW,jK,eA]
     ·rw[xK,xK];by_cases afL:k<100
      ·congr 1;exact mX _ _ _ k (by simp only[eA]) (.inr (Jc hlen cG aO Gw nV jH tH afL))
      ·have iS:∀(m:Mem),(Mem.get m k).map (fun e:cH=>match decide (100≤e.key)with|true=>(⟨e.key,verSum S0.mem+verSums ps+1,.dead⟩:cH)|false=>e)=if k∈m.map (·.key)then some ⟨k,verSum S0.mem+verSums ps+1,.dead⟩else none:=by
        intro m;cases hg:Mem.get m k with
        |none=>
         rw[if_neg]
         ·rfl
         ·intro ur;obtain⟨e,he,hek⟩:=List.mem_map.1 ur;have:∀(m:Mem),e∈m→Mem.get m k≠none:=by
           intro m;induction m with
           |nil=>intro h;cases h
           |cons y r ihr=>
            intro h;simp only[Mem.get];split
            ·simp
            ·rename_i hy;rcases List.mem_cons.1 h with rfl|h
             ·exact absurd hek hy
             ·exact ihr h
          exact this m he hg
        |some e=>
         obtain⟨h1,h2⟩:=Mem.get_mem hg;have:decide (100≤e.key)=true:=by simp;omega
         simp only[Option.map_some,this];rw[if_pos (h2▸List.mem_map_of_mem h1),h2]
       rw[iS,iS];simp only[jK,eA]
    have hS:({(aG all ps S0 (gW all.length fun i=>listed.getD i false))with mem:=putAll (aG all ps S0 (gW all.length fun i=>listed.getD i false)).mem pj.es}:St).kill (verSum S0.mem+verSums ps+1)=S1:=by
     have a1:(aG all ps S0 (gW all.length fun i=>listed.getD i false)).n=S1.n:=by rw[nb,dJ]
     have a2:(aG all ps S0 (gW all.length fun i=>listed.getD i false)).gl=S1.gl:=by rw[lH,eR]
     unfold St.kill;simp only[eW,a1,a2];rw[←FE]
    rw[hS]at iN cn;refine hQ _ a' w' v iN (hk.trans (aN.trans cn)) (hv.mono (fun _ _ _=>rfl) (Nat.le_refl _) (fun b hb=>Or.imp id (cn.own b hb))))
   unfold wpOp;rw[ho];simp only
   split at hs
   ·rename_i hw;rw[if_pos hw];exact .inl hs
   ·rename_i hw;rw[if_neg hw];exact hs
  ·obtain⟨p,hp,_⟩:=ei cG cg;have N8:j∉(gA all []).getD i []:=by
    intro p7;have:=(ju (L:=fun i=>listed.getD i false=true) dz (fun j o ho hf=>aO j o ho hf) i ⟨o,cg⟩ j p7).2 (fun o' BK=>by rw[cg]at BK;cases BK;exact jH);rw[wI]at this;cases this
   have BJ:=db i o p cg hp ka N8;have pW:=pF (S:=S0) hlen cG aO cg hp nV jH;have jI:(listed.setIfInBounds i true).getD i false=true:=by simp[xF]
   have lI:∀k,k≠i→(listed.setIfInBounds i true).getD k false=listed.getD k false:=fun k aN=>getD_set_ne false (Ne.symm aN);have heq:=vt (S:=S0) (f:=fun i=>listed.getD i false) (g:=fun k=>(listed.setIfInBounds i true).getD k false) hlen cG aO gT xD cg hp nV jI lI;have Gu:nU all (fun k=>(listed.setIfInBounds i true).getD k false):=by
    intro k ok cQ QR x hx;by_cases D3:x=i
    ·subst D3;exact jI
    ·show (listed.setIfInBounds i true).getD x false=true;rw[lI x D3];by_cases kh:k=i
     ·subst kh;rw[cg]at cQ;cases cQ;exact jH x hx
     ·exact aO k ok cQ ((lI k kh).symm.trans QR) x hx
   have xG:((List.range all.length).filter fun k=>!(listed.setIfInBounds i true).getD k false).length≤fuel:=by
    have h1:(List.range all.length).filter (fun k=>!(listed.setIfInBounds i true).getD k false)=((List.range all.length).filter fun k=>!listed.getD k false).filter (fun k=>k != i):=by
     rw[List.filter_filter];refine List.filter_congr fun k _=>?_;by_cases kh:k=i
     ·subst kh;rw[jI];simp
     ·rw[lI k kh];simp[kh]
    have eW:i∈(List.range all.length).filter fun k=>!listed.getD k false:=List.mem_filter.2 ⟨List.mem_range.2 iu,by simp[nV]⟩;rw[h1];have:(((List.range all.length).filter fun k=>!listed.getD k false).filter (fun k=>k != i)).length<((List.range all.length).filter fun k=>!listed.getD k false).length:=by
     rw[List.length_filter_lt_length_iff_exists];exact⟨i,eW,by simp⟩
    omega
   have hs:=BJ _ pW φ G a w hr (wpAny P .any all.toArray Q fuel (listed.setIfInBounds i true)) Q (fun φ' a' w' b6 aN=>
    ih _ φ' a' w' (by simpa using bQ) Gu (by rw[lI j (fun h=>ka h.symm)];exact wI) (b6.eqv heq) (by rw[←heq.mem];exact hk.trans aN) xG)
   unfold wpOp;rw[ho];simp only
   split at hs
   ·rename_i hw;rw[if_pos hw];exact .inl hs
   ·rename_i hw;rw[if_neg hw];exact hs
end
end Go.Am
end

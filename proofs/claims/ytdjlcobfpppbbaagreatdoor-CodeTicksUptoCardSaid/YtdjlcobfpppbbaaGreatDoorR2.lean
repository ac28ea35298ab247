/-
  Texts of one proof, one behind the other.
-/
import Derived.Test.YtdjlcobfpppbbaaGreatDoorR1
import Derived.Orders
set_option linter.all false
section
namespace Go.Am
open Go
theorem Ax(sz:Nat):∀(vs:List (Nat×Value))(k:Nat)(cells:Array Value),vs.map (·.1)=List.range' k vs.length→(∀v∈vs,v.2.cells.size=sz)→(k+vs.length)*sz=cells.size→
 ∃out,Instr.fill (fun i=>some (i*sz,sz)) cells vs=some out∧out.toList=cells.toList.take (k*sz)++vs.flatMap (fun v=>v.2.cells.toList)
 |[],k,cells,_,_,hl=>by
  refine⟨cells,rfl,?_⟩;simp only[List.length_nil,Nat.add_zero]at hl;simp only[hl,List.flatMap_nil,List.append_nil];rw[←Array.length_toList,List.take_length]
 |(i,v)::vs,k,cells,hi,hs,hl=>by
  simp only[List.map_cons,List.length_cons,List.range'_succ,List.cons.injEq]at hi;obtain⟨rfl,hi⟩:=hi;have hv:=hs (i,v) (by simp);simp only at hv;simp only[List.length_cons]at hl;have bz:i*sz+v.cells.size≤cells.size:=by
   rw[hv,←hl,←Nat.succ_mul];exact Nat.mul_le_mul_right _ (by omega)
  have h1:=Gf cells v.cells (i*sz) bz;obtain⟨c1,sJ⟩:∃c1,c1=v.cells.zipIdx.foldl (fun cs (x:Value×Nat)=>cs.setIfInBounds (i*sz+x.2) x.1) cells:=⟨_,rfl⟩;rw[←sJ]at h1;have iJ:i*sz+v.cells.toList.length≤cells.toList.length:=by simpa using bz
  have bV:c1.size=cells.size:=by rw[←Array.length_toList,h1,bR _ _ _ iJ];simp
  obtain⟨out,h2,h3⟩:=Ax sz vs (i+1) c1 hi (fun x hx=>hs x (by simp[hx])) (by rw[bV,←hl];congr 1;omega);refine⟨out,?_,?_⟩
  ·simp only[Instr.fill];rw[if_neg (by simp;omega),←h2,sJ]
  ·rw[h3,h1,dq _ _ _ iJ];have hvl:v.cells.toList.length=sz:=by simpa using hv
   rw[Nat.succ_mul,List.take_append_of_le_length (by simp;omega),List.take_of_length_le (by simp;omega)];simp
theorem BE{φ w F}{sz:Nat}:∀(ds:List D)(vs:List Value),ds.length=vs.length→(∀d∈ds,d.size=sz)→(∀(i:Nat) d v,ds[i]?=some d→vs[i]?=some v→aB φ w F (.d d) v)→
 cn w F sz ds (vs.flatMap fun v=>v.cells.toList)
 |[],vs,hl,_,_=>by
  have:vs=[]:=List.eq_nil_of_length_eq_zero (by simpa using hl.symm);subst this;exact cn.nil ..
 |d::ds,vs,hl,hs,hr=>by
  cases vs with
  |nil=>simp at hl
  |cons v vs=>
   have ih:=BE (φ:=φ) (w:=w) (F:=F) ds vs (by simpa using hl) (fun x hx=>hs x (by simp[hx])) (fun i d v h h'=>hr (i+1) d v (by simpa using h) (by simpa using h'));have h0:=hr 0 d v (by simp) (by simp);cases h0 with|d _ _ h0=>
   have jq:=hs d (by simp);have cS:v.cells.size=sz:=by rw[h0.size,jq]
   have one:cn w F sz [d] v.cells.toList:=by
    refine⟨by simp[cS],fun u hu=>h0.cells.2.1 u (by simpa using hu),fun x hx=>by simp at hx;subst hx;exact jq,fun i x hx=>?_⟩;cases i with
    |zero=>simp at hx;subst hx;exact⟨v,h0,fun j c hj=>by simpa using hj⟩
    |succ i=>simp at hx
   simpa using one.append ih
theorem Gi{w:World}{F F':Nat→Prop}{sz:Nat}{ds:List D}{cs rest:List Value}{elem:TypeId}{fr}{w1:World}{arr:Array Value}(hr:cn w F sz ds cs)(hh:w1.heap[w.heap.size]?=some (.cells arr elem fr))(gp:arr.toList=cs++rest)
 (hm:∀x v,aK w F x v→aK w1 F' x v) (hF:¬F' w.heap.size) (cap:Nat) (di:ds.length≤cap):aK w1 F' (.list ds) (.slice (some ⟨w.heap.size,0,none⟩) ds.length cap):=by
 obtain⟨a1,a2,a3,a4⟩:=hr;have xF:∀i,∃v,∀d,ds[i]?=some d→aK w F d v∧∀(j:Nat) c,v.cells[j]?=some c→cs[i*sz+j]?=some c:=by
  intro i;cases hd:ds[i]? with
  |none=>exact⟨undef,fun d h=>by cases h⟩
  |some d=>obtain⟨v,h1,h2⟩:=a4 i d hd;exact⟨v,fun d' h=>by cases h;exact⟨h1,h2⟩⟩
 obtain⟨vs,cS⟩:=Classical.axiomOfChoice xF;refine .list ds w.heap.size 0 cap sz vs di ?_ hF a3 (fun i d hd=>hm _ _ (cS i d hd).1) (fun i j c hi hj=>?_)
 ·exact (Array.getElem?_eq_some_iff.1 hh).1
 ·obtain⟨h1,h2⟩:=cS i ds[i] (by simp[hi]);have h3:=h2 j c hj;rw[DR hh,←Array.getElem?_toList,gp,Nat.zero_add,List.getElem?_append_left (List.getElem?_eq_some_iff.1 h3).1];exact h3
theorem Gj{φ:bQ}{G:Fr}{m:Mem}{w w1:World}(hold:∀b,b<w.heap.size→w1.heap[b]?=w.heap[b]?)(hs:w.heap.size≤w1.heap.size)(x v)(hx:aK w (Fo G φ m) x v):aK w1 (Fo G φ m) x v:=
 hx.mono (fun b hb _=>hold b hb) hs (fun _ _ h=>h)
def partDs:List (Nat×AV)→Option (List D)
 |[]=>some []
 |(_,x)::r=>match x.norm,partDs r with
  | .d d,some ds=>some (d::ds)
  |_,_=>none
theorem BF{φ w F}:∀(ps:List (Nat×AV))(ds:List D)(vs:List Value),partDs ps=some ds→ps.length=vs.length→(∀(i:Nat) p v,ps[i]?=some p→vs[i]?=some v→aB φ w F p.2 v)→
 ds.length=vs.length∧∀(i:Nat) d v,ds[i]?=some d→vs[i]?=some v→aB φ w F (.d d) v
 |[],ds,vs,h,hl,_=>by
  simp[partDs]at h;subst h;exact⟨by simpa using hl,fun i d v h'=>by simp at h'⟩
 |(i,x)::ps,ds,vs,h,hl,hr=>by
  simp only[partDs]at h;split at h<;>simp at h;rename_i d ja hx jq;subst h;cases vs with
  |nil=>simp at hl
  |cons v vs=>
   have ih:=BF (φ:=φ) (w:=w) (F:=F) ps ja vs jq (by simpa using hl) (fun i p v h h'=>hr (i+1) p v (by simpa using h) (by simpa using h'));refine⟨by simp[ih.1],fun j d' v' h h'=>?_⟩;cases j with
   |zero=>
    simp at h h';subst h;subst h';have:=(hr 0 (i,x) v (by simp) (by simp)).norm;simp only[hx]at this;exact this
   |succ j=>exact ih.2 j d' v' (by simpa using h) (by simpa using h')
def gB(P:Program)(t:TypeId)(k0:Nat)(len:Nat):List (Nat×AV)→Option cI→Option dk
 |[(0,.lit (.slice none 0 0))],some ⟨_,v,_⟩=>match tk P t with
  | .slice e=>match fi P e,lJ P e with
   |some sz,some _=>some (.cZ (sz=1∧len=1) (.vec k0 (v+1) 0 1) ⟨k0,v+1,.box [.lit (.slice none 0 0)]⟩)
   |_,_=>none
  |_=>none
 |_,_=>none
def buildSlice0(P:Program)(m:Mem)(k0:Nat)(t:TypeId)(len:Nat)(ps:List (Nat×AV)):dk:=
 match tk P t with
 | .slice e=>match fi P e,lJ P e,partDs ps with
  |some sz,some zd,some ds=>match Mem.get m k0 with
   |some ⟨_,v,_⟩=>.cZ (zd.size=sz∧len*sz≤2^24∧ps.map (·.1)=List.range' 0 len∧(∀d∈ds,d.size=sz)) (.vec k0 (v+1) 0 len) ⟨k0,v+1,.vec sz ds⟩
   |none=>.val (zd.size=sz∧len*sz≤2^24∧ps.map (·.1)=List.range' 0 len∧(∀d∈ds,d.size=sz)) (.d (.list ds))
  |_,_,_=>.no
 |_=>.no
def buildSliceR(P:Program)(m:Mem)(k0:Nat)(t:TypeId)(len:Nat)(ps:List (Nat×AV)):dk:=
 match gB P t k0 len ps (Mem.get m k0)with
 |some r=>r
 |none=>buildSlice0 P m k0 t len ps
theorem uy{P:Program}{w:World}{t e:TypeId}{sz len:Nat}{zd:D}(ht:tk P t=.slice e)(hs:fi P e=some sz)(hz:lJ P e=some zd)(hb:len*sz≤2^24)
 {vs:List (Nat×Value)} (hi:vs.map (·.1)=List.range' 0 len) (hv:∀v∈vs,v.2.cells.size=sz):
 ∃arr:Array Value,arr.toList=vs.flatMap (fun v=>v.2.cells.toList)∧(Instr.buildSlice t len vs.toArray).run P w=.ok (.slice (some ⟨w.heap.size,0,none⟩) len len) (w.alloc (.cells arr e)):=by
 obtain⟨z,bP,vt,oK,_⟩:=BB hz w;have hlen:vs.length=len:=by
  have:=congrArg List.length hi;simpa using this
 have p4:¬(len*sz>2^24):=by omega
 by_cases h0:len*sz=0
 ·obtain⟨out,h1,h2⟩:=Ax sz vs 0 #[] (by rw[hlen];exact hi) hv (by rw[hlen];simp[h0]);refine⟨out,by simpa using h2,?_⟩;simp only[Instr.buildSlice,Sem.run_bind,run_underlying (fJ ht),Result.andThen_ok,run_sizeOf hs,h0,if_true,show Array.range 0=#[]from rfl,Array.map_empty,h1,show ¬(0>2^24) by decide,if_false,Sem.run_bind,Sem.run_pure,ij]
 ·obtain⟨out,h1,h2⟩:=Ax sz vs 0 ((Array.range (len*sz)).map (z.cells[·%z.cells.size]!)) (by rw[hlen];exact hi) hv (by rw[hlen];simp);refine⟨out,by simpa using h2,?_⟩;simp only[Instr.buildSlice,Sem.run_bind,run_underlying (fJ ht),Result.andThen_ok,run_sizeOf hs,p4,if_false,h0,bP,Sem.run_pure,h1,ij]
theorem Fh(P:Program)(S:St)(o:Oper)(t:TypeId)(len:Nat)(ps:Array (Nat×Operand))(ho:o.op=.buildSlice t len ps)(hx:∀x∈ps.toList,(S.opd x.2).1=true):
 aH P S o (buildSliceR P S.mem (keyOf o) t len (ps.toList.map fun x=>(x.1,(S.opd x.2).2))):=by
 have parts:∀{φ G a w},Rel φ G S a w→∀(i:Nat)(p:Nat×AV)(v:Value),(ps.toList.map fun x=>(x.1,(S.opd x.2).2))[i]?=some p→(ps.toList.map fun x=>a.eval x.2)[i]?=some v→aB φ w (Fo G φ S.mem) p.2 v:=by
  intro φ G a w hr i p v h1 h2;simp only[List.getElem?_map,Option.map_eq_some_iff]at h1 h2;obtain⟨x,Gg,rfl⟩:=h1;obtain⟨y,D0,rfl⟩:=h2;rw[Gg]at D0;cases D0;exact hr.opd _ (hx x (List.mem_of_getElem? Gg))
 have main:∀{e sz zd ds},tk P t=.slice e→fi P e=some sz→lJ P e=some zd→partDs (ps.toList.map fun x=>(x.1,(S.opd x.2).2))=some ds→zd.size=sz→len*sz≤2^24→
  (ps.toList.map fun x=>(x.1,(S.opd x.2).2)).map (·.1)=List.range' 0 len→(∀d∈ds,d.size=sz)→∀{φ G a w},Rel φ G S a w→
  ds.length=len∧∃arr:Array Value,cn w (Fo G φ S.mem) sz ds arr.toList∧(execOp a.eval o).run P w=.ok (.value (.slice (some ⟨w.heap.size,0,none⟩) len len)) (w.alloc (.cells arr e)):=by
  intro e sz zd ds ht hs hz jq nx hb hi bV φ G a w hr;obtain⟨h1,h2⟩:=BF (φ:=φ) (w:=w) (F:=Fo G φ S.mem) _ ds (ps.toList.map fun x=>a.eval x.2) jq (by simp) (parts hr);have jt:=BE ds _ h1 bV h2;have lH:(ps.toList.map fun x=>(x.1,a.eval x.2)).map (·.1)=List.range' 0 len:=by rw[←hi];simp
  have hv:∀v∈(ps.toList.map fun x=>(x.1,a.eval x.2)),v.2.cells.size=sz:=by
   intro v hv;simp only[List.mem_map]at hv;obtain⟨x,gr,rfl⟩:=hv;obtain⟨i,ny,sL⟩:=List.mem_iff_getElem.1 gr;have hid:i<ds.length:=by rw[h1];simpa using ny
   have:=h2 i ds[i] (a.eval x.2) (by simp[hid]) (by simp[List.getElem?_eq_getElem ny,sL]);cases this with|d _ _ h=>rw[h.size];exact bV _ (List.getElem_mem hid)
  obtain⟨arr,ha,bP⟩:=uy (P:=P) (w:=w) ht hs hz hb lH hv;refine⟨?_,arr,?_,?_⟩
  ·have:=congrArg List.length hi;simp at this;rw[h1];simp;exact this
  ·rw[ha];have e:(ps.toList.map fun x=>(x.1,a.eval x.2)).flatMap (fun v=>v.2.cells.toList)=(ps.toList.map fun x=>a.eval x.2).flatMap (fun v=>v.cells.toList):=by simp[List.flatMap_map]
   rw[e];exact jt
  ·have e2:(ps.map fun x=>(x.1,a.eval x.2))=(ps.toList.map fun x=>(x.1,a.eval x.2)).toArray:=by apply Array.ext';simp
   simp only[execOp,ho,Sem.run_bind];have e3:(ps.map fun (i,x)=>(i,a.eval x))=(ps.toList.map fun x=>(x.1,a.eval x.2)).toArray:=e2;rw[e3,bP];rfl
 have nil:∀r,gB P t (keyOf o) len (ps.toList.map fun x=>(x.1,(S.opd x.2).2)) (Mem.get S.mem (keyOf o))=some r→aH P S o r:=by
  intro r wR;unfold gB at wR;split at wR
  ·rename_i key v cont jW hg;split at wR
   ·rename_i e gg;split at wR
    ·rename_i sz zd hs hz;cases wR;refine aH.qx ?_;rintro ⟨rfl,rfl⟩ φ G a w hr;have dF:ps.toList.length=1:=by have:=congrArg List.length jW;simpa using this
     obtain⟨q,hq⟩:∃q,ps.toList=[q]:=by
      match hql:ps.toList,dF with
      |[q],_=>exact⟨q,rfl⟩
     have hpq:=parts hr 0 (0,.lit (.slice none 0 0)) (a.eval q.2) (by rw[jW];rfl) (by rw[hq];rfl);simp only at hpq;have bZ:a.eval q.2=.slice none 0 0:=by
      generalize a.eval q.2=u at hpq;cases hpq;rfl
     have hq0:q.1=0:=by
      rw[hq]at jW;simp only[List.map_cons,List.map_nil,List.cons.injEq,Prod.mk.injEq]at jW;exact jW.1.1
     obtain⟨arr,ha,bP⟩:=uy (P:=P) (w:=w) (len:=1) gg hs hz (by decide) (vs:=[(0,.slice none 0 0)]) rfl (by simp[Value.cells]);have gp:arr=#[.slice none 0 0]:=by apply Array.ext';rw[ha];simp[Value.cells]
     subst gp;obtain⟨hm,hk,L,hL,aA,_⟩:=hr.mem.get hg;simp only at hk aA;subst hk;obtain⟨φ',dx,aN,fe,eA⟩:=hr.mem.fresh (e:=⟨keyOf o,v,cont⟩) hm hL aA w rfl rfl rfl rfl #[.slice none 0 0] e 1 1 (.box [.lit (.slice none 0 0)]) (fun _ hb=>hb) (fun φ' hle b7 iY iZ=>by
      refine⟨⟨rfl,rfl,rfl⟩,#[.slice none 0 0],e,.new iZ,rfl,by simp[cx],fun n c u hc hu=>?_⟩;cases n with
      |zero=>simp at hc hu;subst hc;subst hu;exact .lit _ rfl
      |succ n=>simp at hc)
     refine⟨.slice (some ⟨w.heap.size,0,none⟩) 1 1,_,φ',.inl ?_,.vec _ (v+1) 0 _ _ _ fe (Nat.le_refl _) (fun _=>⟨_,_,rfl,Nat.le_refl _,fun _=>⟨by simp,by simp⟩⟩) rfl,dx,aN,eA⟩;have e3:(ps.map fun (i,x)=>(i,a.eval x))=#[(0,.slice none 0 0)]:=by
      apply Array.ext';simp[hq,hq0,bZ]
     simp only[execOp,ho,Sem.run_bind];rw[e3];have h9:(Instr.buildSlice t 1 #[(0,Value.slice none 0 0)]).run P w=_:=bP;rw[h9];rfl
    ·cases wR
   ·cases wR
  ·cases wR
 unfold buildSliceR;split
 ·rename_i r wR;exact nil r wR
 rename_i wR;clear wR nil;unfold buildSlice0;split
 ·rename_i e gg;split
  ·rename_i sz zd ds hs hz jq;split
   ·rename_i key v cont hg;refine aH.qx ?_;rintro ⟨nx,hb,hi,bV⟩ φ G a w hr;obtain⟨hlen,arr,jt,bP⟩:=main gg hs hz jq nx hb hi bV hr;obtain⟨hm,hk,L,hL,aA,_⟩:=hr.mem.get hg;simp only at hk aA;subst hk;obtain⟨φ',dx,aN,fe,eA⟩:=hr.mem.fresh (e:=⟨keyOf o,v,cont⟩) hm hL aA w rfl rfl rfl rfl arr e sz len (.vec sz ds) (fun _ hb=>hb.2) (fun φ' hle b7 iY iZ=>by
     refine tM (cs:=arr.toList) (rest:=[]) (elem:=e) rfl rfl (jt.mono iY) (by simp) (by simpa using Nat.le_of_eq hlen) (by rw[List.append_nil,jt.1,hlen]) (fun _=>?_);refine eR.new ?_;rw[iZ,List.append_nil,Array.toArray_toList])
    exact⟨_,_,φ',.inl bP,.vec _ (v+1) 0 _ _ _ fe (Nat.le_refl _) (fun _=>⟨_,_,rfl,Nat.le_refl _,fun _=>⟨by simp,by simp⟩⟩) rfl,dx,aN,eA⟩
   ·refine aH.akQ ?_;rintro ⟨nx,hb,hi,bV⟩ φ G a w hr;obtain⟨hlen,arr,jt,bP⟩:=main gg hs hz jq nx hb hi bV hr;have hold:∀b,b<w.heap.size→(w.alloc (.cells arr e)).heap[b]?=w.heap[b]?:=fun b hb=>RowKit.Below.heap_alloc w _ b hb;have iZ:=heap_alloc_new w (.cells arr e);refine⟨_,_,.inl bP,.d _ _ ?_,hold,by simp,rfl,rfl,rfl⟩;have:=Gi (cap:=len) jt iZ (rest:=[]) (by simp) (fun x v h=>Gj hold (by simp) x v h) (fun h=>absurd (Au hr.mem _ h) (Nat.lt_irrefl _)) (Nat.le_of_eq hlen);rw[hlen]at this;exact this
  ·trivial
 ·trivial
def p8(s:List UInt8):List D:=s.map fun b=>.int .u8 b.toNat
def byteOf:D→UInt8
 | .int _ n=>UInt8.ofNat n.toNat
 |_=>0
def D.isByte:D→Bool
 | .int .u8 _=>true
 |_=>false
theorem D.QO{d:D}(h:d.isByte=true):∃n,d=.int .u8 n:=by
 unfold D.isByte at h;split at h<;>simp_all
def convR(P:Program)(m:Mem)(k0:Nat)(src dst:TypeId)(x:AV):dk:=
 match tk P dst,x with
 | .int k,.d (.int _ n)=>.val (tk P src≠.other) (.d (.int k (k.wrap n)))
 | .str,.d (.int _ n)=>.val (tk P src≠.other) (.d (.str (Utf8.encode n).data.toList))
 | .str,.d (.str s)=>.val (tk P src=.str) (.d (.str s))
 | .str,x=>match tk P src with
  | .slice e=>match srcRows m 1 x with
   |some (c,ys)=>.val (c∧tk P e=.int .u8∧fi P e=some 1∧∀d∈ys,d.isByte=true) (.d (.str (ys.map byteOf)))
   |none=>.no
  |_=>.no
 | .slice e,.d (.str s)=>match tk P src,tk P e,Mem.get m k0 with
  | .str,.int .u8,none=>.val True (.d (.list (p8 s)))
  |_,_,_=>.no
 |_,_=>.no
theorem BG{P:Program}{w:World}:∀(cs:List Value)(s0:ByteArray)(ns:List Int),cs=ns.map (Value.int .u8)→
 (forIn cs s0 (fun c s=>(match c with| .int .u8 n=>pure (ForInStep.yield (s.push (UInt8.ofNat n.toNat)))|_=>(do stuck "bytesToString: byte expected";pure (ForInStep.yield s)):Sem (ForInStep ByteArray)))).run P w=.ok ⟨(s0.data.toList++ns.map fun n=>UInt8.ofNat n.toNat).toArray⟩ w
 |[],s0,ns,h=>by
  have:ns=[]:=by simpa using h.symm
  subst this;simp
 |c::cs,s0,ns,h=>by
  cases ns with
  |nil=>simp at h
  |cons n ns=>
   simp at h;obtain⟨rfl,rfl⟩:=h;simp only[List.forIn_cons,Sem.run_bind,Sem.run_pure,Result.andThen_ok];rw[BG (ns.map (Value.int .u8)) (s0.push (UInt8.ofNat n.toNat)) ns rfl];simp
theorem Jl{P:Program}{w:World}{e:TypeId}{b:ByteArray}:∃(arr:Array Value)(fr:Nat×Nat)(w':World)(cap:Nat)(rest:List Value),b.size≤cap∧(Conv.stringToBytes e b).run P w=.ok (.slice (some ⟨w.heap.size,0,none⟩) b.size cap) w'∧
 arr.toList=(b.data.toList.map fun x=>Value.int .u8 x.toNat)++rest∧w'.heap[w.heap.size]?=some (.cells arr e fr)∧(∀k,k<w.heap.size→w'.heap[k]?=w.heap[k]?)∧w.heap.size≤w'.heap.size∧w'.os=w.os∧w'.tape=w.tape∧w'.output=w.output:=by
 obtain⟨cap,di⟩:∃cap,cap=(Question.appendCap b.size 0 e).cut (w.tape w.drawn (.appendCap b.size 0 e)):=⟨_,rfl⟩;obtain⟨arr,gp⟩:∃arr:Array Value,arr=(b.data.map fun x=>Value.int .u8 x.toNat)++Array.replicate (cap-b.size) (.int .u8 0):=⟨_,rfl⟩;obtain⟨w1,oM⟩:∃w1,w1=w.drew.alloc (.cells arr e):=⟨_,rfl⟩;have iZ:w1.heap[w.heap.size]?=some (.cells arr e (0,0)):=by
  have:=heap_alloc_new w.drew (.cells arr e);rw[←oM]at this;exact this
 have bz:w.heap.size<w1.heap.size:=(Array.getElem?_eq_some_iff.1 iZ).1;have rS:w1.shape? w.heap.size=some (e,arr.size):=by simp[World.shape?,iZ]
 refine⟨arr,(arr.size,arr.size+1),w1.freeze ⟨w.heap.size,arr.size,none⟩ 1,cap,List.replicate (cap-b.size) (.int .u8 0),?_,?_,?_,?_,?_,?_,?_,?_,?_⟩
 ·rw[di];simp[Question.cut]
 ·have xF:(choose (.appendCap b.size 0 e)).run P w=.ok cap w.drew:=by
   rw[di];rfl
  have rO:(newRow e arr).run P w.drew=.ok ⟨w.heap.size,0,none⟩ w1:=by rw[oM];rfl
  have Qz:(markStringish ⟨w.heap.size,0,none⟩).run P w1=.ok () (w1.freeze ⟨w.heap.size,arr.size,none⟩ 1):=by
   simp only[markStringish,shape,Sem.run_bind,Sem.run,rS,Result.andThen_ok,freeze]
  simp only[Conv.stringToBytes,Sem.run_bind,xF,Result.andThen_ok,←gp,rO,Qz,Sem.run_pure]
 ·rw[gp];simp
 ·simp[World.freeze,Array.getElem?_modify,iZ]
 ·intro k hk;have h1:(w1.freeze ⟨w.heap.size,arr.size,none⟩ 1).heap[k]?=w1.heap[k]?:=by
   simp only[World.freeze,Nat.one_ne_zero,if_false,Array.getElem?_modify];rw[if_neg (by omega)]
  rw[h1,oM];exact RowKit.Below.heap_alloc w.drew _ k hk
 ·simp[World.freeze];omega
 ·simp[World.freeze,oM];rfl
 ·simp[World.freeze,oM]
 ·simp[World.freeze,oM];rfl
theorem N6(n:Int):byteOf (.int .u8 n)=UInt8.ofNat n.toNat:=rfl
theorem JT(P:Program)(S:St)(o:Oper)(src dst:TypeId)(x:Operand)(ho:o.op=.convert src dst x)(hx:(S.opd x).1=true):aH P S o (convR P S.mem (keyOf o) src dst (S.opd x).2):=by
 have bP:∀(a:Act)(w w':World)(v:Value),(convert src dst (a.eval x)).run P w=.ok v w'→(execOp a.eval o).run P w=.ok (.value v) w':=by
  intro a w w' v h;simp[execOp,ho,h]
 unfold convR;split
 ·rename_i k k' n hd bL;refine aH.pure fun hc φ G a w hr=>?_;have h1:=hr.opd x hx;rw[bL]at h1;obtain⟨td,hu⟩:=Aw hc;refine⟨.int k (k.wrap n),bP a w w _ ?_,.d _ _ (.int _ _)⟩;rw[ju h1];simp[convert,run_underlying hu,run_underlying (uw hd),Conv.intToInt]
 ·rename_i k n hd bL;refine aH.pure fun hc φ G a w hr=>?_;have h1:=hr.opd x hx;rw[bL]at h1;obtain⟨td,hu⟩:=Aw hc;refine⟨.string (Utf8.encode n),bP a w w _ ?_,.d _ _ (.str _ _ rfl)⟩;rw[ju h1];simp[convert,run_underlying hu,run_underlying (mR hd),Conv.intToString]
 ·rename_i s hd bL;refine aH.pure fun hc φ G a w hr=>?_;have h1:=hr.opd x hx;rw[bL]at h1;obtain⟨b,e1,rfl⟩:=rP h1;refine⟨.string b,bP a w w _ ?_,.d _ _ (.str _ _ rfl)⟩;rw[e1];simp[convert,run_underlying (mR hc),run_underlying (mR hd)]
 ·rename_i hd _ _;split
  ·rename_i e JU;split
   ·rename_i c ys mF;refine aH.pure ?_;rintro ⟨hc,nz,jr,dV⟩ φ G a w hr;replace dV:=fun d hd=>D.QO (dV d hd);have bL:=hr.opd x hx;obtain⟨news,kY⟩:=FX (P:=P) hr.mem bL mF hc (fun d hd=>by obtain⟨n,rfl⟩:=dV d hd;rfl);have hlen:=kY.len w;have Gk:=kY.first w (fun _ _=>rfl);obtain⟨r1,r2,r3,r4⟩:=kY.rows
    --zO cells as numbers
    have JV:∃ns:List Int,news=ns.map (Value.int .u8)∧ys=ns.map (D.int .u8):=by
     refine⟨ys.map fun d=>(match d with| .int _ n=>n|_=>0),?_,?_⟩
     ·apply List.ext_getElem?;intro i;by_cases hi:i<ys.length
      ·obtain⟨v,hv,oN⟩:=r4 i ys[i] (by simp[hi]);obtain⟨n,hn⟩:=dV ys[i] (List.getElem_mem hi);rw[hn]at hv;cases hv;have:=oN 0 (.int .u8 n) rfl;simp only[Nat.mul_one,Nat.add_zero]at this;rw[this];simp[hi,hn]
      ·rw[List.getElem?_eq_none (by rw[r1];omega),List.getElem?_eq_none (by simp;omega)]
     ·apply List.ext_getElem?;intro i;by_cases hi:i<ys.length
      ·obtain⟨n,hn⟩:=dV ys[i] (List.getElem_mem hi);simp[hi,hn]
      ·rw[List.getElem?_eq_none (by omega),List.getElem?_eq_none (by simp;omega)]
    obtain⟨ns,rfl,rfl⟩:=JV;generalize bZ:a.eval x=xv at hlen Gk bL;have hv:(∃ao m cap,xv=.slice ao m cap)∨(∃b,xv=.string b):=by
     cases xv<;>first|exact .inl ⟨_,_,_,rfl⟩|exact .inr ⟨_,rfl⟩|(simp[Builtin.lenOf,stuck]at hlen)
    refine⟨.string ⟨(ns.map fun n=>UInt8.ofNat n.toNat).toArray⟩,bP a w w _ ?_,.d _ _ (.str _ _ ?_)⟩
    ·rw[bZ];rcases hv with ⟨ao,m,cap,rfl⟩|⟨b,rfl⟩
     ·simp only[Builtin.lenOf,Sem.run_pure,Result.ok.injEq,and_true]at hlen;subst hlen;cases ao with
      |none=>
       have fm:ns=[]:=by
        simp only[Builtin.firstCells,Sem.run_pure,Result.ok.injEq,and_true]at Gk;have:=congrArg Array.size Gk;simp at this;exact List.eq_nil_of_length_eq_zero this.symm
       subst fm;simp[convert,run_underlying (fJ JU),run_underlying (mR hd),run_underlying (uw nz),Conv.bytesToString];rfl
      |some ad=>
       simp only[Builtin.firstCells,Nat.mul_one]at Gk;have hb:=BG (P:=P) (w:=w) (ns.map (Value.int .u8)) ByteArray.empty ns rfl;simp only[convert,run_underlying (fJ JU),run_underlying (mR hd),run_underlying (uw nz),Sem.run_bind,Result.andThen_ok,Conv.bytesToString,Gk];rw[←Array.forIn_toList];simp only[Sem.run_pure];refine Eq.trans (congrArg (fun r=>Result.andThen r fun a w'=>Result.ok (Value.string a) w') hb) ?_;rfl
     ·exfalso;have JV:∀s,(S.opd x).2=.d (.str s)→False:=by assumption
      generalize (S.opd x).2=y at mF bL JV;unfold srcRows at mF;split at mF
      ·cases bL with|d _ _ h=>cases h
      ·exact JV _ rfl
      ·cases bL
      ·cases bL
      ·split at mF
       ·rename_i key v' cL rows hg;simp only[Option.some.injEq,Prod.mk.injEq]at mF;obtain⟨rfl,_⟩:=mF;obtain⟨_,_,L,hL,aA,_⟩:=hr.mem.get hg;cases bL with
        |vec _ _ _ _ _ L' bU _ h _=>
         rw[hL]at bU;cases bU;obtain⟨_,_,h2,_⟩:=h (by rw[←(of_decide_eq_true hc).1];exact aA.symm);cases h2
       ·cases mF
      ·cases mF
    ·simp[N6,Function.comp_def]
   ·trivial
  ·trivial
 ·rename_i e s hd bL;split
  ·rename_i JU nz hg;intro _ φ G a w hr;have h1:=hr.opd x hx;rw[bL]at h1;obtain⟨b,e1,rfl⟩:=rP h1;have oP:b.size=b.data.toList.length:=by rw[Array.length_toList];rfl
   obtain⟨arr,fr,w',cap,rest,di,xu,gp,hh,hold,bV,pV,BA,fh⟩:=Jl (P:=P) (w:=w) (e:=e) (b:=b);have jt:cn w (Fo G φ S.mem) 1 (p8 b.data.toList) (b.data.toList.map fun x=>Value.int .u8 x.toNat):=by
    refine⟨by simp[p8],?_,?_,?_⟩
    ·intro v hv;simp only[List.mem_map]at hv;obtain⟨y,_,rfl⟩:=hv;rfl
    ·intro d hd;simp only[p8,List.mem_map]at hd;obtain⟨y,_,rfl⟩:=hd;rfl
    ·intro i d hd;simp only[p8,List.getElem?_map,Option.map_eq_some_iff]at hd;obtain⟨y,hy,rfl⟩:=hd;refine⟨.int .u8 y.toNat,.int _ _,fun j c hj=>?_⟩;cases j with
     |zero=>simp only[Value.cells]at hj;simp at hj;subst hj;simp only[List.getElem?_map,Nat.mul_one,Nat.add_zero,hy];rfl
     |succ j=>simp[Value.cells]at hj
   have hl:=Gi (cap:=cap) jt hh gp (fun x v h=>Gj hold bV x v h) (fun h=>absurd (Au hr.mem _ h) (Nat.lt_irrefl _)) (by simp[p8];exact di);refine⟨_,w',.inl (bP a w w' _ ?_),.d _ _ hl,hold,bV,pV,BA,fh⟩;have hlen:(p8 b.data.toList).length=b.size:=by rw[oP];simp[p8]
   rw[e1,hlen];simp only[convert,run_underlying (mR JU),run_underlying (fJ hd),run_underlying (uw nz),Sem.run_bind,Result.andThen_ok];exact xu
  ·trivial
 ·trivial
def okAll(S:St):List Operand→Bool
 |[]=>true
 |x::r=>(S.opd x).1&&okAll S r
theorem sM{S:St}:∀{l:List Operand},okAll S l=true→∀x∈l,(S.opd x).1=true
 |[],_,x,hx=>by simp at hx
 |y::r,h,x,hx=>by
  simp only[okAll,Bool.and_eq_true]at h;rcases List.mem_cons.1 hx with rfl|hx
  ·exact h.1
  ·exact sM h.2 x hx
def opOk(S:St)(o:Oper):Bool:=
 match o.op with
 | .pick _ _ _=>true
 |op=>okAll S op.operands.toList
def moveR(P:Program)(m:Mem)(k0:Nat)(t:TypeId)(x:AV):dk:=
 match x with
 | .lit (.slice none 0 0)=>match Mem.get m k0 with
  |some ⟨_,v,_⟩=>match tk P t with
   | .slice e=>match fi P e with
    |some sz=>.cZ true (.vec k0 (v+1) 0 0) ⟨k0,v+1,.vec sz []⟩
    |none=>.val true x
   |_=>.val true x
  |none=>.val true x
 |x=>.val true x
theorem Gl(P:Program)(S:St)(o:Oper)(x:Operand)(ho:o.op=.move x∨o.op=.assign x)(hx:(S.opd x).1=true):aH P S o (moveR P S.mem (keyOf o) o.type (S.opd x).2):=by
 have plain:aH P S o (.val true (S.opd x).2):=by
  have:=ZC P S o x ho hx;simpa using this
 unfold moveR;split
 ·rename_i bL;split
  ·rename_i key v cont hg;split
   ·split
    ·rename_i sz hs;intro _ φ G a w hr;obtain⟨hm,hk,L,hL,aA,cd⟩:=hr.mem.get hg;simp only at hk aA;subst hk;have hv:=hr.opd x hx;rw[bL]at hv;generalize bZ:a.eval x=u at hv;cases hv;obtain⟨φ',dx,aN,fe,eA⟩:=hr.mem.cZ (e':=⟨keyOf o,v+1,.vec sz []⟩) hm hL rfl (L':=⟨v+1,0,sz,0,0,[]⟩) (by simp only;omega) (fun hh=>by simp only at hh;omega) rfl
      (w':=w) (fun _ _ _=>rfl) (Nat.le_refl _) (fun _ ho=>absurd ho.1 (by simp)) rfl rfl rfl (fun φ' jj ll=>
       ⟨rfl,by simp,by simp,fun hc=>by simp at hc⟩)
     refine⟨.slice none 0 0,w,φ',.inl ?_,?_,dx,aN,eA⟩
     ·rcases ho with ho|ho<;>simp[execOp,ho,bZ]
     ·exact .vec _ (v+1) 0 _ _ _ fe (Nat.le_refl _) (fun _=>⟨_,_,rfl,by simp,fun h=>by omega⟩) rfl
    ·exact plain
   ·exact plain
  ·exact plain
 ·exact plain
def isNilV:Value→Bool
 | .slice none 0 0=>true
 | .pointer none=>true
 | .nilIface=>true
 |_=>false
def binOpR(P:Program)(S:St)(op:BinOp)(t:TypeId)(x y:Operand):dk:=
 match y with
 | .const v=>match isNilV v,op with
  |true,.eql=>nilR P S.mem false t (S.opd x).2 v
  |true,.neq=>nilR P S.mem true t (S.opd x).2 v
  |_,_=>binR P op t (S.opd x).2 (S.opd (.const v)).2
 |y=>binR P op t (S.opd x).2 (S.opd y).2
theorem QP(P:Program)(S:St)(o:Oper)(bop:BinOp)(t t':TypeId)(x y:Operand)(ho:o.op=.binOp bop t x y t')(hx:(S.opd x).1=true)(hy:(S.opd y).1=true):aH P S o (binOpR P S bop t x y):=by
 unfold binOpR;split
 ·split
  ·exact JS P S o false t t' x _ (by simpa using ho) hx
  ·exact JS P S o true t t' x _ (by simpa using ho) hx
  ·exact JR P S o _ t t' x _ ho hx hy
 ·exact JR P S o bop t t' x y ho hx hy
theorem Gm{w:World}{F F':Nat→Prop}{sz:Nat}{ds:List D}{cs:List Value}{b off cap:Nat}(hr:cn w F sz ds cs)(hc:∀(j:Nat) v,cs[j]?=some v→w.cell? ⟨b,off+j,none⟩=some v)
 (hb:b<w.heap.size) (hF:∀b,F' b→F b) (mw:¬F' b) (di:ds.length≤cap):aK w F' (.list ds) (.slice (some ⟨b,off,none⟩) ds.length cap):=by
 obtain⟨h1,h2,h3,h4⟩:=hr;refine .list ds b off cap sz (fun i=>if h:i<ds.length then Classical.choose (h4 i ds[i] (by simp[h]))else undef) di hb mw h3 (fun i d hd=>?_) (fun i j c hi hj=>?_)
 ·have hi:=(List.getElem?_eq_some_iff.1 hd).1;have:=Classical.choose_spec (h4 i ds[i] (by simp[hi]));simp only[hi,dif_pos];have e:ds[i]=d:=(List.getElem?_eq_some_iff.1 hd).2;rw[←e];exact this.1.mono (fun _ _ _=>rfl) (Nat.le_refl _) (fun b _=>hF b)
 ·have:=Classical.choose_spec (h4 i ds[i] (by simp[hi]));simp only[hi,dif_pos]at hj;have h5:=hc _ _ (this.2 j c hj);rw[←Nat.add_assoc]at h5;exact h5
theorem Ay{φ w F F'}{k aj off len sz:Nat}{rows:List D}{L:Loc}{v:Value}(hv:aB φ w F (.vec k aj off len) v)(hL:φ k=some L)(aA:L.aj=aj)(hc:dU φ w F L (.vec sz rows))(hle:off+len≤rows.length)
 (hF:∀b,F' b→F b) (mw:0<L.cap→¬F' L.dz):aK w F' (.list ((rows.drop off).take len)) v:=by
 have hlen:((rows.drop off).take len).length=len:=by simp;omega
 cases hv with
 |vec _ _ _ _ _ L' bU _ h _=>
  rw[hL]at bU;cases bU;obtain⟨ao,cap,rfl,fX,dF⟩:=h aA.symm;clear h;by_cases cf:len=0
  ·subst cf;simp only[List.take_zero];exact .nil _ _ (fun hn=>by
    subst hn;rcases Nat.eq_zero_or_pos cap with h0|h0
    ·exact h0
    ·obtain⟨h1,_⟩:=dF h0;cases h1)
  ·obtain⟨rfl,mP⟩:=dF (by omega);obtain⟨arr,elem,hh,tN,rL,hr⟩:=mO hc (by omega);have iS:=(hr.drop off).take len (by simp;omega);have:=Gm (F':=F') (b:=L.dz) (off:=L.base+off*L.sz) (cap:=cap) iS (fun j u hj=>by
    rw[gz hh,hc.1];rw[List.getElem?_take]at hj;split at hj
    ·rw[List.getElem?_drop,List.getElem?_take]at hj;split at hj
     ·rw[List.getElem?_drop]at hj;rw[Nat.add_assoc];simpa using hj
     ·cases hj
    ·cases hj) hh.lt hF (mw (by omega)) (by omega)
   rw[hlen]at this;exact this
theorem Mem.set_set{e e':cI}(hk:e'.key=e.key):∀m:Mem,Mem.set (Mem.set m e) e'=Mem.set m e'
 |[]=>rfl
 |x::r=>by
  simp only[Mem.set];by_cases h:x.key=e.key
  ·rw[if_pos h,if_pos (by rw[hk];exact h)];simp only[Mem.set];rw[if_pos hk.symm]
  ·rw[if_neg h,if_neg (by rw[hk];exact h)];simp only[Mem.set];rw[if_neg (by rw[hk];exact h),Mem.set_set hk r]
theorem abd{φ:bQ}{G m w}(h:bm φ G m w){k v sz n:Nat}{rows:List D}(hg:Mem.get m k=some ⟨k,v,.vec sz rows⟩){x:Value}(hx:aB φ w (Fo G φ m) (.vec k v 0 n) x)(hn:n≤rows.length):
 ∃φ',bm φ' G (Mem.set m ⟨k,v+1,.dead⟩) w∧aP φ m w φ' (Mem.set m ⟨k,v+1,.dead⟩) w∧(∀j,j≠k→φ' j=φ j)∧aK w (Fo G φ' (Mem.set m ⟨k,v+1,.dead⟩)) (.list (rows.take n)) x:=by
 obtain⟨hm,_,L,hL,aA,cd⟩:=h.get hg;obtain⟨φ',dx,aN,fe,eA⟩:=h.cZ (e:=⟨k,v,.vec sz rows⟩) (e':=⟨k,v+1,.dead⟩) hm hL rfl (L':={L with aj:=v+1}) (by simp only at aA⊢;omega) (fun hh=>by simp only at aA hh;omega) rfl
  (w':=w) (fun _ _ _=>rfl) (Nat.le_refl _) (fun _ ho=>ho.elim) rfl rfl rfl (fun _ _ _=>trivial)
 refine⟨φ',dx,aN,eA,?_⟩;have fB:∀b,iy φ' (Mem.set m ⟨k,v+1,.dead⟩) b→iy φ m b∧∀(_:0<L.cap),b≠L.dz:=by
  rintro b ⟨y,hy,Ly,dE,gM⟩;rcases (Mem.mem_set h.nodup).1 hy with ⟨rfl,_⟩|⟨zK,bK⟩
  ·exact gM.elim
  ·simp only at bK;rw[eA _ bK]at dE;refine⟨⟨y,zK,Ly,dE,gM⟩,fun hc heq=>bK (h.apart y zK _ hm Ly L dE hL ⟨b,gM,hc,heq.symm⟩)⟩
 have:=Ay hx hL aA cd (by omega) (F':=Fo G φ' (Mem.set m ⟨k,v+1,.dead⟩)) (fun b=>Or.imp id (fun hb=>(fB b hb).1)) (fun hc=>by
  rintro (hG|ho)
  ·exact h.j9 _ ⟨_,hm,L,hL,hc,rfl⟩ hG
  ·exact (fB _ ho).2 hc rfl)
 simpa using this
def fzRes(m:Mem)(b:Bool)(k0:Nat):dk→dk
 | .cZ c (.vec k v 0 n) ⟨k',v',.vec sz rows⟩=>if b=true∧k≠k0∧k'=k∧v'=v∧n≤rows.length∧(Mem.get m k).isSome=true then .cZ c (.d (.list (rows.take n))) ⟨k,v+1,.dead⟩else .cZ c (.vec k v 0 n) ⟨k',v',.vec sz rows⟩
 |r=>r
theorem Ul{P:Program}{S:St}{o:Oper}{b:Bool}{k0:Nat}{r:dk}(h:aH P S o r):aH P S o (fzRes S.mem b k0 r):=by
 unfold fzRes;split
 ·rename_i c k v n k' v' sz rows;split
  ·rename_i hh;obtain⟨_,_,rfl,rfl,hn,hs⟩:=hh;intro hc φ G a w hr;obtain⟨x,w',φ',h1,h2,h3,h4,h5⟩:=h hc φ G a w hr;have cD:k'∈S.mem.map (·.key):=by
    cases hg:Mem.get S.mem k' with
    |none=>rw[hg]at hs;cases hs
    |some e=>
     obtain⟨h6,h7⟩:=Mem.get_mem hg;rw[←h7];exact List.mem_map_of_mem h6
   obtain⟨φ2,q1,q2,q3,q4⟩:=abd h3 (Mem.nQ (x:=⟨k',v',.vec sz rows⟩) cD) h2 hn;rw[Mem.set_set (e:=⟨k',v',.vec sz rows⟩) (e':=⟨k',v'+1,.dead⟩) rfl]at q1 q2 q4;exact⟨x,w',φ2,h1,.d _ _ q4,q1,h4.trans q2,fun j hj=>by rw[q3 j hj];exact h5 j hj⟩
  ·exact h
 ·exact h
def capR(P:Program)(t:TypeId):AV→dk
 | .lit (.slice none 0 0)=>match tk P t with
  | .slice _=>.val True (.d (.int .i64 0))
  |_=>.no
 |_=>.no
theorem abe(P:Program)(S:St)(o:Oper)(x:Operand)(t:TypeId)(ho:o.op=.call {callee:=.builtin .cap,args:=#[x],argTypes:=#[t]})(hx:(S.opd x).1=true):aH P S o (capR P t (S.opd x).2):=by
 have bP:∀(a:Act)(w:World)(v:Value),(Builtin.cap_ #[t] o.type #[a.eval x]).run P w=.ok v w→(execOp a.eval o).run P w=.ok (.value v) w:=by
  intro a w v h;simp[execOp,ho,resolve,invoke,builtin,h]
 unfold capR;split
 ·rename_i bL;split
  ·rename_i e gg;refine aH.pure fun _ φ G a w hr=>?_;have h1:=hr.opd x hx;rw[bL]at h1;generalize b7:a.eval x=av at h1;cases h1 with|lit _ h=>
   refine⟨_,bP a w (.int .i64 0) ?_,.d _ _ (.int _ _)⟩;rw[b7];simp[Builtin.cap_,run_underlying (fJ gg),goInt]
  ·trivial
 ·trivial
def builtinR(P:Program)(S:St)(o:Oper)(b:Builtin)(args:List Operand)(ts:List TypeId):dk:=
 match b,args,ts with
 | .len,[x],[t]=>lenRm P S.mem t (S.opd x).2
 | .append,[s,x],[t,u]=>fzRes S.mem (Mem.get S.mem (keyOf o)).isSome (keyOf o) (appR P S.mem (keyOf o) t u (S.opd s).2 (S.opd x).2)
 | .copy,[s,x],[t,_]=>copyR P S.mem t (S.opd s).2 (S.opd x).2
 | .max,args,_=>maxR true (args.map fun x=>(S.opd x).2)
 | .min,args,_=>maxR false (args.map fun x=>(S.opd x).2)
 | .cap,[x],[t]=>capR P t (S.opd x).2
 |_,_,_=>.no
def zeroOf:TK→Option D
 | .int k=>some (.int k 0)
 | .bool=>some (.bool false)
 |_=>none
theorem Jm{t:TK}{z:D}(h:zeroOf t=some z):z.size=1∧∀(w:World)(F:Nat→Prop),∃v,aK w F z v∧v.cells=#[v]∧∀u,aK w F z u→u=v:=by
 cases t with
 |int k=>cases h;exact⟨rfl,fun w F=>⟨_,.int k 0,rfl,fun u hu=>by cases hu;rfl⟩⟩
 |bool=>cases h;exact⟨rfl,fun w F=>⟨_,.bool false,rfl,fun u hu=>by cases hu;rfl⟩⟩
 |_=>cases h
def isZ:D→AV→Bool
 | .int k n,.d (.int k' n')=>k == k'&&n == n'
 | .bool b,.d (.bool b')=>b == b'
 |_,_=>false
theorem abf{z:D}{c:AV}(h:isZ z c=true):c=.d z:=by
 unfold isZ at h;split at h<;>simp_all
def arrR(m:Mem)(k n:Nat)(z:D)(zs:List AV):dk:=
 match Mem.get m k with
 |some ⟨_,v,_⟩=>.cZ (zs.length=n∧zs.all (isZ z)=true) (.cF k (v+1) 0 0) ⟨k,v+1,.vec 1 (List.replicate n z)⟩
 |none=>.no
def allocR(P:Program)(m:Mem)(k:Nat)(t:TypeId):dk:=
 match sI P t with
 |some zs=>match tk P t with
  | .arr n e=>match zeroOf (tk P e)with
   |some z=>arrR m k n z zs
   |none=>boxR m k true zs
  |_=>boxR m k true zs
 |none=>.no
theorem abg(P:Program)(S:St)(o:Oper)(t:TypeId)(ho:o.op=.alloc t)(n:Nat)(zd:D)(tz:TK)(Wy:zeroOf tz=some zd)(zs:List AV)(hz:sI P t=some zs):aH P S o (arrR S.mem (keyOf o) n zd zs):=by
 obtain⟨NV,xr⟩:=Jm Wy;unfold arrR;split
 ·rename_i key v cont hg;refine aH.qx ?_;rintro ⟨hn,dV⟩ φ G a w hr;obtain⟨z,bP,bV,h1,ep⟩:=nw hz w;obtain⟨hm,hk,L,hL,aA,cd⟩:=hr.mem.get hg;simp only at hk aA;subst hk;have hzv:∀(w:World)(F:Nat→Prop)(i:Nat) u,z.cells[i]?=some u→aK w F zd u:=by
   intro w' F i u hu;have hi:i<zs.length:=by
    have:=(Array.getElem?_eq_some_iff.1 hu).1;omega
   have h3:=ep φ w (fun _=>False) i zs[i] u (by simp[hi]) hu;rw[abf (List.all_eq_true.1 dV _ (List.getElem_mem hi))]at h3;cases h3 with
   |d _ _ h4=>
    obtain⟨v1,q1,_,q2⟩:=xr w (fun _=>False);obtain⟨v2,q3,_,q4⟩:=xr w' F;cases tz with
    |int k=>cases Wy;cases h4;exact .int k 0
    |bool=>cases Wy;cases h4;exact .bool false
    |_=>cases Wy
  obtain⟨φ',dx,aN,fe,eA⟩:=hr.mem.fresh (e:=⟨keyOf o,v,cont⟩) hm hL aA w rfl rfl rfl rfl z.cells t 1 n (.vec 1 (List.replicate n zd)) (fun _ hb=>hb.2) (fun φ' hle b7 iY iZ=>by
   refine⟨rfl,by simp,fun d hd=>by rw[(List.mem_replicate.1 hd).2];exact NV,fun _=>⟨z.cells,t,eR.new iZ,by simp[bV,hn],h1,fun i d hd=>?_⟩⟩;obtain⟨hi,rfl⟩:=List.getElem?_eq_some_iff.1 hd;simp at hi;have sL:i<z.cells.size:=by omega
   have h5:=fun w F=>hzv w F i z.cells[i] (by simp[sL]);have h6:=(h5 w (fun _=>False)).size;rw[NV]at h6;refine⟨z.cells[i],by simp;exact h5 _ _,fun j c hj=>?_⟩;have QQ:j=0:=by
    have:=(Array.getElem?_eq_some_iff.1 hj).1;omega
   subst QQ;rw[dS (h1 _ (by simp))]at hj;simp at hj;subst hj;simp[sL])
  refine⟨.pointer (some ⟨w.heap.size,0,none⟩),_,φ',.inl ?_,?_,dx,aN,eA⟩
  ·simp[execOp,ho,Instr.alloc,newVar,ij,bP]
  ·exact .cF _ (v+1) 0 0 _ _ fe (Nat.le_refl _) (fun _=>by simp) rfl
 ·trivial
theorem QR(P:Program)(S:St)(o:Oper)(t:TypeId)(ho:o.op=.alloc t):aH P S o (allocR P S.mem (keyOf o) t):=by
 unfold allocR;split
 ·rename_i zs hz;split
  ·split
   ·rename_i xr;exact abg P S o t ho _ _ _ xr zs hz
   ·exact FV P S o t ho zs hz
  ·exact FV P S o t ho zs hz
 ·trivial
def convM(P:Program)(m:Mem)(k0:Nat)(src dst:TypeId)(x:AV):dk:=
 match x with
 | .vec k aj off len=>match tk P dst with
  | .slice e=>match decide (src=dst),tk P e,Mem.get m k with
   |true,.int .u8,some ⟨_,v,.vec sz rows⟩=>.cZ (decide (v=aj∧0<len)) (.vec k aj off len) ⟨k,aj,.vec sz rows⟩
   |_,_,_=>.no
  |_=>convR P m k0 src dst (.vec k aj off len)
 |x=>convR P m k0 src dst x
theorem Um(P:Program)(S:St)(o:Oper)(src dst:TypeId)(x:Operand)(ho:o.op=.convert src dst x)(hx:(S.opd x).1=true):aH P S o (convM P S.mem (keyOf o) src dst (S.opd x).2):=by
 unfold convM;split
 ·rename_i k aj off len bL;split
  ·rename_i e hd;split
   ·rename_i key v sz rows hsd nz hg;refine aH.qx ?_;rintro ⟨rfl,hlen⟩ φ G a w hr;have hsd:src=dst:=of_decide_eq_true hsd;subst hsd;obtain⟨hm,hk,L,hL,aA,cd⟩:=hr.mem.get hg;simp only at hk aA;subst hk;have hv:=hr.opd x hx;rw[bL]at hv;have D3:=hv;generalize bZ:a.eval x=xv at hv D3;cases hv with
    |vec _ _ _ _ _ L' bU _ h QS=>
     rw[hL]at bU;cases bU;obtain⟨ao,cap,rfl,fX,dF⟩:=h aA.symm;obtain⟨rfl,di⟩:=dF (by omega);have gR:0<L.cap:=by omega
     obtain⟨zP,aO,lI,iX⟩:=cd;obtain⟨arr,elem,⟨fr,hh,D4⟩,tN,rL,ep⟩:=iX gR;obtain⟨w',qI⟩:∃w',w'=w.freeze ⟨L.dz,arr.size,none⟩ 1:=⟨_,rfl⟩;have iZ:eR w' L.dz arr elem:=by
      obtain⟨lo,hi⟩:=fr;rw[qI];by_cases he:lo=hi
      ·refine⟨(arr.size,arr.size+1),?_,.inr (Nat.le_refl _)⟩;simp[World.freeze,Array.getElem?_modify,hh,he]
      ·refine⟨(min lo arr.size,max hi (arr.size+1)),?_,?_⟩
       ·simp[World.freeze,Array.getElem?_modify,hh,he]
       ·right;rcases D4 with h|h
        ·cases h;exact absurd rfl he
        ·simp only at h⊢;omega
     have hold:∀b,b≠L.dz→w'.heap[b]?=w.heap[b]?:=by
      intro b hb;rw[qI];simp only[World.freeze,Nat.one_ne_zero,if_false,Array.getElem?_modify];rw[if_neg (fun e=>hb e.symm)]
     have NT:w'.heap.size=w.heap.size:=by rw[qI];simp[World.freeze]
     have pV:w'.os=w.os:=by rw[qI];simp[World.freeze]
     have BA:w'.tape=w.tape:=by rw[qI];simp[World.freeze]
     have hou:w'.output=w.output:=by rw[qI];simp[World.freeze]
     have cD:Fo G φ S.mem L.dz:=.inr ⟨_,hm,L,hL,gR,rfl⟩;obtain⟨φ',dx,aN,fe,eA⟩:=hr.mem.cZ (e:=⟨key,v,.vec sz rows⟩) (e':=⟨key,v,.vec sz rows⟩) hm hL rfl (L':=L) (Nat.le_refl _) (fun _=>rfl) aA
      (w':=w') (fun b _ hn=>hold b (fun he=>hn ⟨gR,he.symm⟩)) (by omega) (fun _ ho=>.inl ho) pV BA hou (fun φ' jj ll=>by
       have hF:∀b,Fo G φ' (Mem.set S.mem ⟨key,v,.vec sz rows⟩) b→Fo G φ S.mem b:=by
        rintro b (hG|⟨y,hy,Ly,dE,gM⟩)
        ·exact .inl hG
        ·right;rcases (Mem.mem_set hr.mem.nodup).1 hy with ⟨rfl,_⟩|⟨zK,bK⟩
         ·rw[jj]at dE;simp at dE;subst dE;exact⟨_,hm,L,hL,gM⟩
         ·simp only at bK;rw[jj]at dE;simp[bK]at dE;exact⟨y,zK,Ly,dE,gM⟩
       exact⟨zP,aO,lI,fun _=>⟨arr,elem,iZ,tN,rL,fun i d hd=>let ⟨u,hu,hj⟩:=ep i d hd
        ⟨u,hu.mono (fun b _ hn=>hold b (fun he=>hn (he▸cD))) (by omega) (fun b _=>hF b),hj⟩⟩⟩)
     refine⟨.slice (some ⟨L.dz,L.base+off*L.sz,none⟩) len cap,w',φ',.inl ?_,.vec key v off len _ L fe (Nat.le_of_eq aA.symm) (fun _=>⟨_,_,rfl,fX,dF⟩) QS,dx,aN,eA⟩;have rS:w.shape? L.dz=some (elem,arr.size):=by simp[World.shape?,hh]
     have Qz:(markStringish ⟨L.dz,L.base+off*L.sz,none⟩).run P w=.ok () w':=by
      simp only[markStringish,shape,Sem.run_bind,Sem.run,rS,Result.andThen_ok,freeze,qI]
     simp[execOp,ho,bZ,convert,run_underlying (fJ hd),run_underlying (uw nz),Sem.run_bind,Qz]
   ·trivial
  ·rw[←bL];exact JT P S o src dst x ho hx
 ·exact JT P S o src dst x ho hx
def Gn(P:Program)(s:TypeId)(f:Nat):Option TypeId:=
 match P.underlying s with
 |some (.struct fs)=>match fs[f]? with
  |some fl=>some fl.type
  |none=>none
 |_=>none
def fieldVR(P:Program)(s:TypeId)(x:AV)(f:Nat):dk:=
 match x with
 | .d (.agg cs)=>match vp P s f,Gn P s f with
  |some off,some e=>match (tk P e).agg,fi P e with
   |false,some 1=>.val (off<cs.length∧tk P e≠.other) (.d (D.at cs off))
   |true,some sz=>.val (off+sz≤cs.length) (.d (.agg ((cs.drop off).take sz)))
   |_,_=>.no
  |_,_=>.no
 | .agg cs=>match vp P s f,Gn P s f with
  |some off,some e=>match (tk P e).agg,fi P e,cs[off]? with
   |false,some 1,some c=>.val (tk P e≠.other) c
   |_,_,_=>.no
  |_,_=>.no
 |_=>.no
theorem D5{P:Program}{s:TypeId}{f off:Nat}{e:TypeId}(h:vp P s f=some off)(he:Gn P s f=some e):∃fs fl,P.underlying s=some (.struct fs)∧fs[f]?=some fl∧fl.offset=off∧fl.type=e:=by
 unfold vp at h;unfold Gn at he;split at h
 ·rename_i fs p6;rw[p6]at he;simp only at he;split at h
  ·rename_i fl iJ;rw[iJ]at he;cases he;split at h
   ·split at h
    ·cases h
    ·cases h;exact⟨fs,fl,p6,iJ,rfl,rfl⟩
   ·cases h
  ·cases h
 ·cases h
theorem QT(P:Program)(S:St)(o:Oper)(s:TypeId)(x:Operand)(f:Nat)(ho:o.op=.field s x f)(hx:(S.opd x).1=true):aH P S o (fieldVR P s (S.opd x).2 f):=by
 unfold fieldVR;split
 ·rename_i cs bL;split
  ·rename_i off e F9 mz;obtain⟨fs,fl,p6,iJ,rfl,rfl⟩:=D5 F9 mz;split
   ·rename_i p7 hs;refine aH.pure ?_;rintro ⟨hl,bK⟩ φ G a w hr;have h1:=hr.opd x hx;rw[bL]at h1;generalize b7:a.eval x=av at h1;cases h1 with|d _ _ h1=>
    cases h1 with|agg _ xa DW wL oI=>
    have xz:fl.offset<xa.size:=by omega
    refine⟨xa[fl.offset],?_,.d _ _ (oI fl.offset _ _ (jm (by omega)) (by simp[xz]))⟩;have hp:=rR (P:=P) (w:=w) (t:=fl.type) (cs:=xa) (off:=fl.offset) p7 bK (v:=xa[fl.offset]) (by simp[xz]);simp[execOp,ho,b7,Instr.field,run_underlying p6,iJ,asAgg,hp]
   ·rename_i sz p7 hs;refine aH.pure ?_;rintro hle φ G a w hr;have h1:=hr.opd x hx;rw[bL]at h1;generalize b7:a.eval x=av at h1;cases h1 with|d _ _ h1=>
    have qJ:=h1;cases h1 with|agg _ xa DW wL oI=>
    refine⟨_,?_,.d _ _ (wO qJ fl.offset sz hle)⟩;have hp:=DY (P:=P) (w:=w) (t:=fl.type) (cs:=xa) (off:=fl.offset) p7 hs;simp[execOp,ho,b7,Instr.field,run_underlying p6,iJ,asAgg,hp]
   ·trivial
  ·trivial
 ·rename_i cs bL;split
  ·rename_i off e F9 mz;obtain⟨fs,fl,p6,iJ,rfl,rfl⟩:=D5 F9 mz;split
   ·rename_i c p7 hs hc;refine aH.pure ?_;rintro bK φ G a w hr;have h1:=hr.opd x hx;rw[bL]at h1;generalize b7:a.eval x=av at h1;cases h1 with|agg _ xa DW h1x oI=>
    have xz:fl.offset<xa.size:=by have:=(List.getElem?_eq_some_iff.1 hc).1;omega
    refine⟨xa[fl.offset],?_,oI fl.offset c _ hc (by simp[xz])⟩;have hp:=rR (P:=P) (w:=w) (t:=fl.type) (cs:=xa) (off:=fl.offset) p7 bK (v:=xa[fl.offset]) (by simp[xz]);simp[execOp,ho,b7,Instr.field,run_underlying p6,iJ,asAgg,hp]
   ·trivial
  ·trivial
 ·trivial
def assertR(P:Program)(x:AV)(asserted:TypeId)(ok:Bool):dk:=
 match x with
 | .gL t d=>match decide (t=asserted),ok with
  |true,true=>.val (tk P asserted≠.other∧tk P asserted≠.iface) (.aW [.d d,.d (.bool true)])
  |true,false=>.val (tk P asserted≠.other∧tk P asserted≠.iface) (.d d)
  |_,_=>.no
 |_=>.no
theorem abi{P:Program}{t:TypeId}(h:tk P t≠.other)(h2:tk P t≠.iface):∃d,P.underlying t=some d∧∀ms,d≠.interface ms:=by
 unfold tk at h h2;cases hu:P.underlying t with
 |none=>rw[hu]at h;exact absurd rfl h
 |some d=>
  refine⟨d,rfl,fun ms hd=>?_⟩;subst hd;rw[hu]at h2;exact h2 rfl
theorem BH{P:Program}{w:World}{t af1 asserted:TypeId}{v:Value}{ok:Bool}(h:tk P asserted≠.other)(h2:tk P asserted≠.iface)(ht:t=asserted):
 (Instr.typeAssert (.iface t v) af1 asserted ok).run P w=.ok (if ok then .tuple #[v,.bool true]else v) w:=by
 obtain⟨d,hd,hn⟩:=abi h h2;subst ht;simp only[Instr.typeAssert,Sem.run_bind,run_underlying hd,Result.andThen_ok];cases d with
 |interface ms=>exact absurd rfl (hn ms)
 |_=>simp
theorem QU(P:Program)(S:St)(o:Oper)(x:Operand)(xt asserted:TypeId)(ok:Bool)(ho:o.op=.typeAssert x xt asserted ok)(hx:(S.opd x).1=true):aH P S o (assertR P (S.opd x).2 asserted ok):=by
 unfold assertR;split
 ·rename_i t d bL;split
  ·rename_i ht;have ht:t=asserted:=by simpa using ht
   refine aH.pure ?_;rintro ⟨h1,h2⟩ φ G a w hr;have rT:=hr.opd x hx;rw[bL]at rT;generalize b7:a.eval x=av at rT;cases rT with|gL _ _ v hd=>
   refine⟨.tuple #[v,.bool true],by simp[execOp,ho,b7,BH h1 h2 ht],.aW _ _ rfl fun i c u hc hu=>?_⟩;match i,hc,hu with
   |0,hc,hu=>simp at hc hu;subst hc hu;exact .d _ _ hd
   |1,hc,hu=>simp at hc hu;subst hc hu;exact .d _ _ (.bool _)
   |i+2,hc,hu=>simp at hc
  ·rename_i ht;have ht:t=asserted:=by simpa using ht
   refine aH.pure ?_;rintro ⟨h1,h2⟩ φ G a w hr;have rT:=hr.opd x hx;rw[bL]at rT;generalize b7:a.eval x=av at rT;cases rT with|gL _ _ v hd=>
   exact⟨v,by simp[execOp,ho,b7,BH h1 h2 ht],.d _ _ hd⟩
  ·trivial
 ·trivial
def stepv(P:Program)(S:St)(o:Oper):dk:=
 match o.op with
 | .move x=>moveR P S.mem (keyOf o) o.type (S.opd x).2
 | .assign x=>moveR P S.mem (keyOf o) o.type (S.opd x).2
 | .pick c a b=>pickR (S.opd c) (S.opd a) (S.opd b)
 | .alloc t=>allocR P S.mem (keyOf o) t
 | .box _ x=>boxR S.mem (keyOf o) (S.opd x).2.solid (S.opd x).2.cells
 | .load t x=>loadR P S.mem t (S.opd x).2
 | .store t p x=>storeR P S.mem t (S.opd p).2 (S.opd x).2
 | .fieldAddr s x f=>fieldRm P S.mem s f (S.opd x).2
 | .nilCheck x=>nilCheckR S.mem (S.opd x).2
 | .indexAddr t x i=>indexR P S.mem t (S.opd x).2 (S.opd i).2
 | .index t x i=>indexVR P t (S.opd x).2 (S.opd i).2
 | .slice t x lo hi none=>sliceR P S.mem t (S.opd x).2 (lo.map fun y=>(S.opd y).2) (hi.map fun y=>(S.opd y).2)
 | .binOp op t x y _=>binOpR P S op t x y
 | .unOp op _ x=>unR op (S.opd x).2
 | .convert s d x=>convM P S.mem (keyOf o) s d (S.opd x).2
 | .makeInterface t x=>makeIfaceR P t (S.opd x).2
 | .makeFunc f first cap=>makeFuncR f (first.toList.map fun x=>(S.opd x).2) (cap.toList.map fun x=>(S.opd x).2)
 | .makeSlice t l c=>makeR P S.mem (keyOf o) t (S.opd l).2 (S.opd c).2
 | .build t ps=>buildR P t (ps.toList.map fun x=>(x.1,(S.opd x.2).2))
 | .buildSlice t len ps=>buildSliceR P S.mem (keyOf o) t len (ps.toList.map fun x=>(x.1,(S.opd x.2).2))
 | .extract x i=>extractR i (S.opd x).2
 | .field s x f=>fieldVR P s (S.opd x).2 f
 | .typeAssert x _ t ok=>assertR P (S.opd x).2 t ok
 | .call {callee:=.builtin b,args,argTypes}=>builtinR P S o b args.toList argTypes.toList
 |_=>.no
theorem Gp(P:Program)(S:St)(o:Oper)(h:opOk S o=true):aH P S o (stepv P S o):=by
 unfold opOk at h;unfold stepv;have one:∀{l:List Operand},okAll S l=true→∀x∈l,(S.opd x).1=true:=sM;split
 ·rename_i x ho;simp only[ho]at h;exact Gl P S o x (.inl ho) (one h x (by simp[Op.operands]))
 ·rename_i x ho;simp only[ho]at h;exact Gl P S o x (.inr ho) (one h x (by simp[Op.operands]))
 ·rename_i c a b ho;exact ZB P S o c a b ho
 ·rename_i t ho;exact QR P S o t ho
 ·rename_i t x ho;simp only[ho]at h;exact aaR P S o t x ho (one h x (by simp[Op.operands]))
 ·rename_i t x ho;simp only[ho]at h;exact (JK P S o t x ho (one h x (by simp[Op.operands]))).res
 ·rename_i t p x ho;simp only[ho]at h;exact T9 P S o t p x ho (one h p (by simp[Op.operands])) (one h x (by simp[Op.operands]))
 ·rename_i s x f ho;simp only[ho]at h;exact Uf P S o s x f ho (one h x (by simp[Op.operands]))
 ·rename_i x ho;simp only[ho]at h;exact Ji P S o x ho (one h x (by simp[Op.operands]))
 ·rename_i t x i ho;simp only[ho]at h;exact Ug P S o t x i ho (one h x (by simp[Op.operands])) (one h i (by simp[Op.operands]))
 ·rename_i t x i ho;simp only[ho]at h;exact QL P S o t x i ho (one h x (by simp[Op.operands])) (one h i (by simp[Op.operands]))
 ·rename_i t x lo hi ho;simp only[ho]at h;exact Uj P S o t x lo hi ho (one h x (by simp[Op.operands])) (fun y hy=>one h y (by simp[Op.operands,hy])) (fun y hy=>one h y (by simp[Op.operands,hy]))
 ·rename_i op t x y t' ho;simp only[ho]at h;exact QP P S o op t t' x y ho (one h x (by simp[Op.operands])) (one h y (by simp[Op.operands]))
 ·rename_i op t x ho;simp only[ho]at h;exact af0 P S o op t x ho (one h x (by simp[Op.operands]))
 ·rename_i s d x ho;simp only[ho]at h;exact Um P S o s d x ho (one h x (by simp[Op.operands]))
 ·rename_i t x ho;simp only[ho]at h;exact Ge P S o t x ho (one h x (by simp[Op.operands]))
 ·rename_i f first cap ho;simp only[ho]at h;exact Jj P S o f first cap ho (fun x hx=>one h x (by simp[Op.operands];left;simpa using hx)) (fun x hx=>one h x (by simp[Op.operands];right;simpa using hx))
 ·rename_i t l c ho;simp only[ho]at h;exact Zx P S o t l c ho (one h l (by simp[Op.operands])) (one h c (by simp[Op.operands]))
 ·rename_i t ps ho;simp only[ho]at h;exact Uk P S o t ps ho (fun x hx=>one h x.2 (by simp only[Op.operands,List.toList_toArray,List.mem_map];exact⟨x,hx,rfl⟩))
 ·rename_i t len ps ho;simp only[ho]at h;exact Fh P S o t len ps ho (fun x hx=>one h x.2 (by simp only[Op.operands,List.toList_toArray,List.mem_map];exact⟨x,hx,rfl⟩))
 ·rename_i x i ho;simp only[ho]at h;exact N5 P S o x i ho (one h x (by simp[Op.operands]))
 ·rename_i s x f ho;simp only[ho]at h;exact QT P S o s x f ho (one h x (by simp[Op.operands]))
 ·rename_i x xt t ok ho;simp only[ho]at h;exact QU P S o x xt t ok ho (one h x (by simp[Op.operands]))
 ·rename_i b args ts ho;simp only[ho]at h;have ha:∀x∈args.toList,(S.opd x).1=true:=fun x hx=>one h x (by simp[Op.operands,Call.operands];simpa using hx);have sN:∀{l:List Operand},args.toList=l→args=l.toArray:=fun h=>by rw[←h]
  have jr:∀{l:List TypeId},ts.toList=l→ts=l.toArray:=fun h=>by rw[←h]
  unfold builtinR;split
  ·rename_i x t h1 h2;rw[sN h1,jr h2]at ho;exact aa8 P S o x t ho (ha x (by simp[h1]))
  ·rename_i s x t u h1 h2;rw[sN h1,jr h2]at ho;exact Ul <| aa3 P S o s x t u ho (ha s (by simp[h1])) (ha x (by simp[h1]))
  ·rename_i s x t u h1 h2;rw[sN h1,jr h2]at ho;exact Zy P S o s x t u ho (ha s (by simp[h1])) (ha x (by simp[h1]))
  ·exact QN P S o true args ts (by simpa using ho) ha
  ·exact QN P S o false args ts (by simpa using ho) ha
  ·rename_i x t h1 h2;rw[sN h1,jr h2]at ho;exact abe P S o x t ho (ha x (by simp[h1]))
  ·trivial
 ·trivial
inductive XE where
 |normal
 |exit (id:Nat)
 |ret
 |panic (t:TypeId) (x:D)
def mG(n:Nat)(φ:bQ)(G:Fr)(m:Mem)(w:World)(Q:XE→St→Prop):Exit→Act→World→Prop
 | .normal,a',w'=>∃φ' S',S'.n=n∧Q .normal S'∧Rel φ' G S' a' w'∧aP φ m w φ' S'.mem w'
 | .exit id,a',w'=>∃φ' S',S'.n=n∧Q (.exit id) S'∧Rel φ' G S' a' w'∧aP φ m w φ' S'.mem w'
 | .ret,a',w'=>∃φ' S',S'.n=n∧Q .ret S'∧Rel φ' G S' a' w'∧aP φ m w φ' S'.mem w'
 | .panic chain,a',w'=>∃φ' S' t x v,chain=[{v:=.iface t v,recovered:=false}]∧aK w' (Fo G φ' S'.mem) x v∧S'.n=n∧Q (.panic t x) S'∧Rel φ' G S' a' w'∧aP φ m w φ' S'.mem w'
 |_,_,_=>False
theorem mG.weaken{n φ G m w Q φ1 m1 w1 e a' w'}(hk:aP φ m w φ1 m1 w1)(h:mG n φ1 G m1 w1 Q e a' w'):mG n φ G m w Q e a' w':=by
 cases e with
 |normal=>obtain⟨φ',S',h0,h1,h2,h3⟩:=h;exact⟨φ',S',h0,h1,h2,hk.trans h3⟩
 |exit id=>obtain⟨φ',S',h0,h1,h2,h3⟩:=h;exact⟨φ',S',h0,h1,h2,hk.trans h3⟩
 |ret=>obtain⟨φ',S',h0,h1,h2,h3⟩:=h;exact⟨φ',S',h0,h1,h2,hk.trans h3⟩
 |panic chain=>obtain⟨φ',S',t,x,v,hc,hd,h0,h1,h2,h3⟩:=h;exact⟨φ',S',t,x,v,hc,hd,h0,h1,h2,hk.trans h3⟩
 |_=>exact h.elim
theorem mG.mono{n φ G m w Q Q' e a' w'}(hq:∀e S,Q e S→Q' e S)(h:mG n φ G m w Q e a' w'):mG n φ G m w Q' e a' w':=by
 cases e with
 |normal=>obtain⟨φ',S',h0,h1,h2⟩:=h;exact⟨φ',S',h0,hq _ _ h1,h2⟩
 |exit id=>obtain⟨φ',S',h0,h1,h2⟩:=h;exact⟨φ',S',h0,hq _ _ h1,h2⟩
 |ret=>obtain⟨φ',S',h0,h1,h2⟩:=h;exact⟨φ',S',h0,hq _ _ h1,h2⟩
 |panic chain=>obtain⟨φ',S',t,x,v,hc,hd,h0,h1,h2⟩:=h;exact⟨φ',S',t,x,v,hc,hd,h0,hq _ _ h1,h2⟩
 |_=>exact h.elim
def nD(P:Program)(c:Code)(S:St)(Q:XE→St→Prop):Prop:=
 ∀φ G a w,Rel φ G S a w→c.wp P (mG S.n φ G S.mem w Q) a w
def grd(all:List Oper)(S:St)(j:Nat):Option (Bool×AV):=
 match all[j]? with
 |some o=>match o.dst with
  |some t=>Env.lk S.env t
  |none=>none
 |none=>none
def jv(n:Nat)(ops:List Oper):Bool:=ops.all fun o=>match o.dst with|some t=>decide (t<n)|none=>true
theorem lD(S:St)(d g x):(S.put d g x).n=S.n:=by cases d<;>rfl
theorem ff(S:St)(d g x):(S.put d g x).mem=S.mem:=by cases d<;>rfl
theorem Bz.step{P:Program}{o:Oper}{a:Act}{w w':World}{v:Value}{next R}(h:Bz P o a w v w')(hn:next (a.put o.dst v) w'):o.wp P a w next R:=by
 unfold Oper.wp;rcases h with h|⟨h,rfl⟩<;>rw[h]<;>exact hn
theorem Rel.grow{φ G S a w w'}(h:Rel φ G S a w)(hold:∀b,b<w.heap.size→w'.heap[b]?=w.heap[b]?)(hs:w.heap.size≤w'.heap.size):Rel φ G S a w':=
 ⟨h.size,h.defers,fun t x hx=>(h.env t x hx).mono (bQ.le_refl _) (fun b hb _=>hold b hb) hs (fun _ _ h=>h),h.mem.grow hold hs,h.ka.mono (fun b hb _=>hold b hb) hs (fun _ _ h=>h)⟩
theorem Un{P:Program}{S:St}{o:Oper}{c:Bool}{x:AV}{gb:Bool}(hr:aH P S o (.val c x))(hc:c=true){φ G a w}(h:Rel φ G S a w)(hd:∀t,o.dst=some t→t<S.n){next:Act→World→Prop}{R}
 (hn:∀a' w',Rel φ G (S.put o.dst gb x) a' w'→aP φ S.mem w φ S.mem w'→next a' w'):o.wp P a w next R:=by
 obtain⟨v,w',nW,b7,hold,hs,pV,ht,fh⟩:=hr hc φ G a w h;exact nW.step (hn _ _ ((h.grow hold hs).put o.dst hd gb x v (fun _=>b7)) (aP.grow hold hs pV ht fh))
theorem Uo{P:Program}{S:St}{o:Oper}{c:Bool}{x:AV}{e:cI}(hr:aH P S o (.cZ c x e))(hc:c=true){φ G a w}(h:Rel φ G S a w)(hd:∀t,o.dst=some t→t<S.n){next:Act→World→Prop}{R}
 (hn:∀φ' a' w',Rel φ' G (({S with mem:=Mem.set S.mem e}:St).put o.dst true x) a' w'→aP φ S.mem w φ' (Mem.set S.mem e) w'→next a' w'):o.wp P a w next R:=by
 obtain⟨v,w',φ',nW,b7,hm,hk,_⟩:=hr hc φ G a w h;exact nW.step (hn φ' _ _ ((h.xk hm hk).put o.dst hd true x v (fun _=>b7)) hk)
theorem QV{all:List Oper}{S:St}{j:Nat}{b:Bool}{φ G a w}(h:Rel φ G S a w)(hg:grd all S j=some (true,.d (.bool b))):yielded all.toArray a.tmps j=some b:=by
 unfold grd at hg;split at hg
 ·rename_i o ho;split at hg
  ·rename_i t ht;have:=rq (h.env t _ hg);unfold yielded;simp only[List.getElem?_toArray,ho,Option.bind_some,ht];rw[Array.getD_eq_getD_getElem?]at this;cases hq:a.tmps[t]? with
   |none=>simp[hq,undef]at this
   |some v=>simp[hq]at this;simp[this]
  ·cases hg
 ·cases hg
section
variable {P:Program} {S:St} {Q:XE→St→Prop}
theorem nD.mono{c:Code}{Q':XE→St→Prop}(h:nD P c S Q)(hq:∀e S,Q e S→Q' e S):nD P c S Q':=
 fun φ G a w hr=>wp_mono (h φ G a w hr) fun _ _ _ hp=>hp.mono hq
def St.prune(S:St)(o6:List Nat):St:={S with env:=o6.filterMap fun t=>(Env.lk S.env t).map fun x=>(t,x)}
theorem rU(env:Env):∀(o6:List Nat)(t:Nat)(x:Bool×AV),Env.lk (o6.filterMap fun t=>(Env.lk env t).map fun x=>(t,x)) t=some x→Env.lk env t=some x
 |[],t,x,h=>by simp[Env.lk]at h
 |k::r,t,x,h=>by
  simp only[List.filterMap_cons]at h;cases hk:Env.lk env k with
  |none=>simp[hk]at h;exact rU env r t x h
  |some y=>
   simp only[hk,Option.map_some,Env.lk]at h;by_cases JW:k=t
   ·subst JW;simp at h;subst h;exact hk
   ·simp[JW]at h;exact rU env r t x h
theorem Rel.prune{φ G a w}(h:Rel φ G S a w)(o6:List Nat):Rel φ G (S.prune o6) a w:=
 ⟨h.size,h.defers,fun t x hx=>h.env t x (rU _ _ _ _ hx),h.mem,h.ka⟩
theorem JX{x y:Code}(h:nD P x S fun e S'=>match e with| .normal=>nD P y S' Q|e=>Q e S'):nD P (.seq x y) S Q:=by
 intro φ G a w hr;refine wp_seq (wp_mono (h φ G a w hr) fun e a' w' hp=>?_);cases e with
 |normal=>
  obtain⟨φ',S',hn,h1,h2,h3⟩:=hp;exact wp_mono (h1 φ' G a' w' h2) fun e a2 w2 zV=>by rw[hn]at zV;exact zV.weaken h3
 |_=>exact hp
theorem Gq{c:Operand}{x y:Code}{b:Bool}(hc:S.opd c=(true,.d (.bool b)))(ht:b=true→nD P x S Q)(hf:b=false→nD P y S Q):nD P (.cond c x y) S Q:=by
 intro φ G a w hr;have hv:=hr.opd c (by rw[hc]);rw[hc]at hv;have e:=rq hv;cases b
 ·exact wp_cond_false e (hf rfl φ G a w hr)
 ·exact wp_cond_true e (ht rfl φ G a w hr)
theorem Up(h:Q .normal S):nD P .skip S Q:=fun φ _ _ _ hr=>wp_skip ⟨φ,S,rfl,h,hr,aP.refl ..⟩
theorem ZD(h:Q .ret S):nD P .ret S Q:=fun φ _ _ _ hr=>wp_ret ⟨φ,S,rfl,h,hr,aP.refl ..⟩
theorem Uq{id:Nat}(h:Q (.exit id) S):nD P (.exit id) S Q:=fun φ _ _ _ hr=>wp_exit ⟨φ,S,rfl,h,hr,aP.refl ..⟩
theorem xG{id:Nat}{c:Code}(h:nD P c S fun e S'=>match e with| .exit mA=>if mA=id then Q .normal S' else Q (.exit mA) S'|e=>Q e S'):nD P (.block id c) S Q:=by
 intro φ G a w hr;refine wp_block (wp_mono (h φ G a w hr) fun e a' w' hp=>?_);cases e with
 |exit mA=>
  obtain⟨φ',S',hn,h1,h2,h3⟩:=hp;simp only[Exit.inBlock];by_cases hid:mA=id
  ·simp only[hid,if_true]at h1⊢;exact⟨φ',S',hn,h1,h2,h3⟩
  ·simp only[hid,if_false]at h1⊢;exact⟨φ',S',hn,h1,h2,h3⟩
 |_=>exact hp
theorem Ur{c:Code}{α:Type}(I:α→St)(J:α→Prop)(μ:α→Nat)(x0:α)(hS:S=I x0)(h0:J x0)
 (round:∀x,J x→nD P c (I x) fun e S'=>match e with| .normal=>∃x',S'=I x'∧J x'∧μ x'<μ x|e=>Q e S'):nD P (.loop c) S Q:=by
 intro φ G a w hr;subst hS;intro b k cs;have key:∀n x φ1 a1 w1,μ x=n→J x→(I x).n=(I x0).n→Rel φ1 G (I x) a1 w1→aP φ (I x0).mem w φ1 (I x).mem w1→
  ∃e a' w',mG (I x0).n φ G (I x0).mem w Q e a' w'∧Arrives P (lone (b.at a1 (.code c::.inLoop c::k)) cs w1) b k cs e a' w':=by
  intro n;induction n using Nat.strongRecOn with
  |_ n ih=>
   intro x φ1 a1 w1 hn hJ BI rT gu;obtain⟨e,a2,w2,hp,gp⟩:=round x hJ φ1 G a1 w1 rT b (.inLoop c::k) cs;cases e with
   |normal=>
    obtain⟨φ2,S2,qK,⟨x',rfl,hJ',bz⟩,iS,cw⟩:=hp;obtain⟨e3,a3,w3,hp3,af2⟩:=ih (μ x') (by omega) x' φ2 a2 w2 rfl hJ' (qK.trans BI) iS (gu.trans cw);exact⟨e3,a3,w3,hp3,.of_steps (Steps.trans gp (.one step_inLoop)) af2⟩
   |exit id=>exact⟨.exit id,a2,w2,by rw[BI]at hp;exact mG.weaken (e:=.exit id) gu hp,.pass (x:=.inLoop c) rfl (fun _ _=>.inl (by simp)) gp⟩
   |goto l=>exact hp.elim
   |ret=>exact⟨.ret,a2,w2,by rw[BI]at hp;exact mG.weaken (e:=.ret) gu hp,.pass (x:=.inLoop c) rfl (fun _ _=>.inl (by simp)) gp⟩
   |panic ch=>exact⟨.panic ch,a2,w2,by rw[BI]at hp;exact mG.weaken (e:=.panic ch) gu hp,.pass (x:=.inLoop c) rfl (fun _ _=>.inl (by simp)) gp⟩
   |outgrown=>exact hp.elim
 obtain⟨e,a',w',hq,gp⟩:=key _ x0 φ a w rfl h0 rfl hr (aP.refl ..);exact⟨e,a',w',hq,.of_steps (.one step_loop) gp⟩
end
inductive Out where
 |ret (x:AV)
 |panic (t:TypeId) (x:D)
def mS(φ:bQ)(w:World)(F:Nat→Prop):Out→Ending→Prop
 | .ret x,.returned v=>aB φ w F x v
 | .panic t x,.panicked chain=>∃v,chain=[{v:=.iface t v,recovered:=false}]∧aK w F x v
 |_,_=>False
def Ev(P:Program)(gl:List (Nat×D))(f:FuncId)(args:List AV)(m:Mem)(K:Out→Mem→Prop):Prop:=
 ∀φ G w (vs:Array Value),bm φ G m w→eK w (Fo G φ m) gl→args.length=vs.size→(∀(i:Nat) x v,args[i]?=some x→vs[i]?=some v→aB φ w (Fo G φ m) x v)→
  Calls P f vs w fun e w'=>∃φ' m' out,K out m'∧bm φ' G m' w'∧aP φ m w φ' m' w'∧mS φ' w' (Fo G φ' m') out e
theorem Ev.mono{P gl f args m K K'}(h:Ev P gl f args m K)(hk:∀o m,K o m→K' o m):Ev P gl f args m K':=
 fun φ G w vs hm hg hl ha=>(h φ G w vs hm hg hl ha).mono fun _ _ ⟨φ',m',out,h1,h2⟩=>⟨φ',m',out,hk _ _ h1,h2⟩
def findK:List Nat→Nat→Nat→Option Nat
 |[],_,_=>none
 |a::r,k,i=>if a=k then some i else findK r k (i+1)
theorem vz:∀{ρ:List Nat}{k j i:Nat},findK ρ k j=some i→j≤i∧ρ[i-j]?=some k
 |[],k,j,i,h=>by simp[findK]at h
 |a::r,k,j,i,h=>by
  simp only[findK]at h;split at h
  ·rename_i hk;cases h;subst hk;simp
  ·obtain⟨h1,h2⟩:=vz h;refine⟨by omega,?_⟩;rw[show i-j=(i-(j+1))+1 by omega];simpa using h2
theorem jw:∀{ρ:List Nat}{k j:Nat},findK ρ k j=none↔k∉ρ
 |[],k,j=>by simp[findK]
 |a::r,k,j=>by
  simp only[findK,List.mem_cons,not_or];split
  ·rename_i hk;subst hk;simp
  ·rename_i hk;rw[jw];constructor
   ·exact fun h=>⟨fun h'=>hk h'.symm,h⟩
   ·exact fun h=>h.2
theorem QW{ρ:List Nat}(hn:ρ.Nodup){i k:Nat}(h:ρ[i]?=some k):findK ρ k 0=some i:=by
 cases hf:findK ρ k 0 with
 |none=>exact absurd (List.mem_of_getElem? h) (jw.1 hf)
 |some j=>
  obtain⟨_,h2⟩:=vz hf;simp only[Nat.sub_zero]at h2;obtain⟨hi,h3⟩:=List.getElem?_eq_some_iff.1 h;obtain⟨hj,h4⟩:=List.getElem?_eq_some_iff.1 h2;have:=(List.getElem_inj hn).1 (h3.trans h4.symm);rw[this]
def flats:List AV→Option (List D)
 |[]=>some []
 | .d x::r=>match x.flat,flats r with
  |true,some ys=>some (x::ys)
  |_,_=>none
 |_::_=>none
theorem D6:∀{l:List AV}{ds:List D},flats l=some ds→l=ds.map .d∧∀d∈ds,d.flat=true
 |[],ds,h=>by simp[flats]at h;subst h;simp
 |x::r,ds,h=>by
  unfold flats at h;split at h
  ·rename_i heq;cases heq
  ·rename_i y r' heq;cases heq;split at h
   ·rename_i ys hf F4;cases h;obtain⟨h1,h2⟩:=D6 F4;refine⟨by rw[h1];rfl,fun d hd=>?_⟩;rcases List.mem_cons.1 hd with rfl|hd
    ·exact hf
    ·exact h2 d hd
   ·cases h
  ·cases h
def boxD:Option (List D)→AV
 |some ds=>.d (.list ds)
 |none=>.bf
mutual
def vw(m:Mem)(ρ:List Nat)(bor:Nat→Bool)(nv:Nat→Nat→Nat):AV→AV
 | .ptr k aj off=>match Mem.get m k,findK ρ k 0 with
  |some e,some i=>if e.aj=aj then .ptr i (nv i aj) off else .bf
  |_,_=>.bf
 | .vec k aj off len=>match Mem.get m k,findK ρ k 0 with
  |some e,some i=>if e.aj=aj then .vec i (nv i aj) off len else .bf
  |some ⟨_,v,.vec _ rows⟩,none=>if bor k=true∧v=aj∧off+len≤rows.length then .d (.list ((rows.drop off).take len))else .bf
  |some ⟨_,v,.box cs⟩,none=>if bor k=true∧v=aj∧off+len≤cs.length then boxD (flats ((cs.drop off).take len))else .bf
  |_,_=>.bf
 | .cF k aj i j=>match Mem.get m k,findK ρ k 0 with
  |some e,some n=>if e.aj=aj then .cF n (nv n aj) i j else .bf
  |_,_=>.bf
 | .agg cs=>.agg (vws m ρ bor nv cs)
 | .fn f cap=>.fn f (vws m ρ bor nv cap)
 | .aW vs=>.aW (vws m ρ bor nv vs)
 | .bf=>.bf
 | .d x=>.d x
 | .dL x j=>.dL x j
 | .gL t x=>.gL t x
 | .lit v=>.lit v
 | .nn=>.nn
 | .err=>.err
def vws(m:Mem)(ρ:List Nat)(bor:Nat→Bool)(nv:Nat→Nat→Nat):List AV→List AV
 |[]=>[]
 |x::r=>vw m ρ bor nv x::vws m ρ bor nv r
end
theorem rr(m ρ bor nv):∀(l:List AV)(i:Nat),(vws m ρ bor nv l)[i]?=(l[i]?).map (vw m ρ bor nv)
 |[],i=>by simp[vws]
 |x::r,i=>by cases i with|zero=>simp[vws]|succ i=>simp[vws,rr m ρ bor nv r i]
theorem kN(m ρ bor nv):∀(l:List AV),(vws m ρ bor nv l).length=l.length
 |[]=>rfl
 |x::r=>by simp[vws,kN m ρ bor nv r]
def bQ.hY(φ:bQ)(ρ:List Nat)(nv:Nat→Nat→Nat):bQ:=fun i=>
 match ρ[i]? with
 |some k=>(φ k).map fun L=>{L with aj:=nv i L.aj}
 |none=>none
def xH(φ:bQ)(m:Mem)(ρ:List Nat)(b:Nat):Prop:=∃k∈ρ,∃e L,Mem.get m k=some e∧φ k=some L∧e.cont.cP L b
theorem xH.own{φ m ρ b}(h:xH φ m ρ b):iy φ m b:=by
 obtain⟨k,_,e,L,hg,hL,ho⟩:=h;obtain⟨hm,rfl⟩:=Mem.get_mem hg;exact⟨e,hm,L,hL,ho⟩
theorem BJ{φ G m w}(h:bm φ G m w){ρ:List Nat}{k:Nat}{e:cI}{L:Loc}{b:Nat}(hg:Mem.get m k=some e)(hL:φ k=some L)(ho:e.cont.cP L b)(hk:k∉ρ):¬xH φ m ρ b:=by
 rintro ⟨k',aN,e',L',rV,bU,cq⟩;obtain⟨hm,rfl⟩:=Mem.get_mem hg;obtain⟨dx,rfl⟩:=Mem.get_mem rV;have:=h.apart e' dx e hm L' L bU hL ⟨b,cq,ho⟩;exact hk (this▸aN)
section
variable {φ:bQ} {G:Fr} {m:Mem} {w:World} {ρ:List Nat} {bor:Nat→Bool} {nv:Nat→Nat→Nat} {F1:Nat→Prop}
theorem Df{k i:Nat}{L:Loc}(hi:findK ρ k 0=some i)(hL:φ k=some L):φ.hY ρ nv i=some {L with aj:=nv i L.aj}:=by
 obtain⟨_,h2⟩:=vz hi;simp only[Nat.sub_zero]at h2;simp[bQ.hY,h2,hL]
theorem abj(hm:bm φ G m w)(hF:∀b,F1 b→Fo G φ m b)
 (N7:∀k e L b,Mem.get m k=some e→k∉ρ→bor k=true→φ k=some L→e.cont.cP L b→¬F1 b) {y v} (h:aB φ w (Fo G φ m) y v):aB (φ.hY ρ nv) w F1 (vw m ρ bor nv y) v:=by
 induction h with
 |bf v=>exact .bf v
 |d x v h=>exact .d x v (h.mono (fun _ _ _=>rfl) (Nat.le_refl _) (fun b _=>hF b))
 |agg cs a hl h1 _ ih=>
  refine .agg _ a (by rw[kN];exact hl) h1 (fun i c v hc hv=>?_);rw[rr]at hc;obtain⟨y,hy,rfl⟩:=Option.map_eq_some_iff.1 hc;exact ih i y v hy hv
 |ptr k aj off v L hL hv h h1=>
  unfold vw;split
  ·rename_i e i hg hi;split
   ·rename_i he;obtain⟨_,_,L',bU,aA,_⟩:=hm.get hg;rw[hL]at bU;cases bU;have e1:L.aj=aj:=by rw[aA];exact he
    refine .ptr i _ off v _ (Df hi hL) (by simp[e1]) (fun _=>h e1.symm) h1
   ·exact .bf _
  ·exact .bf _
 |vec k aj off len v L hL hv h h1=>
  unfold vw;split
  ·rename_i e i hg hi;split
   ·rename_i he;obtain⟨_,_,L',bU,aA,_⟩:=hm.get hg;rw[hL]at bU;cases bU;have e1:L.aj=aj:=by rw[aA];exact he
    refine .vec i _ off len v _ (Df hi hL) (by simp[e1]) (fun _=>h e1.symm) h1
   ·exact .bf _
  ·rename_i key v' sz rows hg hi;split
   ·rename_i hc;obtain⟨hb,rfl,hle⟩:=hc;obtain⟨_,_,L',bU,aA,cd⟩:=hm.get hg;rw[hL]at bU;cases bU;refine .d _ _ (Ay (.vec k v' off len v L hL hv h h1) hL aA cd hle hF (fun ho=>?_));exact N7 k _ L _ hg (jw.1 hi) hb hL ⟨ho,rfl⟩
   ·exact .bf _
  ·rename_i key v' cs hg hi;split
   ·rename_i hc;obtain⟨hb,rfl,hle⟩:=hc;obtain⟨_,_,L',bU,aA,cd⟩:=hm.get hg;rw[hL]at bU;cases bU;obtain⟨⟨z1,z2,z3⟩,arr,elem,iX,tN,rL,ep⟩:=cd;cases iJ:flats ((cs.drop off).take len)with
    |none=>exact .bf _
    |some ds=>
     obtain⟨jq,af3⟩:=D6 iJ;obtain⟨ao,cap,rfl,fX,dF⟩:=h aA.symm;have hdl:ds.length=len:=by
      have:=congrArg List.length jq;simp at this;omega
     refine .d _ _ ?_;by_cases h0:len=0
     ·have:ds=[]:=List.eq_nil_of_length_eq_zero (by omega);subst this;subst h0;refine .nil _ _ (fun hn=>?_);cases cap with
      |zero=>rfl
      |succ c=>have:=(dF (by omega)).1;rw[hn]at this;cases this
     ·obtain⟨rfl,_⟩:=dF (by omega);rw[←hdl];have nS:∀(i:Nat) d,ds[i]?=some d→∃u,arr[off+i]?=some u∧aK w F1 d u∧cx u=true:=by
       intro i d hd;have hi:i<ds.length:=(List.getElem?_eq_some_iff.1 hd).1;have sJ:cs[off+i]?=some (.d d):=by
        have:=congrArg (·[i]?) jq;simp only[List.getElem?_take,List.getElem?_drop,List.getElem?_map,hd]at this;rw[if_pos (by omega)]at this;simpa using this
       have bz:off+i<arr.size:=by omega
       have hr:=ep (off+i) _ arr[off+i] sJ (by simp[bz]);cases hr with
       |d _ _ hr=>exact⟨_,by simp[bz],hr.mono (fun _ _ _=>rfl) (Nat.le_refl _) (fun b _=>hF b),rL _ (by simp)⟩
      have ak0:L.dz<w.heap.size:=iX.lt;refine .list ds _ _ cap 1 (fun i=>(arr[off+i]?).getD undef) (by omega) ak0 (N7 k _ L _ hg (jw.1 hi) hb hL rfl) (fun d hd=>?_) (fun i d hd=>?_) (fun i j c lH hj=>?_)
      ·have:=af3 d hd;cases d<;>simp_all [D.flat,D.size]
      ·obtain⟨u,h1,h2,_⟩:=nS i d hd;simp only[h1,Option.getD_some];exact h2
      ·obtain⟨u,h1,h2,h3⟩:=nS i ds[i] (by simp[lH]);simp only[h1,Option.getD_some,dS h3]at hj;have QQ:j=0:=by
        have:=(Array.getElem?_eq_some_iff.1 hj).1;simpa using this
       subst QQ;simp at hj;subst hj;rw[gz iX,z1,z2];simpa using h1
   ·exact .bf _
  ·exact .bf _
 |cF k aj i j v L hL hv h h1=>
  unfold vw;split
  ·rename_i e n hg hi;split
   ·rename_i he;obtain⟨_,_,L',bU,aA,_⟩:=hm.get hg;rw[hL]at bU;cases bU;have e1:L.aj=aj:=by rw[aA];exact he
    refine .cF n _ i j v _ (Df hi hL) (by simp[e1]) (fun _=>h e1.symm) h1
   ·exact .bf _
  ·exact .bf _
 |dL x j b off x' hb mw hx hc=>
  exact .dL x j b off x' hb (fun h=>mw (hF b h)) (hx.mono (fun _ _ _=>rfl) (Nat.le_refl _) (fun b _=>hF b)) hc
 |fn f cap a hf hl _ ih=>
  refine .fn f _ a hf (by rw[kN];exact hl) (fun i c v hc hv=>?_);rw[rr]at hc;obtain⟨y,hy,rfl⟩:=Option.map_eq_some_iff.1 hc;exact ih i y v hy hv
 |qG f cap a hl _ ih=>
  refine .qG f _ a (by rw[kN];exact hl) (fun i c v hc hv=>?_);rw[rr]at hc;obtain⟨y,hy,rfl⟩:=Option.map_eq_some_iff.1 hc;exact ih i y v hy hv
 |aW vs a hl _ ih=>
  refine .aW _ a (by rw[kN];exact hl) (fun i c v hc hv=>?_);rw[rr]at hc;obtain⟨y,hy,rfl⟩:=Option.map_eq_some_iff.1 hc;exact ih i y v hy hv
 |gL t x v h=>exact .gL t x v (h.mono (fun _ _ _=>rfl) (Nat.le_refl _) (fun b _=>hF b))
 |lit v h=>exact .lit v h
 |nn a cap=>exact .nn a cap
 |err t v=>exact .err t v
end
def mkM:Nat→List (Nat×aE)→Mem
 |_,[]=>[]
 |i,(v,c)::r=>⟨i,v,c⟩::mkM (i+1) r
theorem o7:∀(l:List (Nat×aE))(i:Nat),(mkM i l).map (·.key)=List.range' i l.length
 |[],i=>rfl
 |(v,c)::r,i=>by simp[mkM,o7 r,List.range'_succ]
theorem kl:∀{l:List (Nat×aE)}{i:Nat}{e:cI},e∈mkM i l↔∃j v c,l[j]?=some (v,c)∧e=⟨i+j,v,c⟩
 |[],i,e=>by simp[mkM]
 |(v,c)::r,i,e=>by
  simp only[mkM,List.mem_cons,kl (l:=r)];constructor
  ·rintro (rfl|⟨j,v',c',h,rfl⟩)
   ·exact⟨0,v,c,by simp,by simp⟩
   ·exact⟨j+1,v',c',by simpa using h,by simp;omega⟩
  ·rintro ⟨j,v',c',h,rfl⟩;cases j with
   |zero=>simp at h;obtain⟨rfl,rfl⟩:=h;left;simp
   |succ j=>right;exact⟨j,v',c',by simpa using h,by simp;omega⟩
def selC(m:Mem)(ρ:List Nat)(bor:Nat→Bool)(nv:Nat→Nat→Nat):aE→aE
 | .dead=>.dead
 | .box cs=>.box (vws m ρ bor nv cs)
 | .vec sz rows=>.vec sz rows
 | .vv rows y=>.vv rows (y.map (vw m ρ bor nv))
def selE(m:Mem)(ρ:List Nat)(bor:Nat→Bool)(nv:Nat→Nat→Nat)(i:Nat):Option cI→Nat×aE
 |some e=>(nv i e.aj,selC m ρ bor nv e.cont)
 |none=>(0,.dead)
def selL(m:Mem)(ρ:List Nat)(bor:Nat→Bool)(nv:Nat→Nat→Nat):Nat→List Nat→List (Nat×aE)
 |_,[]=>[]
 |i,k::r=>selE m ρ bor nv i (Mem.get m k)::selL m ρ bor nv (i+1) r
theorem vA(m ρ bor nv):∀(l:List Nat)(i j:Nat),(selL m ρ bor nv i l)[j]?=(l[j]?).map fun k=>selE m ρ bor nv (i+j) (Mem.get m k)
 |[],i,j=>by simp[selL]
 |k::r,i,j=>by
  cases j with
  |zero=>simp[selL]
  |succ j=>simp[selL,vA m ρ bor nv r (i+1) j,Nat.add_assoc,Nat.add_comm 1 j]
theorem pJ(m ρ bor nv):∀(l:List Nat)(i:Nat),(selL m ρ bor nv i l).length=l.length
 |[],i=>rfl
 |k::r,i=>by simp[selL,pJ m ρ bor nv r]
theorem sO{m ρ bor nv L c b}:(selC m ρ bor nv c).cP L b↔c.cP L b:=by cases c<;>exact Iff.rfl
theorem jN{L:Loc}{c:aE}{v b:Nat}:c.cP {L with aj:=v} b↔c.cP L b:=by cases c<;>exact Iff.rfl
section
variable {φ:bQ} {G G1:Fr} {m:Mem} {w:World} {ρ:List Nat} {bor:Nat→Bool} {nv:Nat→Nat→Nat}
theorem uz(dV:∀k∈ρ,(Mem.get m k).isSome=true)(b:Nat):iy (φ.hY ρ nv) (mkM 0 (selL m ρ bor nv 0 ρ)) b↔xH φ m ρ b:=by
 constructor
 ·rintro ⟨e,he,L,hL,ho⟩;obtain⟨j,v,c,hj,rfl⟩:=kl.1 he;rw[vA]at hj;obtain⟨k,hk,nE⟩:=Option.map_eq_some_iff.1 hj;simp only[Nat.zero_add,bQ.hY,hk,Option.map_eq_some_iff]at hL;obtain⟨L0,rJ,rfl⟩:=hL;have fa:=List.mem_of_getElem? hk;have:=dV k fa;obtain⟨e0,BK⟩:=Option.isSome_iff_exists.1 this;rw[BK]at nE;simp only[selE,Prod.mk.injEq]at nE;obtain⟨rfl,rfl⟩:=nE;exact⟨k,fa,e0,L0,BK,rJ,jN.1 (sO.1 ho)⟩
 ·rintro ⟨k,hk,e,L,hg,hL,ho⟩;obtain⟨j,hj,rfl⟩:=List.mem_iff_getElem.1 hk;refine⟨⟨0+j,nv j e.aj,selC m ρ bor nv e.cont⟩,kl.2 ⟨j,_,_,?_,rfl⟩,{L with aj:=nv j L.aj},?_,sO.2 (jN.2 ho)⟩
  ·rw[vA];simp[hj,hg,selE]
  ·simp[bQ.hY,hj,hL]
theorem yU(hm:bm φ G m w)(hn:ρ.Nodup)(dV:∀k∈ρ,(Mem.get m k).isSome=true)(hG:∀b,G1 b→Fo G φ m b)(hG1:∀b,xH φ m ρ b→¬G1 b)
 (N7:∀k e L b,Mem.get m k=some e→k∉ρ→bor k=true→φ k=some L→e.cont.cP L b→¬G1 b):
 bm (φ.hY ρ nv) G1 (mkM 0 (selL m ρ bor nv 0 ρ)) w∧(∀y v,aB φ w (Fo G φ m) y v→aB (φ.hY ρ nv) w (Fo G1 (φ.hY ρ nv) (mkM 0 (selL m ρ bor nv 0 ρ))) (vw m ρ bor nv y) v)∧
  (∀b,Fo G1 (φ.hY ρ nv) (mkM 0 (selL m ρ bor nv 0 ρ)) b→Fo G φ m b):=by
 have fB:=uz (φ:=φ) (nv:=nv) (bor:=bor) dV;have hF:∀b,Fo G1 (φ.hY ρ nv) (mkM 0 (selL m ρ bor nv 0 ρ)) b→Fo G φ m b:=by
  rintro b (h|h)
  ·exact hG b h
  ·exact .inr ((fB b).1 h).own
 have hb:∀k e L b,Mem.get m k=some e→k∉ρ→bor k=true→φ k=some L→e.cont.cP L b→¬Fo G1 (φ.hY ρ nv) (mkM 0 (selL m ρ bor nv 0 ρ)) b:=by
  rintro k e L b hg hk Wz hL ho (h|h)
  ·exact N7 k e L b hg hk Wz hL ho h
  ·exact BJ hm hg hL ho hk ((fB _).1 h)
 have b7:∀y v,aB φ w (Fo G φ m) y v→aB (φ.hY ρ nv) w (Fo G1 (φ.hY ρ nv) (mkM 0 (selL m ρ bor nv 0 ρ))) (vw m ρ bor nv y) v:=fun y v h=>abj hm hF hb h;have hd:∀x v,aK w (Fo G φ m) x v→aK w (Fo G1 (φ.hY ρ nv) (mkM 0 (selL m ρ bor nv 0 ρ))) x v:=fun x v h=>h.mono (fun _ _ _=>rfl) (Nat.le_refl _) (fun b _=>hF b);have part:∀{e:cI},e∈mkM 0 (selL m ρ bor nv 0 ρ)→∃j k e0 L0,ρ[j]?=some k∧Mem.get m k=some e0∧φ k=some L0∧L0.aj=e0.aj∧dU φ w (Fo G φ m) L0 e0.cont∧e=⟨j,nv j e0.aj,selC m ρ bor nv e0.cont⟩:=by
  intro e he;obtain⟨j,v,c,hj,rfl⟩:=kl.1 he;rw[vA]at hj;obtain⟨k,hk,nE⟩:=Option.map_eq_some_iff.1 hj;obtain⟨e0,BK⟩:=Option.isSome_iff_exists.1 (dV k (List.mem_of_getElem? hk));rw[BK]at nE;simp only[selE,Prod.mk.injEq,Nat.zero_add]at nE;obtain⟨rfl,rfl⟩:=nE;obtain⟨_,_,L0,rJ,aA,cd⟩:=hm.get BK;exact⟨j,k,e0,L0,hk,BK,rJ,aA,cd,by simp⟩
 refine⟨⟨?_,?_,?_,?_,?_,?_⟩,b7,hF⟩
 ·rw[o7];exact List.nodup_range'
 ·intro i L hL;rw[o7,pJ];simp only[bQ.hY]at hL;split at hL
  ·rename_i k hk;have:=(List.getElem?_eq_some_iff.1 hk).1;simp[List.mem_range'];omega
  ·cases hL
 ·intro e he;obtain⟨j,k,e0,L0,hk,BK,rJ,aA,cd,rfl⟩:=part he;refine⟨{L0 with aj:=nv j L0.aj},by simp[bQ.hY,hk,rJ],by simp[aA],?_⟩;cases hc:e0.cont with
  |dead=>trivial
  |box cs=>
   rw[hc]at cd;obtain⟨g0,arr,elem,g1,g2,g3,g4⟩:=cd;refine⟨by simpa [kN]using g0,arr,elem,g1,by simp[kN,g2],g3,fun i c v sP hv=>?_⟩;rw[rr]at sP;obtain⟨y,hy,rfl⟩:=Option.map_eq_some_iff.1 sP;exact b7 y v (g4 i y v hy hv)
  |vec sz rows=>
   rw[hc]at cd;obtain⟨g1,g2,g3,g4⟩:=cd;refine⟨g1,g2,g3,fun h0=>?_⟩;obtain⟨arr,elem,f1,f2,f3,f4⟩:=g4 h0;exact⟨arr,elem,f1,f2,f3,fun i d zQ=>let ⟨v,hv,hj⟩:=f4 i d zQ;⟨v,hd _ _ hv,hj⟩⟩
  |vv rows y=>
   rw[hc]at cd;exact (j8.mono (vw m ρ bor nv) cd (fun _ _ _ _ u hu=>hd _ u hu) (fun x _ v hx=>b7 x v hx) (fun _ _=>rfl)).aj _
 ·intro e he e' nX L L' hL bU fG;obtain⟨j,k,e0,L0,hk,BK,rJ,aA,cd,rfl⟩:=part he;obtain⟨j',k',e0',L0',aN,ak1,abk,au4,awg,rfl⟩:=part nX;simp only[bQ.hY,hk,rJ,aN,abk,Option.map_some,Option.some.injEq]at hL bU;subst hL;subst bU;obtain⟨rW,gu⟩:=Mem.get_mem BK;obtain⟨jx,cw⟩:=Mem.get_mem ak1;have:=hm.apart e0 rW e0' jx L0 L0' (by rw[gu];exact rJ) (by rw[cw];exact abk) (fG.imp fun b h=>⟨jN.1 (sO.1 h.1),jN.1 (sO.1 h.2)⟩);rw[gu,cw]at this;obtain⟨hi,h3⟩:=List.getElem?_eq_some_iff.1 hk;obtain⟨hj,h4⟩:=List.getElem?_eq_some_iff.1 aN;exact (List.getElem_inj hn).1 (h3.trans (this.trans h4.symm))
 ·exact fun b p4=>hG1 b ((fB b).1 p4)
 ·exact fun b p4=>Au hm b (hG b p4)
end
mutual
def plainD:D→Bool
 | .list (_::_)=>false
 | .list []=>true
 | .agg cs=>plainDs cs
 | .int _ _=>true
 | .bool _=>true
 | .str _=>true
 | .Bv=>true
def plainDs:List D→Bool
 |[]=>true
 |x::r=>plainD x&&plainDs r
end
theorem pK:∀{l:List D},plainDs l=true→∀x∈l,plainD x=true
 |[],_,x,hx=>by simp at hx
 |y::r,h,x,hx=>by
  simp only[plainDs,Bool.and_eq_true]at h;rcases List.mem_cons.1 hx with rfl|hx
  ·exact h.1
  ·exact pK h.2 x hx
theorem aK.plain{w w':World}{F F':Nat→Prop}{d v}(h:aK w F d v)(hp:plainD d=true):aK w' F' d v:=by
 induction h with
 |int k n=>exact .int k n
 |bool b=>exact .bool b
 |Bv v h=>exact .Bv v h
 |str b s h=>exact .str b s h
 |agg cs a hl hf _ ih=>
  refine .agg cs a hl hf (fun i d v hd hv=>ih i d v hd hv (pK (by simpa only[plainD]using hp) d (List.mem_of_getElem? hd)))
 |nil a cap hn=>exact .nil a cap hn
 |list xs b off cap sz vs di hb hF bV hv hc _=>
  cases xs with
  |nil=>exact .nil _ _ (by simp)
  |cons=>simp[plainD]at hp
mutual
def plainAV:AV→Bool
 | .d x=>plainD x
 | .dL _ _=>false
 | .agg cs=>plainAVs cs
 | .fn _ cap=>plainAVs cap
 | .aW vs=>plainAVs vs
 | .gL _ x=>plainD x
 | .bf=>true
 | .ptr _ _ _=>true
 | .vec _ _ _ _=>true
 | .cF _ _ _ _=>true
 | .lit _=>true
 | .nn=>true
 | .err=>true
def plainAVs:List AV→Bool
 |[]=>true
 |x::r=>plainAV x&&plainAVs r
end
theorem km:∀{l:List AV},plainAVs l=true→∀x∈l,plainAV x=true
 |[],_,x,hx=>by simp at hx
 |y::r,h,x,hx=>by
  simp only[plainAVs,Bool.and_eq_true]at h;rcases List.mem_cons.1 hx with rfl|hx
  ·exact h.1
  ·exact km h.2 x hx
def plainC:aE→Bool
 | .dead=>true
 | .box cs=>plainAVs cs
 | .vec _ rows=>plainDs rows
 | .vv rows y=>rows.all plainDs&&(match y with|none=>true|some x=>plainAV x)
mutual
def up(ρ bs:List Nat):AV→AV
 | .ptr k aj off=>.ptr (ρ.getD k 0) (bs.getD k 0+aj) off
 | .vec k aj off len=>.vec (ρ.getD k 0) (bs.getD k 0+aj) off len
 | .cF k aj i j=>.cF (ρ.getD k 0) (bs.getD k 0+aj) i j
 | .agg cs=>.agg (ups ρ bs cs)
 | .fn f cap=>.fn f (ups ρ bs cap)
 | .aW vs=>.aW (ups ρ bs vs)
 | .bf=>.bf
 | .d x=>.d x
 | .dL x j=>.dL x j
 | .gL t x=>.gL t x
 | .lit v=>.lit v
 | .nn=>.nn
 | .err=>.err
def ups(ρ bs:List Nat):List AV→List AV
 |[]=>[]
 |x::r=>up ρ bs x::ups ρ bs r
end
theorem ru(ρ bs):∀(l:List AV)(i:Nat),(ups ρ bs l)[i]?=(l[i]?).map (up ρ bs)
 |[],i=>by simp[ups]
 |x::r,i=>by cases i with|zero=>simp[ups]|succ i=>simp[ups,ru ρ bs r i]
theorem kO(ρ bs):∀(l:List AV),(ups ρ bs l).length=l.length
 |[]=>rfl
 |x::r=>by simp[ups,kO ρ bs r]
def upC(ρ bs:List Nat):aE→aE
 | .dead=>.dead
 | .box cs=>.box (ups ρ bs cs)
 | .vec sz rows=>.vec sz rows
 | .vv rows y=>.vv rows (y.map (up ρ bs))
def backL(ρ bs:List Nat):Nat→List (Nat×aE)→List cI
 |_,[]=>[]
 |i,(v,c)::r=>⟨ρ.getD i 0,bs.getD i 0+v,upC ρ bs c⟩::backL ρ bs (i+1) r
theorem p9{ρ bs:List Nat}:∀{l:List (Nat×aE)}{i:Nat}{e:cI},e∈backL ρ bs i l↔∃j v c,l[j]?=some (v,c)∧e=⟨ρ.getD (i+j) 0,bs.getD (i+j) 0+v,upC ρ bs c⟩
 |[],i,e=>by simp[backL]
 |(v,c)::r,i,e=>by
  simp only[backL,List.mem_cons,p9 (l:=r)];constructor
  ·rintro (rfl|⟨j,v',c',h,rfl⟩)
   ·exact⟨0,v,c,by simp,by simp⟩
   ·exact⟨j+1,v',c',by simpa using h,by rw[show i+(j+1)=i+1+j by omega]⟩
  ·rintro ⟨j,v',c',h,rfl⟩;cases j with
   |zero=>simp at h;obtain⟨rfl,rfl⟩:=h;left;simp
   |succ j=>right;exact⟨j,v',c',by simpa using h,by rw[show i+(j+1)=i+1+j by omega]⟩
theorem BL{ρ bs:List Nat}:∀(l:List (Nat×aE))(i:Nat),(backL ρ bs i l).map (·.key)=(List.range' i l.length).map fun j=>ρ.getD j 0
 |[],i=>rfl
 |(v,c)::r,i=>by simp[backL,BL r,List.range'_succ]
def putAll(m:Mem):List cI→Mem
 |[]=>m
 |e::r=>putAll (Mem.set m e) r
theorem jO:∀(es:List cI)(m:Mem),(putAll m es).map (·.key)=m.map (·.key)
 |[],m=>rfl
 |e::r,m=>by rw[putAll,jO r,Mem.gx]
theorem BM:∀(es:List cI)(m:Mem),(m.map (·.key)).Nodup→(es.map (·.key)).Nodup→(∀e∈es,e.key∈m.map (·.key))→∀e,e∈putAll m es↔e∈es∨(e∈m∧e.key∉es.map (·.key))
 |[],m,_,_,_,e=>by simp[putAll]
 |x::r,m,hm,hn,hk,e=>by
  simp only[List.map_cons,List.nodup_cons]at hn;rw[putAll,BM r (Mem.set m x) (by rw[Mem.gx];exact hm) hn.2 (fun e he=>by rw[Mem.gx];exact hk e (by simp[he])),Mem.mem_set hm];have hx:=hk x (by simp);constructor
  ·rintro (h|⟨⟨rfl,_⟩|⟨h,bK⟩,rO⟩)
   ·left;simp[h]
   ·left;simp
   ·right;exact⟨h,by simp only[List.map_cons,List.mem_cons,not_or];exact⟨bK,rO⟩⟩
  ·rintro (h|⟨h,rO⟩)
   ·rcases List.mem_cons.1 h with rfl|h
    ·right;exact⟨.inl ⟨rfl,hx⟩,hn.1⟩
    ·left;exact h
   ·simp only[List.map_cons,List.mem_cons,not_or]at rO;right;exact⟨.inr ⟨h,rO.1⟩,rO.2⟩
def base(m:Mem)(d:Nat):List Nat→List Nat
 |[]=>[]
 |k::r=>(match Mem.get m k with|some e=>e.aj+d|none=>0)::base m d r
theorem Az(m:Mem)(d:Nat):∀(l:List Nat)(i:Nat),(base m d l)[i]?=(l[i]?).map fun k=>match Mem.get m k with|some e=>e.aj+d|none=>0
 |[],i=>by simp[base]
 |k::r,i=>by cases i with|zero=>simp[base]|succ i=>simp[base,Az m d r i]
theorem pL(m:Mem)(d:Nat):∀(l:List Nat),(base m d l).length=l.length
 |[]=>rfl
 |k::r=>by simp[base,pL m d r]
def nv0:Nat→Nat→Nat:=fun _ _=>0
def kP(φ:bQ)(G:Fr)(m:Mem)(ρ B:List Nat):Fr:=⟨fun b=>Fo G φ m b∧¬xH φ m ρ b∧¬xH φ m B b,[]⟩
section
variable {φ:bQ} {G:Fr} {m:Mem} {w:World} {ρ B:List Nat}
theorem D7(hm:bm φ G m w)(hn:ρ.Nodup)(dV:∀k∈ρ,(Mem.get m k).isSome=true):
 bm (φ.hY ρ nv0) (kP φ G m ρ B) (mkM 0 (selL m ρ (fun k=>B.contains k) nv0 0 ρ)) w∧
  (∀y v,aB φ w (Fo G φ m) y v→aB (φ.hY ρ nv0) w (Fo (kP φ G m ρ B) (φ.hY ρ nv0) (mkM 0 (selL m ρ (fun k=>B.contains k) nv0 0 ρ))) (vw m ρ (fun k=>B.contains k) nv0 y) v)∧
  (∀b,Fo (kP φ G m ρ B) (φ.hY ρ nv0) (mkM 0 (selL m ρ (fun k=>B.contains k) nv0 0 ρ)) b→Fo G φ m b):=
 yU hm hn dV (fun b h=>h.1) (fun b h h'=>h'.2.1 h) (fun k e L b hg _ hb hL ho h'=>h'.2.2 ⟨k,by simpa using hb,e,L,hg,hL,ho⟩)
theorem aB.upR{φ φ':bQ}{ρ bs:List Nat}{w F F' x v}(h:aB φ w F x v)(hφ:∀i L,φ i=some L→φ' (ρ.getD i 0)=some {L with aj:=bs.getD i 0+L.aj})
 (hd:(∀b,F' b→F b)∨plainAV x=true):aB φ' w F' (up ρ bs x) v:=by
 have dd:∀{d v},aK w F d v→((∀b,F' b→F b)∨plainD d=true)→aK w F' d v:=fun h hd=>by
  rcases hd with hd|hd
  ·exact h.mono (fun _ _ _=>rfl) (Nat.le_refl _) (fun b _=>hd b)
  ·exact h.plain hd
 induction h with
 |bf v=>exact .bf v
 |d x v h=>exact .d x v (dd h (hd.imp id (by simp[plainAV])))
 |agg cs a hl h1 _ ih=>
  refine .agg _ a (by rw[kO];exact hl) h1 (fun i c v hc hv=>?_);rw[ru]at hc;obtain⟨y,hy,rfl⟩:=Option.map_eq_some_iff.1 hc;exact ih i y v hy hv (hd.imp id fun hp=>km (by simpa only[plainAV]using hp) y (List.mem_of_getElem? hy))
 |ptr k aj off v L hL hv h h1=>exact .ptr _ _ off v _ (hφ k L hL) (by simp only;omega) (fun he=>h (by simp only at he;omega)) h1
 |vec k aj off len v L hL hv h h1=>exact .vec _ _ off len v _ (hφ k L hL) (by simp only;omega) (fun he=>h (by simp only at he;omega)) h1
 |cF k aj i j v L hL hv h h1=>exact .cF _ _ i j v _ (hφ k L hL) (by simp only;omega) (fun he=>h (by simp only at he;omega)) h1
 |dL x j b off x' hb mw hx hc=>
  rcases hd with hd|hd
  ·exact .dL x j b off x' hb (fun h=>mw (hd b h)) (hx.mono (fun _ _ _=>rfl) (Nat.le_refl _) (fun b _=>hd b)) hc
  ·simp[plainAV]at hd
 |fn f cap a hf hl _ ih=>
  refine .fn f _ a hf (by rw[kO];exact hl) (fun i c v hc hv=>?_);rw[ru]at hc;obtain⟨y,hy,rfl⟩:=Option.map_eq_some_iff.1 hc;exact ih i y v hy hv (hd.imp id fun hp=>km (by simpa only[plainAV]using hp) y (List.mem_of_getElem? hy))
 |qG f cap a hl _ ih=>
  refine .qG f _ a (by rw[kO];exact hl) (fun i c v hc hv=>?_);rw[ru]at hc;obtain⟨y,hy,rfl⟩:=Option.map_eq_some_iff.1 hc;exact ih i y v hy hv (hd.imp id fun hp=>km (by simpa only[plainAV]using hp) y (List.mem_of_getElem? hy))
 |aW vs a hl _ ih=>
  refine .aW _ a (by rw[kO];exact hl) (fun i c v hc hv=>?_);rw[ru]at hc;obtain⟨y,hy,rfl⟩:=Option.map_eq_some_iff.1 hc;exact ih i y v hy hv (hd.imp id fun hp=>km (by simpa only[plainAV]using hp) y (List.mem_of_getElem? hy))
 |gL t x v h=>exact .gL t x v (dd h (hd.imp id (by simp[plainAV])))
 |lit v h=>exact .lit v h
 |nn a cap=>exact .nn a cap
 |err t v=>exact .err t v
theorem o8{ρ bs L c b}:(upC ρ bs c).cP L b↔c.cP L b:=by cases c<;>exact Iff.rfl
theorem D8(h:bm φ G m w)(hn:ρ.Nodup)(dV:∀k∈ρ,(Mem.get m k).isSome=true){fr:List Nat}(QX:fr.Nodup)(D4:∀k∈fr,(Mem.get m k).isSome=true∧k∉ρ)
 {φ2:bQ} {l2:List (Nat×aE)} {w2:World} (h2:bm φ2 (kP φ G m ρ B) (mkM 0 l2) w2)
 (hk:aP (φ.hY ρ nv0) (mkM 0 (selL m ρ (fun k=>B.contains k) nv0 0 ρ)) w φ2 (mkM 0 l2) w2) (hlen:l2.length=ρ.length+fr.length)
 (dF:B=[]∨∀e∈l2,plainC e.2=true):
 ∃φ':bQ,bm φ' G (putAll m (backL (ρ++fr) (base m 0 ρ++base m 1 fr) 0 l2)) w2∧aP φ m w φ' (putAll m (backL (ρ++fr) (base m 0 ρ++base m 1 fr) 0 l2)) w2∧
  ∀x v,(B=[]∨plainAV x=true)→aB φ2 w2 (Fo (kP φ G m ρ B) φ2 (mkM 0 l2)) x v→
   aB φ' w2 (Fo G φ' (putAll m (backL (ρ++fr) (base m 0 ρ++base m 1 fr) 0 l2))) (up (ρ++fr) (base m 0 ρ++base m 1 fr) x) v:=by
 obtain⟨ρ',Gr⟩:∃ρ',ρ'=ρ++fr:=⟨_,rfl⟩;obtain⟨bs,oP⟩:∃bs,bs=base m 0 ρ++base m 1 fr:=⟨_,rfl⟩;rw[←Gr,←oP];have sK:ρ'.Nodup:=by
  rw[Gr,List.nodup_append];exact⟨hn,QX,fun a ha b hb sQ=>(D4 b hb).2 (sQ▸ha)⟩
 have Ft:l2.length=ρ'.length:=by rw[Gr,List.length_append];exact hlen
 have QY:∀k∈ρ',(Mem.get m k).isSome=true:=fun k aN=>by
  rw[Gr]at aN;rcases List.mem_append.1 aN with h1|h1
  ·exact dV k h1
  ·exact (D4 k h1).1
 have abl:∀k∈ρ',k∈m.map (·.key):=fun k aN=>by
  obtain⟨e,he⟩:=Option.isSome_iff_exists.1 (QY k aN);obtain⟨hm,rfl⟩:=Mem.get_mem he;exact List.mem_map_of_mem hm
 obtain⟨φ',jj⟩:∃φ':bQ,φ'=fun k=>match findK ρ' k 0 with|some i=>(φ2 i).map (fun L=>{L with aj:=bs.getD i 0+L.aj})|none=>φ k:=⟨_,rfl⟩
 have oY:∀{i},i<ρ'.length→ρ'[i]?=some (ρ'.getD i 0):=fun hi=>by simp[hi]
 have ak2:∀{i},i<ρ'.length→φ' (ρ'.getD i 0)=(φ2 i).map (fun L=>{L with aj:=bs.getD i 0+L.aj}):=fun hi=>by
  simp only[jj,QW sK (oY hi)]
 have qY:∀{k},k∉ρ'→φ' k=φ k:=fun aN=>by simp only[jj,jw.2 aN]
 have ak3:∀{i L},φ2 i=some L→i<ρ'.length:=fun hL=>by
  have:=h2.oH _ _ hL;rw[o7]at this;simp[List.mem_range']at this;omega
 have qL:∀i L,φ2 i=some L→φ' (ρ'.getD i 0)=some {L with aj:=bs.getD i 0+L.aj}:=fun i L hL=>by
  rw[ak2 (ak3 hL),hL];rfl
 --zO entries behind
 have fa:=BM (backL ρ' bs 0 l2) m h.nodup;have Wz:(backL ρ' bs 0 l2).map (·.key)=ρ':=by
  rw[BL,Ft];apply List.ext_getElem?;intro i;by_cases hi:i<ρ'.length
  ·simp[hi]
  ·rw[List.getElem?_eq_none (by simp;omega),List.getElem?_eq_none (by omega)]
 rw[Wz]at fa;replace fa:=fa sK (fun e he=>abl e.key (by rw[←Wz];exact List.mem_map_of_mem he));have JY:∀{e},e∈backL ρ' bs 0 l2→∃j v c L,j<ρ'.length∧l2[j]?=some (v,c)∧e=⟨ρ'.getD j 0,bs.getD j 0+v,upC ρ' bs c⟩∧φ2 j=some L∧L.aj=v∧dU φ2 w2 (Fo (kP φ G m ρ B) φ2 (mkM 0 l2)) L c:=by
  intro e he;obtain⟨j,v,c,hj,rfl⟩:=p9.1 he;have gS:=(List.getElem?_eq_some_iff.1 hj).1;obtain⟨L,hL,aA,hc⟩:=h2.eZ ⟨0+j,v,c⟩ (kl.2 ⟨j,v,c,hj,rfl⟩);simp only[Nat.zero_add]at hL⊢;exact⟨j,v,c,L,by omega,hj,rfl,hL,aA,hc⟩
 have BN:=uz (φ:=φ) (nv:=nv0) (bor:=fun k=>B.contains k) dV;have N8:∀b,iy φ' (putAll m (backL ρ' bs 0 l2)) b↔iy φ2 (mkM 0 l2) b∨∃e∈m,e.key∉ρ'∧∃L,φ e.key=some L∧e.cont.cP L b:=by
  intro b;constructor
  ·rintro ⟨e,he,L,hL,ho⟩;rcases (fa e).1 he with he|⟨he,bK⟩
   ·obtain⟨j,v,c,L2,gS,hj,rfl,dX,aA,hc⟩:=JY he;left;simp only[qL j L2 dX,Option.some.injEq]at hL;subst hL;exact⟨⟨0+j,v,c⟩,kl.2 ⟨j,v,c,hj,rfl⟩,L2,by simpa using dX,jN.1 (o8.1 ho)⟩
   ·right;exact⟨e,he,bK,L,by rw[←qY bK];exact hL,ho⟩
  ·rintro (⟨e2,wK,L,hL,ho⟩|⟨e,he,bK,L,hL,ho⟩)
   ·obtain⟨j,v,c,hj,rfl⟩:=kl.1 wK;simp only[Nat.zero_add]at hL;exact⟨⟨ρ'.getD j 0,bs.getD j 0+v,upC ρ' bs c⟩,(fa _).2 (.inl (p9.2 ⟨j,v,c,hj,by simp⟩)),_,qL j L hL,o8.2 (jN.2 ho)⟩
   ·exact⟨e,(fa _).2 (.inr ⟨he,bK⟩),L,by rw[qY bK];exact hL,ho⟩
 have hnρ:∀{k},k∉ρ'→k∉ρ:=fun aN h1=>aN (by rw[Gr];exact List.mem_append_left _ h1)
 --an entry beside shares no block with zO ak4
 have Dg:∀e∈m,e.key∉ρ→∀L b,φ e.key=some L→e.cont.cP L b→¬xH φ m ρ b:=fun e he bK L b hL ho=>
  BJ h (Mem.get_of_mem h.nodup he) hL ho bK
 have hle:φ.le φ':=by
  intro k L hL;by_cases aN:k∈ρ'
  ·obtain⟨i,hi,rfl⟩:=List.mem_iff_getElem.1 aN;have hgd:ρ'.getD i 0=ρ'[i]:=by simp[hi]
   obtain⟨e,he⟩:=Option.isSome_iff_exists.1 (QY _ aN);obtain⟨_,_,L0,rJ,aA,_⟩:=h.get he;rw[hL]at rJ;cases rJ;by_cases hir:i<ρ.length
   ·have gf:ρ[i]?=some ρ'[i]:=by simp only[Gr];rw[List.getElem_append_left hir];simp
    have hbi:bs.getD i 0=L.aj:=by
     rw[oP,List.getD_eq_getElem?_getD,List.getElem?_append_left (by rw[pL];exact hir),Az,gf];simp[he,aA]
    obtain⟨L',h3,h4,h5⟩:=hk.le i {L with aj:=0} (by simp[bQ.hY,gf,hL,nv0]);refine⟨{L' with aj:=bs.getD i 0+L'.aj},by rw[←hgd];exact qL i L' h3,by simp only;omega,fun wK=>?_⟩;simp only at wK;have h6:=h5 (by simp only;omega);have g1:=congrArg Loc.aj h6;have g2:=congrArg Loc.dz h6;have g3:=congrArg Loc.sz h6;have g4:=congrArg Loc.cap h6;have g5:=congrArg Loc.base h6;simp only at g1 g2 g3 g4 g5⊢;rw[g1,g2,g3,g4,g5,hbi,Nat.add_zero]
   ·have iA:i<l2.length:=by omega
    obtain⟨L',bU,_,_⟩:=h2.eZ ⟨0+i,l2[i].1,l2[i].2⟩ (kl.2 ⟨i,_,_,by simp[iA],rfl⟩);simp only[Nat.zero_add]at bU;have gf:fr[i-ρ.length]?=some ρ'[i]:=by
     simp only[Gr]at hi⊢;rw[List.getElem_append_right (by omega)];simp
    have hbi:bs.getD i 0=L.aj+1:=by
     rw[oP,List.getD_eq_getElem?_getD,List.getElem?_append_right (by rw[pL];omega),pL,Az,gf];simp[he,aA]
    refine⟨{L' with aj:=bs.getD i 0+L'.aj},by rw[←hgd];exact qL i L' bU,by simp only;omega,fun wK=>?_⟩;simp only at wK;omega
  ·exact⟨L,by rw[qY aN];exact hL,Nat.le_refl _,fun _=>rfl⟩
 have WA:∀b,b<w.heap.size→iy φ' (putAll m (backL ρ' bs 0 l2)) b→iy φ m b:=by
  intro b hb JZ;rcases (N8 b).1 JZ with h3|⟨e,he,_,L,hL,ho⟩
  ·exact ((BN b).1 (hk.own b hb h3)).own
  ·exact⟨e,he,L,hL,ho⟩
 have hold:∀b,b<w.heap.size→¬iy φ m b→w2.heap[b]?=w.heap[b]?:=fun b hb zW=>hk.xh b hb (fun ho=>zW ((BN b).1 ho).own);have J0:B=[]→∀b,Fo G φ' (putAll m (backL ρ' bs 0 l2)) b→Fo (kP φ G m ρ B) φ2 (mkM 0 l2) b:=by
  rintro rfl b (hG|ho)
  ·refine .inl ⟨.inl hG,fun ho=>h.j9 b ho.own hG,?_⟩;rintro ⟨k,aN,_⟩;simp at aN
  ·rcases (N8 b).1 ho with h3|⟨e,he,bK,L,hL,ho5⟩
   ·exact .inr h3
   ·refine .inl ⟨.inr ⟨e,he,L,hL,ho5⟩,Dg e he (hnρ bK) L b hL ho5,?_⟩;rintro ⟨k,aN,_⟩;simp at aN
 have b7:∀x v,(B=[]∨plainAV x=true)→aB φ2 w2 (Fo (kP φ G m ρ B) φ2 (mkM 0 l2)) x v→aB φ' w2 (Fo G φ' (putAll m (backL ρ' bs 0 l2))) (up ρ' bs x) v:=
  fun x v hx hr=>hr.upR qL (hx.imp J0 id)
 have qM:∀d v,(B=[]∨plainD d=true)→aK w2 (Fo (kP φ G m ρ B) φ2 (mkM 0 l2)) d v→aK w2 (Fo G φ' (putAll m (backL ρ' bs 0 l2))) d v:=fun d v hx hr=>by
  rcases hx with hx|hx
  ·exact hr.mono (fun _ _ _=>rfl) (Nat.le_refl _) (fun b _=>J0 hx b)
  ·exact hr.plain hx
 refine⟨φ',⟨?_,?_,?_,?_,?_,?_⟩,⟨hle,hold,WA,hk.size,hk.os,hk.tape,hk.output⟩,b7⟩
 ·rw[jO];exact h.nodup
 ·intro k L hL;rw[jO];by_cases aN:k∈ρ'
  ·exact abl k aN
  ·rw[qY aN]at hL;exact h.oH k L hL
 ·intro e he;rcases (fa e).1 he with he|⟨he,bK⟩
  ·obtain⟨j,v,c,L2,gS,hj,rfl,dX,aA,hc⟩:=JY he;refine⟨_,qL j L2 dX,by simp[aA],?_⟩;have WB:B=[]∨plainC c=true:=dF.imp id fun hp=>hp (v,c) (List.mem_of_getElem? hj);cases c with
   |dead=>trivial
   |box cs=>
    obtain⟨g0,arr,elem,g1,g2,g3,g4⟩:=hc;refine⟨by simpa [kO]using g0,arr,elem,g1,by simp[kO,g2],g3,fun i c v sP hv=>?_⟩;rw[ru]at sP;obtain⟨y,hy,rfl⟩:=Option.map_eq_some_iff.1 sP;exact b7 y v (WB.imp id fun hp=>km (by simpa only[plainC]using hp) y (List.mem_of_getElem? hy)) (g4 i y v hy hv)
   |vec sz rows=>
    obtain⟨g1,g2,g3,g4⟩:=hc;refine⟨g1,g2,g3,fun h0=>?_⟩;obtain⟨arr,elem,f1,f2,f3,f4⟩:=g4 h0;exact⟨arr,elem,f1,f2,f3,fun i d zQ=>let ⟨v,hv,hj⟩:=f4 i d zQ;⟨v,qM d v (WB.imp id fun hp=>pK (by simpa only[plainC]using hp) d (List.mem_of_getElem? zQ)) hv,hj⟩⟩
   |vv rows y=>
    refine (j8.mono (up ρ' bs) hc (fun xs mU d hd u hu=>qM d u (WB.imp id fun hp=>?_) hu) (fun x hx v hv=>b7 x v (WB.imp id fun hp=>?_) hv) (fun _ _=>rfl)).aj _
    ·simp only[plainC,Bool.and_eq_true,List.all_eq_true]at hp;exact pK (hp.1 xs mU) d hd
    ·simp only[plainC,Bool.and_eq_true,hx]at hp;exact hp.2
  ·obtain⟨L,hL,aA,hc⟩:=h.eZ e he;refine⟨L,by rw[qY bK];exact hL,aA,hc.mono hle (fun b hb zW=>hold b hb (fun ho=>zW (.inr ho))) hk.size (fun b hb=>Or.imp id (WA b hb)) (fun b ho=>?_)⟩;exact hk.xh _ (hc.lt ho) (fun h1=>Dg e he (hnρ bK) L b hL ho ((BN _).1 h1))
 ·rintro e he e' nX L L' hL bU ⟨b,ho,cq⟩;have WC:∀{j v c L2 Gs QZ},l2[j]?=some (v,c)→φ2 j=some L2→c.cP L2 b→Gs∈m→Gs.key∉ρ'→φ Gs.key=some QZ→Gs.cont.cP QZ b→False:=by
   intro j v c L2 Gs QZ hj dX hc abn bK abo abp;have bz:b<w.heap.size:=h.Bw ⟨Gs,abn,QZ,abo,abp⟩;have h3:iy φ2 (mkM 0 l2) b:=⟨⟨0+j,v,c⟩,kl.2 ⟨j,v,c,hj,rfl⟩,L2,by simpa using dX,hc⟩;exact Dg Gs abn (hnρ bK) QZ b abo abp ((BN _).1 (hk.own _ bz h3))
  rcases (fa e).1 he with he|⟨he,bK⟩<;>rcases (fa e').1 nX with nX|⟨nX,Us⟩
  ·obtain⟨j,v,c,L2,gS,hj,rfl,dX,_,_⟩:=JY he;obtain⟨j',v',c',L2',awh,oJ,rfl,Dh,_,_⟩:=JY nX;simp only[qL j L2 dX,qL j' L2' Dh,Option.some.injEq]at hL bU;subst hL;subst bU;have:=h2.apart ⟨0+j,v,c⟩ (kl.2 ⟨j,v,c,hj,rfl⟩) ⟨0+j',v',c'⟩ (kl.2 ⟨j',v',c',oJ,rfl⟩) L2 L2' (by simpa using dX) (by simpa using Dh) ⟨b,jN.1 (o8.1 ho),jN.1 (o8.1 cq)⟩;simp only[Nat.zero_add]at this;rw[this]
  ·obtain⟨j,v,c,L2,gS,hj,rfl,dX,_,_⟩:=JY he;simp only[qL j L2 dX,Option.some.injEq]at hL;subst hL;exact (WC hj dX (jN.1 (o8.1 ho)) nX Us (by rw[←qY Us];exact bU) cq).elim
  ·obtain⟨j,v,c,L2,gS,hj,rfl,dX,_,_⟩:=JY nX;simp only[qL j L2 dX,Option.some.injEq]at bU;subst bU;exact (WC hj dX (jN.1 (o8.1 cq)) he bK (by rw[←qY bK];exact hL) ho).elim
  ·exact h.apart e he e' nX L L' (by rw[←qY bK];exact hL) (by rw[←qY Us];exact bU) ⟨b,ho,cq⟩
 ·intro b JZ hG;rcases (N8 b).1 JZ with h3|⟨e,he,_,L,hL,ho⟩
  ·exact h.j9 b ((BN b).1 (hk.own b (h.bound b hG) h3)).own hG
  ·exact h.j9 _ ⟨e,he,L,hL,ho⟩ hG
 ·exact fun b hG=>Nat.lt_of_lt_of_le (h.bound b hG) hk.size
end
def dY(S S':St):Prop:=S'.n=S.n∧S'.gl=S.gl∧∀φ G a w,Rel φ G S a w→∃φ',Rel φ' G S' a w∧aP φ S.mem w φ' S'.mem w
theorem dY.refl(S:St):dY S S:=⟨rfl,rfl,fun φ _ _ _ h=>⟨φ,h,aP.refl ..⟩⟩
theorem dY.trans{S S' Gt:St}(h:dY S S')(k:dY S' Gt):dY S Gt:=
 ⟨k.1.trans h.1,k.2.1.trans h.2.1,fun φ G a w hr=>by
  obtain⟨φ1,h1,h2⟩:=h.2.2 φ G a w hr;obtain⟨φ2,h3,h4⟩:=k.2.2 φ1 G a w h1;exact⟨φ2,h3,h2.trans h4⟩⟩
theorem N9(S:St)(o6:List Nat):dY S (S.prune o6):=⟨rfl,rfl,fun φ _ _ _ h=>⟨φ,h.prune o6,aP.refl ..⟩⟩
theorem Gu{w:World}{φ φ':bQ}{m m':Mem}(h:∀b,iy φ' m' b→iy φ m b)(hle:φ.le φ'):aP φ m w φ' m' w:=
 ⟨hle,fun _ _ _=>rfl,fun b _ ho=>h b ho,Nat.le_refl _,rfl,rfl,rfl⟩
def mapC(τ:AV→AV):aE→aE
 | .box cs=>.box (cs.map τ)
 | .dead=>.dead
 | .vec sz rows=>.vec sz rows
 | .vv rows y=>.vv rows (y.map τ)
def mapM(τ:AV→AV)(e':cI):Mem→Mem
 |[]=>[]
 |e::r=>(if e.key=e'.key then e' else ⟨e.key,e.aj,mapC τ e.cont⟩)::mapM τ e' r
def mapEnv(τ:AV→AV):Env→Env
 |[]=>[]
 |(t,g,x)::r=>(t,g,τ x)::mapEnv τ r
theorem xI(τ:AV→AV):∀(env:Env)(t:Nat)(g:Bool)(y:AV),Env.lk (mapEnv τ env) t=some (g,y)→∃x,Env.lk env t=some (g,x)∧y=τ x
 |[],t,g,y,h=>by simp[mapEnv,Env.lk]at h
 |(t',g',x')::r,t,g,y,h=>by
  simp only[mapEnv,Env.lk]at h⊢;by_cases ht:t'=t
  ·subst ht;simp at h⊢;obtain⟨rfl,rfl⟩:=h;simp
  ·simp only[ht,if_false]at h⊢;exact xI τ r t g y h
theorem xJ(τ:AV→AV)(e':cI):∀m:Mem,(mapM τ e' m).map (·.key)=m.map (·.key)
 |[]=>rfl
 |e::r=>by
  simp only[mapM,List.map_cons,xJ τ e' r];congr 1;split
  ·rename_i h;exact h.symm
  ·rfl
theorem mapM_mem{τ:AV→AV}{e':cI}:∀{m:Mem}{x:cI},x∈mapM τ e' m↔∃e∈m,x=if e.key=e'.key then e' else ⟨e.key,e.aj,mapC τ e.cont⟩
 |[],x=>by simp[mapM]
 |e::r,x=>by simp[mapM,mapM_mem (m:=r)]
theorem kK{τ L c b}:(mapC τ c).cP L b↔c.cP L b:=by cases c<;>exact Iff.rfl
def St.mapAll(S:St)(τ:AV→AV)(e':cI):St:={S with env:=mapEnv τ S.env,mem:=mapM τ e' S.mem}
theorem Gv{φ:bQ}{G S a w}(h:Rel φ G S a w)(τ:AV→AV){e e':cI}(he:e∈S.mem){L L':Loc}(hL:φ e.key=some L)(iW:e'.key=e.key)
 (hv:L.aj<L'.aj) (sE:L'.aj=e'.aj) (fB:∀b,e'.cont.cP L' b→e.cont.cP L b)
 (hτ:∀(φ':bQ)(F':Nat→Prop),φ' e.key=some L'→(∀k,k≠e.key→φ' k=φ k)→(∀b,F' b→Fo G φ S.mem b)→(∀b,¬e'.cont.cP L' b→e.cont.cP L b→¬F' b)→∀x v,aB φ w (Fo G φ S.mem) x v→aB φ' w F' (τ x) v)
 (hc:∀(φ':bQ)(F':Nat→Prop),(∀b,F' b→Fo G φ S.mem b)→dU φ' w F' L' e'.cont):
 ∃φ',Rel φ' G (S.mapAll τ e') a w∧aP φ S.mem w φ' (S.mapAll τ e').mem w:=by
 have hm:=h.mem;obtain⟨φ',jj⟩:∃φ':bQ,φ'=fun k=>if k=e.key then some L' else φ k:=⟨_,rfl⟩
 have fe:φ' e.key=some L':=by simp[jj]
 have eA:∀k,k≠e.key→φ' k=φ k:=fun k hk=>by simp[jj,hk]
 have hle:φ.le φ':=by
  intro k L0 h0;by_cases hk:k=e.key
  ·subst hk;rw[hL]at h0;cases h0;exact⟨L',fe,by omega,fun hh=>by omega⟩
  ·exact⟨L0,by rw[eA k hk];exact h0,Nat.le_refl _,fun _=>rfl⟩
 have Oa:∀b,iy φ' (mapM τ e' S.mem) b→iy φ S.mem b:=by
  rintro b ⟨x,hx,Lx,ew,iz⟩;obtain⟨y,hy,rfl⟩:=mapM_mem.1 hx;by_cases hk:y.key=e'.key
  ·simp only[hk,if_true]at ew iz;rw[iW,fe]at ew;cases ew;exact⟨e,he,L,hL,fB b iz⟩
  ·simp only[hk,if_false]at ew iz;rw[iW]at hk;rw[eA _ hk]at ew;exact⟨y,hy,Lx,ew,kK.1 iz⟩
 have hF:∀b,Fo G φ' (mapM τ e' S.mem) b→Fo G φ S.mem b:=fun b=>Or.imp id (Oa b);have Ob:∀b,¬e'.cont.cP L' b→e.cont.cP L b→¬Fo G φ' (mapM τ e' S.mem) b:=by
  rintro b zW ho (hG|⟨x,hx,Lx,ew,iz⟩)
  ·exact hm.j9 _ ⟨e,he,L,hL,ho⟩ hG
  ·obtain⟨y,hy,rfl⟩:=mapM_mem.1 hx;by_cases hk:y.key=e'.key
   ·simp only[hk,if_true]at ew iz;rw[iW,fe]at ew;cases ew;exact zW iz
   ·simp only[hk,if_false]at ew iz;rw[iW]at hk;rw[eA _ hk]at ew;exact hk (hm.apart y hy e he Lx L ew hL ⟨b,kK.1 iz,ho⟩)
 have b7:=hτ φ' (Fo G φ' (mapM τ e' S.mem)) fe eA hF Ob;refine⟨φ',⟨h.size,h.defers,?_,⟨?_,?_,?_,?_,?_,?_⟩,h.ka.mono (fun _ _ _=>rfl) (Nat.le_refl _) (fun b _=>hF b)⟩,Gu Oa hle⟩
 ·intro t x hx;obtain⟨y,hy,rfl⟩:=xI τ S.env t true x hx;exact b7 _ _ (h.env t y hy)
 ·show ((mapM τ e' S.mem).map (·.key)).Nodup;rw[xJ];exact hm.nodup
 ·intro k L0 h0;show k∈(mapM τ e' S.mem).map (·.key);rw[xJ];by_cases hk:k=e.key
  ·subst hk;exact List.mem_map_of_mem he
  ·rw[eA k hk]at h0;exact hm.oH k L0 h0
 ·intro x hx;obtain⟨y,hy,rfl⟩:=mapM_mem.1 hx;by_cases hk:y.key=e'.key
  ·simp only[hk,if_true];exact⟨L',by rw[iW];exact fe,sE,hc _ _ hF⟩
  ·simp only[hk,if_false];obtain⟨Ly,dE,Q0,kW⟩:=hm.eZ y hy;refine⟨Ly,by rw[eA _ (by rw[←iW];exact hk)];exact dE,Q0,?_⟩;cases mV:y.cont with
   |dead=>trivial
   |box cs=>
    rw[mV]at kW;obtain⟨g0,arr,elem,g1,g2,g3,g4⟩:=kW;refine⟨by simpa using g0,arr,elem,g1,by simp[g2],g3,fun i c v sP hv=>?_⟩;rw[List.getElem?_map]at sP;obtain⟨z,hz,rfl⟩:=Option.map_eq_some_iff.1 sP;exact b7 z v (g4 i z v hz hv)
   |vec sz rows=>
    rw[mV]at kW;obtain⟨g1,g2,g3,g4⟩:=kW;refine⟨g1,g2,g3,fun h0=>?_⟩;obtain⟨arr,elem,f1,f2,f3,f4⟩:=g4 h0;exact⟨arr,elem,f1,f2,f3,fun i d zQ=>let ⟨v,hv,hj⟩:=f4 i d zQ;⟨v,hv.mono (fun _ _ _=>rfl) (Nat.le_refl _) (fun b _=>hF b),hj⟩⟩
   |vv rows y=>
    rw[mV]at kW;exact j8.mono τ kW (fun _ _ _ _ u hu=>hu.mono (fun _ _ _=>rfl) (Nat.le_refl _) (fun b _=>hF b)) (fun x _ v hx=>b7 x v hx) (fun _ _=>rfl)
 ·rintro x hx x' nB Lx Lx' ew NQ ⟨b,ho,cq⟩;obtain⟨y,hy,rfl⟩:=mapM_mem.1 hx;obtain⟨y',nU,rfl⟩:=mapM_mem.1 nB;have pull:∀{z:cI}{Lz:Loc},z∈S.mem→φ' (if z.key=e'.key then e' else ⟨z.key,z.aj,mapC τ z.cont⟩:cI).key=some Lz→(if z.key=e'.key then e' else ⟨z.key,z.aj,mapC τ z.cont⟩:cI).cont.cP Lz b→
   ∃z0∈S.mem,∃L0,φ z0.key=some L0∧z0.cont.cP L0 b∧(if z.key=e'.key then e' else ⟨z.key,z.aj,mapC τ z.cont⟩:cI).key=z0.key:=by
   intro z Lz hz iK nF;by_cases hk:z.key=e'.key
   ·simp only[hk,if_true]at iK nF⊢;rw[iW,fe]at iK;cases iK;exact⟨e,he,L,hL,fB b nF,iW⟩
   ·simp only[hk,if_false]at iK nF⊢;rw[iW]at hk;rw[eA _ hk]at iK;exact⟨z,hz,Lz,iK,kK.1 nF,rfl⟩
  obtain⟨z,hz,Lz,iK,nF,hkz⟩:=pull hy ew ho;obtain⟨z',sR,Lz',ak5,ak6,ak7⟩:=pull nU NQ cq;rw[hkz,ak7];exact hm.apart z hz z' sR Lz Lz' iK ak5 ⟨b,nF,ak6⟩
 ·exact fun b hb=>hm.j9 b (Oa b hb)
 ·exact hm.bound
mutual
def trAV(k v off len:Nat):AV→AV
 | .vec k' v' o l=>if k'=k∧v'=v∧off≤o∧o+l≤off+len then .vec k (v+1) (o-off) l else .vec k' v' o l
 | .cF k' v' i j=>if k'=k∧v'=v∧off≤i then .cF k (v+1) (i-off) j else .cF k' v' i j
 | .agg cs=>.agg (trAVs k v off len cs)
 | .fn f cap=>.fn f (trAVs k v off len cap)
 | .aW vs=>.aW (trAVs k v off len vs)
 | .bf=>.bf
 | .d x=>.d x
 | .ptr a b c=>.ptr a b c
 | .dL x j=>.dL x j
 | .gL t x=>.gL t x
 | .lit v=>.lit v
 | .nn=>.nn
 | .err=>.err
def trAVs(k v off len:Nat):List AV→List AV
 |[]=>[]
 |x::r=>trAV k v off len x::trAVs k v off len r
end
theorem qa(k v off len):∀(l:List AV)(i:Nat),(trAVs k v off len l)[i]?=(l[i]?).map (trAV k v off len)
 |[],i=>by simp[trAVs]
 |x::r,i=>by cases i with|zero=>simp[trAVs]|succ i=>simp[trAVs,qa k v off len r i]
theorem lL(k v off len):∀(l:List AV),(trAVs k v off len l).length=l.length
 |[]=>rfl
 |x::r=>by simp[trAVs,lL k v off len r]
def St.trim(S:St)(k off len:Nat):St:=
 match Mem.get S.mem k with
 |some ⟨_,v,.vec sz rows⟩=>if off+len≤rows.length then S.mapAll (trAV k v off len) ⟨k,v+1,.vec sz ((rows.drop off).take len)⟩else S
 |_=>S
theorem D9(S:St)(k off len:Nat):dY S (S.trim k off len):=by
 unfold St.trim;split
 ·rename_i key v sz rows hg;split
  ·rename_i hle;refine⟨rfl,rfl,fun φ G a w hr=>?_⟩;obtain⟨hm,hk,L,hL,aA,cd⟩:=hr.mem.get hg;simp only at hk aA cd;subst hk;obtain⟨g1,g2,g3,g4⟩:=cd;refine Gv hr (trAV key v off len) (e:=⟨key,v,.vec sz rows⟩) (e':=⟨key,v+1,.vec sz ((rows.drop off).take len)⟩) hm hL rfl (L':=⟨v+1,L.dz,L.sz,L.cap-off,L.base+off*L.sz,[]⟩)
    (by simp only;omega) rfl (fun b ho=>⟨by have:=ho.1;simp only at this;omega,ho.2⟩) ?_ ?_
   ·intro φ' F' fe eA hF _ x u hx;induction hx with
    |bf v=>exact .bf v
    |d x v h=>exact .d x v (h.mono (fun _ _ _=>rfl) (Nat.le_refl _) (fun b _=>hF b))
    |agg cs a hl h1 _ ih=>
     refine .agg _ a (by rw[lL];exact hl) h1 (fun i c v hc hv=>?_);rw[qa]at hc;obtain⟨y,hy,rfl⟩:=Option.map_eq_some_iff.1 hc;exact ih i y v hy hv
    |ptr k2 aj o v2 L2 dX rG h h1=>
     unfold trAV;by_cases cw:k2=key
     ·subst cw;rw[hL]at dX;cases dX;exact .ptr _ aj o v2 _ fe (by simp only;omega) (fun he=>by simp only at he;omega) h1
     ·exact .ptr k2 aj o v2 L2 (by rw[eA _ cw];exact dX) rG h h1
    |vec k2 aj o l v2 L2 dX rG h h1=>
     unfold trAV;split
     ·rename_i hc;obtain⟨rfl,rfl,ho,p5⟩:=hc;rw[hL]at dX;cases dX;refine .vec _ _ _ l v2 _ fe (Nat.le_refl _) (fun _=>?_) h1;obtain⟨a0,cap,rfl,fX,dF⟩:=h aA.symm;refine⟨a0,cap,rfl,fX,fun gR=>?_⟩;obtain⟨rfl,di⟩:=dF gR;refine⟨?_,by simp only;omega⟩;congr 2;show L.base+o*L.sz=L.base+off*L.sz+(o-off)*L.sz;rw[Nat.add_assoc,←Nat.add_mul];congr 2;omega
     ·by_cases cw:k2=key
      ·subst cw;rw[hL]at dX;cases dX;exact .vec _ aj o l v2 _ fe (by simp only;omega) (fun he=>by simp only at he;omega) h1
      ·exact .vec k2 aj o l v2 L2 (by rw[eA _ cw];exact dX) rG h h1
    |cF k2 aj i j v2 L2 dX rG h h1=>
     unfold trAV;split
     ·rename_i hc;obtain⟨rfl,rfl,ho⟩:=hc;rw[hL]at dX;cases dX;refine .cF _ _ _ j v2 _ fe (Nat.le_refl _) (fun _=>?_) h1;rw[h aA.symm];congr 3;show L.base+i*L.sz+j=L.base+off*L.sz+(i-off)*L.sz+j;rw[Nat.add_assoc L.base (off*L.sz),←Nat.add_mul];congr 3;omega
     ·by_cases cw:k2=key
      ·subst cw;rw[hL]at dX;cases dX;exact .cF _ aj i j v2 _ fe (by simp only;omega) (fun he=>by simp only at he;omega) h1
      ·exact .cF k2 aj i j v2 L2 (by rw[eA _ cw];exact dX) rG h h1
    |dL x j b o x' hb mw hx hc=>exact .dL x j b o x' hb (fun h=>mw (hF b h)) (hx.mono (fun _ _ _=>rfl) (Nat.le_refl _) (fun b _=>hF b)) hc
    |fn f cap a hf hl _ ih=>
     refine .fn f _ a hf (by rw[lL];exact hl) (fun i c v hc hv=>?_);rw[qa]at hc;obtain⟨y,hy,rfl⟩:=Option.map_eq_some_iff.1 hc;exact ih i y v hy hv
    |qG f cap a hl _ ih=>
     refine .qG f _ a (by rw[lL];exact hl) (fun i c v hc hv=>?_);rw[qa]at hc;obtain⟨y,hy,rfl⟩:=Option.map_eq_some_iff.1 hc;exact ih i y v hy hv
    |aW vs a hl _ ih=>
     refine .aW _ a (by rw[lL];exact hl) (fun i c v hc hv=>?_);rw[qa]at hc;obtain⟨y,hy,rfl⟩:=Option.map_eq_some_iff.1 hc;exact ih i y v hy hv
    |gL t x v h=>exact .gL t x v (h.mono (fun _ _ _=>rfl) (Nat.le_refl _) (fun b _=>hF b))
    |lit v h=>exact .lit v h
    |nn a cap=>exact .nn a cap
    |err t v=>exact .err t v
   ·intro φ' F' hF;refine⟨g1,by simp only[List.length_take,List.length_drop];omega,fun d hd=>g3 d (List.mem_of_mem_drop (List.mem_of_mem_take hd)),fun h0=>?_⟩;simp only at h0;obtain⟨arr,elem,f1,f2,f3,f4⟩:=g4 (by omega);refine⟨arr,elem,f1,?_,f3,fun i d hd=>?_⟩
    ·rw[f2];show L.base+L.cap*L.sz=L.base+off*L.sz+(L.cap-off)*L.sz;rw[Nat.add_assoc,←Nat.add_mul];congr 2;omega
    ·rw[List.getElem?_take]at hd;split at hd
     ·rw[List.getElem?_drop]at hd;obtain⟨v,hv,hj⟩:=f4 _ d hd;refine⟨v,hv.mono (fun _ _ _=>rfl) (Nat.le_refl _) (fun b _=>hF b),fun j c hjc=>?_⟩;have:=hj j c hjc;rw[Nat.add_mul]at this;rw[←Nat.add_assoc L.base]at this;exact this
     ·cases hd
  ·exact dY.refl S
 ·exact dY.refl S
mutual
def fzAV(k v:Nat)(rows:List D):AV→AV
 | .vec k' v' o l=>if k'=k∧v'=v∧o+l≤rows.length then .d (.list ((rows.drop o).take l))else .vec k' v' o l
 | .agg cs=>.agg (fzAVs k v rows cs)
 | .fn f cap=>.fn f (fzAVs k v rows cap)
 | .aW vs=>.aW (fzAVs k v rows vs)
 | .cF a b c d=>.cF a b c d
 | .bf=>.bf
 | .d x=>.d x
 | .ptr a b c=>.ptr a b c
 | .dL x j=>.dL x j
 | .gL t x=>.gL t x
 | .lit v=>.lit v
 | .nn=>.nn
 | .err=>.err
def fzAVs(k v:Nat)(rows:List D):List AV→List AV
 |[]=>[]
 |x::r=>fzAV k v rows x::fzAVs k v rows r
end
theorem qb(k v rows):∀(l:List AV)(i:Nat),(fzAVs k v rows l)[i]?=(l[i]?).map (fzAV k v rows)
 |[],i=>by simp[fzAVs]
 |x::r,i=>by cases i with|zero=>simp[fzAVs]|succ i=>simp[fzAVs,qb k v rows r i]
theorem lM(k v rows):∀(l:List AV),(fzAVs k v rows l).length=l.length
 |[]=>rfl
 |x::r=>by simp[fzAVs,lM k v rows r]
def St.freeze(S:St)(k:Nat):St:=
 match Mem.get S.mem k with
 |some ⟨_,v,.vec _ rows⟩=>S.mapAll (fzAV k v rows) ⟨k,v+1,.dead⟩
 |_=>S
theorem Jn(S:St)(k:Nat):dY S (S.freeze k):=by
 unfold St.freeze;split
 ·rename_i key v sz rows hg;refine⟨rfl,rfl,fun φ G a w hr=>?_⟩;obtain⟨hm,hk,L,hL,aA,cd⟩:=hr.mem.get hg;simp only at hk aA cd;subst hk;refine Gv hr (fzAV key v rows) (e:=⟨key,v,.vec sz rows⟩) (e':=⟨key,v+1,.dead⟩) hm hL rfl (L':={L with aj:=v+1})
   (by simp only;omega) rfl (fun _ ho=>ho.elim) ?_ (fun _ _ _=>trivial)
  intro φ' F' fe eA hF Ob x u hx;induction hx with
  |bf v=>exact .bf v
  |d x v h=>exact .d x v (h.mono (fun _ _ _=>rfl) (Nat.le_refl _) (fun b _=>hF b))
  |agg cs a hl h1 _ ih=>
   refine .agg _ a (by rw[lM];exact hl) h1 (fun i c v hc hv=>?_);rw[qb]at hc;obtain⟨y,hy,rfl⟩:=Option.map_eq_some_iff.1 hc;exact ih i y v hy hv
  |ptr k2 aj o v2 L2 dX rG h h1=>
   unfold fzAV;by_cases cw:k2=key
   ·subst cw;rw[hL]at dX;cases dX;exact .ptr _ aj o v2 _ fe (by simp only;omega) (fun he=>by simp only at he;omega) h1
   ·exact .ptr k2 aj o v2 L2 (by rw[eA _ cw];exact dX) rG h h1
  |vec k2 aj o l v2 L2 dX rG h h1=>
   unfold fzAV;split
   ·rename_i hc;obtain⟨rfl,rfl,p5⟩:=hc;rw[hL]at dX;cases dX;exact .d _ _ (Ay (.vec _ _ o l v2 L hL rG h h1) hL aA cd p5 hF (fun ho=>Ob _ (fun hh=>hh) ⟨ho,rfl⟩))
   ·by_cases cw:k2=key
    ·subst cw;rw[hL]at dX;cases dX;exact .vec _ aj o l v2 _ fe (by simp only;omega) (fun he=>by simp only at he;omega) h1
    ·exact .vec k2 aj o l v2 L2 (by rw[eA _ cw];exact dX) rG h h1
  |cF k2 aj i j v2 L2 dX rG h h1=>
   unfold fzAV;by_cases cw:k2=key
   ·subst cw;rw[hL]at dX;cases dX;exact .cF _ aj i j v2 _ fe (by simp only;omega) (fun he=>by simp only at he;omega) h1
   ·exact .cF k2 aj i j v2 L2 (by rw[eA _ cw];exact dX) rG h h1
  |dL x j b o x' hb mw hx hc=>exact .dL x j b o x' hb (fun h=>mw (hF b h)) (hx.mono (fun _ _ _=>rfl) (Nat.le_refl _) (fun b _=>hF b)) hc
  |fn f cap a hf hl _ ih=>
   refine .fn f _ a hf (by rw[lM];exact hl) (fun i c v hc hv=>?_);rw[qb]at hc;obtain⟨y,hy,rfl⟩:=Option.map_eq_some_iff.1 hc;exact ih i y v hy hv
  |qG f cap a hl _ ih=>
   refine .qG f _ a (by rw[lM];exact hl) (fun i c v hc hv=>?_);rw[qb]at hc;obtain⟨y,hy,rfl⟩:=Option.map_eq_some_iff.1 hc;exact ih i y v hy hv
  |aW vs a hl _ ih=>
   refine .aW _ a (by rw[lM];exact hl) (fun i c v hc hv=>?_);rw[qb]at hc;obtain⟨y,hy,rfl⟩:=Option.map_eq_some_iff.1 hc;exact ih i y v hy hv
  |gL t x v h=>exact .gL t x v (h.mono (fun _ _ _=>rfl) (Nat.le_refl _) (fun b _=>hF b))
  |lit v h=>exact .lit v h
  |nn a cap=>exact .nn a cap
  |err t v=>exact .err t v
 ·exact dY.refl S
def resOne(P:Program)(S:St):ResultVar→dk
 | .tmp t=>.val (S.opd (.tmp t)).1 (S.opd (.tmp t)).2
 | .cell p t=>match loadR P S.mem t (S.opd (.tmp p)).2 with
  | .val c x=>.val ((S.opd (.tmp p)).1&&c) x
  |_=>.no
def resAll(P:Program)(S:St):List ResultVar→Option (Bool×List AV)
 |[]=>some (true,[])
 |r::rs=>match resOne P S r with
  | .val c x=>match resAll P S rs with
   |some (c',xs)=>some (c&&c',x::xs)
   |none=>none
  |_=>none
def oneOf:List AV→AV
 |[x]=>x
 |xs=>.aW xs
def xK(tmps:Array Value):ResultVar→Sem Value
 | .tmp t=>pure (tmps.getD t undef)
 | .cell a t=>do loadVar t (←asAddr (tmps.getD a undef))
theorem Oc{P:Program}{S:St}{r:ResultVar}{c:Bool}{x:AV}(h:resOne P S r=.val c x)(hc:c=true){φ G a w}(hr:Rel φ G S a w):
 ∃v,(xK a.tmps r).run P w=.ok v w∧aB φ w (Fo G φ S.mem) x v:=by
 unfold resOne at h;split at h
 ·rename_i t;simp only[dk.val.injEq]at h;obtain⟨rfl,rfl⟩:=h;exact⟨_,rfl,hr.opd (.tmp t) hc⟩
 ·rename_i p t;split at h
  ·rename_i c' x' hl;simp only[dk.val.injEq]at h;obtain⟨rfl,rfl⟩:=h;simp only[Bool.and_eq_true]at hc;have:=JK P S {dst:=none,op:=.load t (.tmp p),type:=0,pos:= "",after:=#[],guard:=none} t (.tmp p) rfl hc.1;rw[hl]at this;obtain⟨v,nW,b7⟩:=this hc.2 φ G a w hr;have bZ:a.eval (.tmp p)=a.tmps.getD p undef:=rfl;simp only[execOp,Instr.loadAt,bZ]at nW;cases zN:a.tmps.getD p undef with
   |pointer ad=>
    rw[zN]at nW;cases ad with
    |none=>simp[Instr.sureAddr,stuck]at nW
    |some ad=>
     simp only[Instr.sureAddr,Sem.run_bind,Sem.run_pure,Result.andThen_ok]at nW;generalize hq:(loadVar t ad).run P w=q at nW;cases q with
     |halt _ _=>simp at nW
     |ok v2 w2=>
      simp at nW;obtain⟨rfl,rfl⟩:=nW;refine⟨v2,?_,b7⟩;simp only[xK,zN,asAddr,Sem.run_bind,Sem.run_pure,Result.andThen_ok,hq]
   |_=>rw[zN]at nW;simp[Instr.sureAddr,stuck]at nW
  ·cases h
theorem vB{P:Program}{S:St}{φ G a w}(hr:Rel φ G S a w):∀(rs:List ResultVar)(c:Bool)(xs:List AV),resAll P S rs=some (c,xs)→c=true→
 ∃vs:List Value,(rs.mapM (xK a.tmps)).run P w=.ok vs w∧xs.length=vs.length∧
  ∀(i:Nat) x v,xs[i]?=some x→vs[i]?=some v→aB φ w (Fo G φ S.mem) x v
 |[],c,xs,h,_=>by
  simp only[resAll,Option.some.injEq,Prod.mk.injEq]at h;obtain⟨_,rfl⟩:=h;exact⟨[],by simp,rfl,by simp⟩
 |r::rs,c,xs,h,hc=>by
  simp only[resAll]at h;split at h
  ·rename_i c1 x hx;split at h
   ·rename_i c2 BD mU;simp only[Option.some.injEq,Prod.mk.injEq]at h;obtain⟨rfl,rfl⟩:=h;simp only[Bool.and_eq_true]at hc;obtain⟨v,h1,h2⟩:=Oc hx hc.1 hr;obtain⟨vs,h3,h4,h5⟩:=vB (P:=P) hr rs c2 BD mU hc.2;refine⟨v::vs,?_,by simp[h4],fun i x v h h'=>?_⟩
    ·rw[List.mapM_cons];simp only[Sem.run_bind,h1,Result.andThen_ok,h3,Sem.run_pure]
    ·cases i with
     |zero=>simp at h h';subst h;subst h';exact h2
     |succ i=>exact h5 i x v (by simpa using h) (by simpa using h')
   ·cases h
  ·cases h
mutual
def refAV(k v:Nat):AV→Option (Nat×Nat)
 | .vec k' v' o l=>if k'=k∧v'=v then some (o,l)else none
 | .agg cs=>refAVs k v cs
 | .fn _ cap=>refAVs k v cap
 | .aW vs=>refAVs k v vs
 | .cF _ _ _ _=>none
 | .bf=>none
 | .d _=>none
 | .ptr _ _ _=>none
 | .dL _ _=>none
 | .gL _ _=>none
 | .lit _=>none
 | .nn=>none
 | .err=>none
def refAVs(k v:Nat):List AV→Option (Nat×Nat)
 |[]=>none
 |x::r=>match refAV k v x with
  |some p=>some p
  |none=>refAVs k v r
end
def refMem(k v:Nat):Mem→Option (Nat×Nat)
 |[]=>none
 |⟨_,_,.box cs⟩::r=>match refAVs k v cs with
  |some p=>some p
  |none=>refMem k v r
 |_::r=>refMem k v r
def refEnv(k v:Nat):Env→Option (Nat×Nat)
 |[]=>none
 |(_,_,x)::r=>match refAV k v x with
  |some p=>some p
  |none=>refEnv k v r
def St.trim1(S:St)(k:Nat):St:=
 match Mem.get S.mem k with
 |some ⟨_,v,.vec _ _⟩=>match refMem k v S.mem with
  |some (o,l)=>S.trim k o l
  |none=>match refEnv k v S.env with
   |some (o,l)=>S.trim k o l
   |none=>S
 |_=>S
theorem BO(S:St)(k:Nat):dY S (S.trim1 k):=by
 unfold St.trim1;split
 ·split
  ·exact D9 ..
  ·split
   ·exact D9 ..
   ·exact dY.refl S
 ·exact dY.refl S
def St.trims(S:St):List Nat→St
 |[]=>S
 |k::r=>(S.trim1 k).trims r
theorem BP:∀(l:List Nat)(S:St),dY S (S.trims l)
 |[],S=>dY.refl S
 |k::r,S=>(BO S k).trans (BP r _)
mutual
def avKeys:AV→List Nat
 | .ptr k _ _=>[k]
 | .vec k _ _ _=>[k]
 | .cF k _ _ _=>[k]
 | .agg cs=>avsKeys cs
 | .fn _ cap=>avsKeys cap
 | .aW vs=>avsKeys vs
 | .bf=>[]
 | .d _=>[]
 | .dL _ _=>[]
 | .gL _ _=>[]
 | .lit _=>[]
 | .nn=>[]
 | .err=>[]
def avsKeys:List AV→List Nat
 |[]=>[]
 |x::r=>avKeys x++avsKeys r
end
def contKeys:Option cI→List Nat
 |some ⟨_,_,.box cs⟩=>avsKeys cs
 |some ⟨_,_,.vv _ (some x)⟩=>avKeys x
 |_=>[]
def collect(m:Mem):Nat→List Nat→List Nat→List Nat
 |0,_,acc=>acc
 |_+1,[],acc=>acc
 |n+1,k::todo,acc=>match acc.contains k||(Mem.get m k).isNone with
  |true=>collect m n todo acc
  |false=>collect m n (todo++contKeys (Mem.get m k)) (acc++[k])
theorem nY(m:Mem):∀(n:Nat)(todo acc:List Nat),acc.Nodup→(∀k∈acc,(Mem.get m k).isSome=true)→(collect m n todo acc).Nodup∧∀k∈collect m n todo acc,(Mem.get m k).isSome=true
 |0,todo,acc,h,hs=>⟨h,hs⟩
 |n+1,[],acc,h,hs=>⟨h,hs⟩
 |n+1,k::todo,acc,h,hs=>by
  simp only[collect];split
  ·exact nY m n todo acc h hs
  ·rename_i hc;simp only[Bool.or_eq_false_iff,List.contains_eq_mem,decide_eq_false_iff_not,Option.isNone_eq_false_iff]at hc;refine nY m n _ _ ?_ ?_
   ·rw[List.nodup_append];exact⟨h,by simp,fun a ha b hb sQ=>by simp at hb;subst hb;subst sQ;exact hc.1 ha⟩
   ·intro x hx;rcases List.mem_append.1 hx with hx|hx
    ·exact hs x hx
    ·simp at hx;subst hx;exact hc.2
def dead(k:Nat):cI:=⟨k,0,.dead⟩
def bQ.add(φ:bQ)(ks:List Nat):bQ:=fun k=>if k∈ks then some ⟨0,0,0,0,0,[]⟩else φ k
theorem yV{φ:bQ}{m:Mem}{ks:List Nat}(hd:∀k∈ks,k∉m.map (·.key))(b:Nat):iy (φ.add ks) (m++ks.map dead) b↔iy φ m b:=by
 constructor
 ·rintro ⟨e,he,L,hL,ho⟩;rcases List.mem_append.1 he with he|he
  ·have:e.key∉ks:=fun h=>hd _ h (List.mem_map_of_mem he);simp only[bQ.add,this,if_false]at hL;exact⟨e,he,L,hL,ho⟩
  ·simp only[List.mem_map]at he;obtain⟨k,_,rfl⟩:=he;exact ho.elim
 ·rintro ⟨e,he,L,hL,ho⟩;have:e.key∉ks:=fun h=>hd _ h (List.mem_map_of_mem he);exact⟨e,List.mem_append_left _ he,L,by simp[bQ.add,this,hL],ho⟩
theorem abq{φ:bQ}{G}{m:Mem}{ks:List Nat}(hd:∀k∈ks,k∉m.map (·.key)):Fo G (φ.add ks) (m++ks.map dead)=Fo G φ m:=by
 funext b;simp only[Fo,yV hd b]
theorem Gw{φ:bQ}{G m w}(h:bm φ G m w){ks:List Nat}(hd:∀k∈ks,k∉m.map (·.key)):φ.le (φ.add ks):=by
 intro k L hL;have:k∉ks:=fun hk=>hd k hk (h.oH k L hL);exact⟨L,by simp[bQ.add,this,hL],Nat.le_refl _,fun _=>rfl⟩
theorem bm.add{φ G m w}(h:bm φ G m w){ks:List Nat}(hn:ks.Nodup)(hd:∀k∈ks,k∉m.map (·.key)):bm (φ.add ks) G (m++ks.map dead) w:=by
 have hle:=Gw h hd;have hF:=abq (φ:=φ) (G:=G) hd;refine⟨?_,?_,?_,?_,?_,h.bound⟩
 ·rw[List.map_append,List.nodup_append];have e:(ks.map dead).map (·.key)=ks:=by simp[Function.comp_def,dead]
  rw[e];exact⟨h.nodup,hn,fun a ha b hb sQ=>hd b hb (sQ▸ha)⟩
 ·intro k L hL;simp only[bQ.add]at hL;split at hL
  ·rename_i hk;rw[List.map_append];refine List.mem_append_right _ ?_;rw[List.map_map];exact List.mem_map.2 ⟨k,hk,rfl⟩
  ·rw[List.map_append];exact List.mem_append_left _ (h.oH k L hL)
 ·intro e he;rw[hF];rcases List.mem_append.1 he with he|he
  ·obtain⟨L,hL,hv,hc⟩:=h.eZ e he;have:e.key∉ks:=fun h=>hd _ h (List.mem_map_of_mem he);exact⟨L,by simp[bQ.add,this,hL],hv,hc.mono hle (fun _ _ _=>rfl) (Nat.le_refl _) (fun _ _ h=>h) (fun _ _=>rfl)⟩
  ·simp only[List.mem_map]at he;obtain⟨k,hk,rfl⟩:=he;exact⟨⟨0,0,0,0,0,[]⟩,by simp[bQ.add,dead,hk],rfl,trivial⟩
 ·rintro e he e' nX L L' hL bU ⟨b,ho,cq⟩;rcases List.mem_append.1 he with he|he
  ·rcases List.mem_append.1 nX with nX|nX
   ·have h1:e.key∉ks:=fun h=>hd _ h (List.mem_map_of_mem he);have h2:e'.key∉ks:=fun h=>hd _ h (List.mem_map_of_mem nX);simp only[bQ.add,h1,h2,if_false]at hL bU;exact h.apart e he e' nX L L' hL bU ⟨b,ho,cq⟩
   ·simp only[List.mem_map]at nX;obtain⟨k,_,rfl⟩:=nX;exact cq.elim
  ·simp only[List.mem_map]at he;obtain⟨k,_,rfl⟩:=he;exact ho.elim
 ·intro b hb hG;exact h.j9 b ((yV hd b).1 hb) hG
def entryEnv:Nat→List AV→Env
 |_,[]=>[]
 |i,x::r=>(i,true,x)::entryEnv (i+1) r
theorem vC:∀(i:Nat)(xs:List AV)(t:Nat)(y:Bool×AV),Env.lk (entryEnv i xs) t=some y→∃j,t=i+j∧xs[j]?=some y.2
 |i,[],t,y,h=>by simp[entryEnv,Env.lk]at h
 |i,x::r,t,y,h=>by
  simp only[entryEnv,Env.lk]at h;by_cases ht:i=t
  ·subst ht;simp at h;subst h;exact⟨0,rfl,rfl⟩
  ·simp only[ht,if_false]at h;obtain⟨j,rfl,hj⟩:=vC (i+1) r t y h;exact⟨j+1,by omega,by simpa using hj⟩
def inM:Nat→List aE→Mem
 |_,[]=>[]
 |i,c::r=>⟨i,0,c⟩::inM (i+1) r
theorem Gx:∀(cs:List aE)(i:Nat),inM i cs=mkM i (cs.map fun c=>(0,c))
 |[],i=>rfl
 |c::r,i=>by simp[inM,mkM,Gx r]
def entry(n:Nat)(gl:List (Nat×D))(args:List AV)(cs:List aE)(sites:List Nat):St:={n,gl,env:=entryEnv 0 args,mem:=inM 0 cs++sites.map dead}
def nvX(n0:Nat)(i v:Nat):Nat:=if i<n0 then (if v=0 then 0 else 1)else 0
structure ay where
 ak8:List Nat
 exp:Bool
 sites:List Nat
 vD:List Nat
 split:Bool
def finKeys(p:ay)(n0:Nat)(m:Mem)(xs:List AV):List Nat:=
 match p.exp with
 |true=>List.range n0++(collect m 64 (avsKeys xs++List.range n0) []).filter (fun k=>!decide (k<n0))
 |false=>List.range n0
def envVals:Env→List AV
 |[]=>[]
 |(_,_,x)::r=>x::envVals r
def nrm:Bool→AV→AV
 |true,x=>x
 |false,x=>x.norm
theorem aB.nrm{b:Bool}{φ w F x v}(h:aB φ w F x v):aB φ w F (nrm b x) v:=by
 cases b
 ·exact h.norm
 ·exact h
def finOut(b:Bool)(K:List Nat)(n0:Nat)(S:St)(one:List AV→Out):Option (Out×List (Nat×aE)):=
 if K.all (fun k=>(Mem.get S.mem k).isSome)then some (one ((envVals S.env).map fun x=>nrm b (vw S.mem K (fun _=>true) (nvX n0) x)),selL S.mem K (fun _=>true) (nvX n0) 0 K)else none
def finTrim(p:ay)(K:List Nat)(S:St):St:=S.trims (K.filter fun k=>!p.ak8.contains k)
def finVals(p:ay)(n0:Nat)(S:St)(xs:List AV)(one:List AV→Out):Option (Out×List (Nat×aE)):=
 let K:=finKeys p n0 S.mem xs
 finOut (p.vD.contains 1000) K n0 (finTrim p K {S with n:=xs.length,env:=entryEnv 0 xs}) one
def finish(P:Program)(p:ay)(n0:Nat)(rs:List ResultVar)(S:St):Option (Out×List (Nat×aE)):=
 match resAll P S rs with
 |some (c,xs)=>if c=true then finVals p n0 S xs (fun ys=>.ret (oneOf ys))else none
 |none=>none
def finPanic(p:ay)(n0:Nat)(t:TypeId)(x:D)(S:St):Option (Out×List (Nat×aE)):=finVals p n0 S [] (fun _=>.panic t x)
def fR:Env→List (Nat×Bool)
 |[]=>[]
 |(t,g,_)::r=>(t,g)::fR r
theorem zX(τ:AV→AV):∀env:Env,fR (mapEnv τ env)=fR env
 |[]=>rfl
 |(t,g,x)::r=>by simp[mapEnv,fR,zX τ r]
theorem Ea(S:St)(k o l:Nat):fR (S.trim k o l).env=fR S.env:=by
 unfold St.trim;split
 ·split
  ·exact zX _ _
  ·rfl
 ·rfl
theorem Od(S:St)(k:Nat):fR (S.trim1 k).env=fR S.env:=by
 unfold St.trim1;split
 ·split
  ·exact Ea ..
  ·split
   ·exact Ea ..
   ·rfl
 ·rfl
theorem BQ:∀(l:List Nat)(S:St),fR (S.trims l).env=fR S.env
 |[],S=>rfl
 |k::r,S=>by rw[St.trims,BQ r,Od]
theorem BR:∀(i:Nat)(xs:List AV),fR (entryEnv i xs)=(List.range' i xs.length).map fun j=>(j,true)
 |i,[]=>rfl
 |i,x::r=>by simp[entryEnv,fR,BR (i+1) r,List.range'_succ]
theorem J1:∀(env:Env)(i n j:Nat),fR env=(List.range' i n).map (fun j=>(j,true))→∀x,(envVals env)[j]?=some x→Env.lk env (i+j)=some (true,x)
 |[],i,n,j,_,x,hx=>by simp[envVals]at hx
 |(t,g,y)::r,i,n,j,h,x,hx=>by
  cases n with
  |zero=>simp[fR]at h
  |succ n=>
   simp only[fR,List.range'_succ,List.map_cons,List.cons.injEq,Prod.mk.injEq]at h;obtain⟨⟨rfl,rfl⟩,h⟩:=h;cases j with
   |zero=>simp[envVals]at hx;subst hx;simp[Env.lk]
   |succ j=>
    have:=J1 r (t+1) n j h x (by simpa [envVals]using hx);simp only[Env.lk];rw[if_neg (by omega),show t+(j+1)=t+1+j by omega];exact this
theorem uA:∀env:Env,(envVals env).length=(fR env).length
 |[]=>rfl
 |(_,_,_)::r=>by simp[envVals,fR,uA r]
theorem Fi(p:ay)(n0:Nat)(m:Mem)(xs:List AV):(finKeys p n0 m xs).Nodup:=by
 unfold finKeys;split
 ·rw[List.nodup_append];refine⟨List.nodup_range,((nY m 64 _ [] List.nodup_nil (by simp)).1).filter _,fun a ha b hb sQ=>?_⟩;simp only[List.mem_range]at ha;simp only[List.mem_filter,Bool.not_eq_true',decide_eq_false_iff_not]at hb;omega
 ·exact List.nodup_range
theorem Jo(p:ay)(n0:Nat)(m:Mem)(xs:List AV){k:Nat}(hk:k<n0):(finKeys p n0 m xs)[k]?=some k:=by
 unfold finKeys;split
 ·rw[List.getElem?_append_left (by simpa using hk)];simp[hk]
 ·simp[hk]
theorem qZ{p:ay}{n0:Nat}{S:St}{xs:List AV}{one:List AV→Out}{out:Out}{l:List (Nat×aE)}(h:finVals p n0 S xs one=some (out,l))
 {φ:bQ} {G:Fr} {w:World} (hm:bm φ G S.mem w) (hg:eK w (Fo G φ S.mem) S.gl) {vs:List Value} (hl:xs.length=vs.length)
 (hx:∀(i:Nat) x v,xs[i]?=some x→vs[i]?=some v→aB φ w (Fo G φ S.mem) x v) {φ0:bQ} {m0:Mem} {w0:World} (hk:aP φ0 m0 w0 φ S.mem w) (pa:∀k L,φ0 k=some L→k<n0∧L.aj=0):
 ∃φ' ys,out=one ys∧bm φ' G (mkM 0 l) w∧aP φ0 m0 w0 φ' (mkM 0 l) w∧ys.length=vs.length∧(∀(i:Nat) y v,ys[i]?=some y→vs[i]?=some v→aB φ' w (Fo G φ' (mkM 0 l)) y v)∧
  ∀b,Fo G φ' (mkM 0 l) b→Fo G φ S.mem b:=by
 unfold finVals at h;obtain⟨K,hK⟩:∃K,K=finKeys p n0 S.mem xs:=⟨_,rfl⟩;have hKn:K.Nodup:=by rw[hK];exact Fi ..
 have hKl:∀k,k<n0→K[k]?=some k:=fun k h=>by rw[hK];exact Jo _ _ _ _ h
 simp only[←hK]at h;clear hK;have rT:Rel φ G {S with n:=xs.length,env:=entryEnv 0 xs} {tmps:=vs.toArray,defers:=G.dv} w:=by
  refine⟨by simp[hl],rfl,fun t x ht=>?_,hm,hg⟩;obtain⟨j,rfl,hj⟩:=vC 0 xs t _ ht;have gS:j<vs.length:=by rw[←hl];exact (List.getElem?_eq_some_iff.1 hj).1
  have e:vs.toArray.getD (0+j) undef=vs[j]:=by simp[gS]
  simp only[e];exact hx j x _ hj (by simp[gS])
 obtain⟨S2,WD⟩:∃S2,S2=finTrim p K {S with n:=xs.length,env:=entryEnv 0 xs}:=⟨_,rfl⟩;have ht:dY {S with n:=xs.length,env:=entryEnv 0 xs} S2:=by rw[WD];exact BP ..
 have WE:fR S2.env=(List.range' 0 xs.length).map fun j=>(j,true):=by
  rw[WD,finTrim,BQ];exact BR 0 xs
 rw[←WD]at h;clear WD;obtain⟨φ2,iS,cw⟩:=ht.2.2 φ G _ w rT;unfold finOut at h;split at h
 ·rename_i dV;simp only[Option.some.injEq,Prod.mk.injEq]at h;obtain⟨rfl,rfl⟩:=h;have jx:=iS.mem;have WG:∀k∈K,(Mem.get S2.mem k).isSome=true:=by simpa using dV
  obtain⟨s1,s2,s3⟩:=yU (G1:=G) (ρ:=K) (bor:=fun _=>true) (nv:=nvX n0) jx hKn WG (fun b h=>.inl h) (fun b h=>jx.j9 b h.own)
   (fun k e L b hg _ _ hL ho=>jx.j9 _ ⟨e,(Mem.get_mem hg).1,L,by rw[(Mem.get_mem hg).2];exact hL,ho⟩)
  have AA:=hk.trans cw;refine⟨φ2.hY K (nvX n0),_,rfl,s1,⟨?_,AA.xh,?_,AA.size,AA.os,AA.tape,AA.output⟩,?_,?_,?_⟩
  ·intro k L hL;obtain⟨hkn,aA⟩:=pa k L hL;obtain⟨L2,h1,h2,h3⟩:=AA.le k L hL;refine⟨{L2 with aj:=nvX n0 k L2.aj},by simp[bQ.hY,hKl k hkn,h1],by simp[aA],fun he=>?_⟩;simp only[nvX,hkn,if_true,aA]at he;split at he
   ·rename_i h0;have h4:=h3 (by rw[aA];exact h0);have g1:=congrArg Loc.aj h4;have g2:=congrArg Loc.dz h4;have g3:=congrArg Loc.sz h4;have g4:=congrArg Loc.cap h4;have g5:=congrArg Loc.base h4;simp only at g1 g2 g3 g4 g5⊢;rw[g1,g2,g3,g4,g5];simp only[nvX,hkn,if_true,aA]
   ·simp at he
  ·intro b hb ho;exact AA.own b hb ((uz (φ:=φ2) (nv:=nvX n0) (bor:=fun _=>true) WG b).1 ho).own
  ·rw[List.length_map,uA,WE];simp[hl]
  ·intro i y v hy hv;rw[List.getElem?_map]at hy;obtain⟨x,hx2,rfl⟩:=Option.map_eq_some_iff.1 hy;have h5:=J1 S2.env 0 xs.length i WE x hx2;rw[Nat.zero_add]at h5;have h6:=iS.env i x h5;have e:vs.toArray.getD i undef=v:=by simp[hv]
   simp only[e]at h6;exact (s2 x v h6).nrm
  ·intro b hb;have h7:=s3 b hb;rcases h7 with h7|h7
   ·exact .inl h7
   ·rcases Nat.lt_or_ge b w.heap.size with h8|h8
    ·exact .inr (cw.own b h8 h7)
    ·exact absurd (jx.Bw h7) (by omega)
 ·cases h
def keyTop:AV→List Nat
 | .ptr k _ _=>[k]
 | .vec k _ _ _=>[k]
 | .cF k _ _ _=>[k]
 |_=>[]
def keysTop(S:St):List Operand→List Nat
 |[]=>[]
 |x::r=>keyTop (S.opd x).2++keysTop S r
def topsOf(S:St):Op→List Nat
 | .move _=>[]
 | .assign _=>[]
 |op=>keysTop S op.operands.toList
def touch(S:St)(o:Oper):List Nat:=keyOf o::topsOf S o.op
theorem zY{S:St}:∀{l:List Operand}{x:Operand},x∈l→∀k∈keyTop (S.opd x).2,k∈keysTop S l
 |[],x,h,_,_=>by simp at h
 |y::r,x,h,k,hk=>by
  simp only[keysTop,List.mem_append];rcases List.mem_cons.1 h with rfl|h
  ·exact .inl hk
  ·exact .inr (zY h k hk)
section
variable {P:Program} {m m':Mem}
theorem Q1{t p}(h:∀k∈keyTop p,Mem.get m' k=Mem.get m k):loadR P m' t p=loadR P m t p:=by
 cases p<;>simp_all [loadR,keyTop]
theorem tP{sz x}(h:∀k∈keyTop x,Mem.get m' k=Mem.get m k):srcRows m' sz x=srcRows m sz x:=by
 cases x with
 |vec k aj off len=>simp only[srcRows,h k (by simp[keyTop])]
 |d x=>cases x<;>rfl
 |lit v=>unfold srcRows;split<;>simp_all
 |_=>rfl
theorem Oe{t p x}(h:∀k∈keyTop p,Mem.get m' k=Mem.get m k):storeR P m' t p x=storeR P m t p x:=by
 cases p<;>simp_all [storeR,keyTop]
theorem Of{s f p}(h:∀k∈keyTop p,Mem.get m' k=Mem.get m k):fieldRm P m' s f p=fieldRm P m s f p:=by
 cases p<;>simp_all [fieldRm,keyTop]
theorem Fj{p}(h:∀k∈keyTop p,Mem.get m' k=Mem.get m k):nilCheckR m' p=nilCheckR m p:=by
 cases p<;>simp_all [nilCheckR,keyTop]
theorem Og{t p i}(h:∀k∈keyTop p,Mem.get m' k=Mem.get m k):indexR P m' t p i=indexR P m t p i:=by
 cases p with
 |vec k aj off len=>simp only[indexR,h k (by simp[keyTop])]
 |ptr k aj off=>simp only[indexR,h k (by simp[keyTop])]
 |cF k aj i j=>simp only[indexR,h k (by simp[keyTop])]
 |d x=>cases x<;>rfl
 |_=>rfl
theorem Oh{t p lo hi}(h:∀k∈keyTop p,Mem.get m' k=Mem.get m k):sliceR P m' t p lo hi=sliceR P m t p lo hi:=by
 cases p with
 |cF k aj i j=>simp only[sliceR,h k (by simp[keyTop])]
 |vec k aj off len=>simp only[sliceR,h k (by simp[keyTop])]
 |ptr k aj off=>simp only[sliceR,h k (by simp[keyTop])]
 |d x=>cases x<;>rfl
 |_=>rfl
theorem Ut{k c cs}(h:Mem.get m' k=Mem.get m k):boxR m' k c cs=boxR m k c cs:=by simp only[boxR,h]
theorem Oi{k t}(h:Mem.get m' k=Mem.get m k):allocR P m' k t=allocR P m k t:=by simp only[allocR,arrR,boxR,h]
theorem Q2{k s d x}(h:Mem.get m' k=Mem.get m k)(hx:∀k∈keyTop x,Mem.get m' k=Mem.get m k):convR P m' k s d x=convR P m k s d x:=by
 have e:=tP (m:=m) (m':=m') (sz:=1) hx;cases htd:tk P d<;>cases x with
 |d x=>cases x<;>simp only[convR,htd,e,h]
 |_=>simp only[convR,htd,e]
theorem Q3{k s d x}(h:Mem.get m' k=Mem.get m k)(hx:∀k∈keyTop x,Mem.get m' k=Mem.get m k):convM P m' k s d x=convM P m k s d x:=by
 have e:=Q2 (P:=P) (s:=s) (d:=d) h hx;cases x with
 |vec k1 aj off len=>simp only[convM,e,hx k1 (by simp[keyTop])]
 |_=>simp only[convM,e]
theorem Q4{k t l c}(h:Mem.get m' k=Mem.get m k):makeR P m' k t l c=makeR P m k t l c:=by simp only[makeR,h]
theorem BS{k t n ps}(h:Mem.get m' k=Mem.get m k):buildSliceR P m' k t n ps=buildSliceR P m k t n ps:=by simp only[buildSliceR,buildSlice0,h]
theorem Uu{t x}(h:∀k∈keyTop x,Mem.get m' k=Mem.get m k):lenRm P m' t x=lenRm P m t x:=by
 cases x with
 |vec k aj off len=>simp only[lenRm,h k (by simp[keyTop])]
 |d x=>cases x<;>rfl
 |lit v=>unfold lenRm;split<;>simp_all
 |_=>rfl
theorem Uv{u sz im zd s x}(hs:∀k∈keyTop s,Mem.get m' k=Mem.get m k)(hx:∀k∈keyTop x,Mem.get m' k=Mem.get m k):appV P m' u sz im zd s x=appV P m u sz im zd s x:=by
 cases s with
 |vec k aj off len=>
  cases x with
  |vec kx vx ox lx=>
   match ox,lx with
   |0,1=>simp only[appV,hs k (by simp[keyTop]),hx kx (by simp[keyTop])]
   |0,0=>rfl
   |0,_+2=>rfl
   |_+1,_=>rfl
  |_=>rfl
 |_=>rfl
theorem Uw{P:Program}{m:Mem}{u:TypeId}{sz im:Nat}{zd:D}{s x:AV}{c:Bool}{k v off n:Nat}{e:cI}(h:appV P m u sz im zd s x=.cZ c (.vec k v off n) e):k∈keyTop s:=by
 unfold appV at h;split at h
 ·split at h
  ·cases h;simp[keyTop]
  ·cases h
 ·cases h
theorem Ux{k t u s x}(h:Mem.get m' k=Mem.get m k)(hs:∀k∈keyTop s,Mem.get m' k=Mem.get m k)(hx:∀k∈keyTop x,Mem.get m' k=Mem.get m k):appR P m' k t u s x=appR P m k t u s x:=by
 unfold appR appSrc;simp only[tP hx,h,Uv hs hx];cases s with
 |vec k aj off len=>simp only[hs k (by simp[keyTop])]
 |lit v=>
  cases v with
  |slice ao n c=>cases ao<;>cases n<;>cases c<;>simp only
  |_=>rfl
 |_=>rfl
theorem Uy{P:Program}{m:Mem}{k0:Nat}{t u:TypeId}{s x:AV}{c:Bool}{k v off n:Nat}{e:cI}(h:appR P m k0 t u s x=.cZ c (.vec k v off n) e):k=k0∨k∈keyTop s:=by
 unfold appR at h;split at h
 ·split at h
  ·split at h
   ·split at h
    ·split at h
     ·cases h;right;simp[keyTop]
     ·cases h
    ·split at h
     ·cases h;left;rfl
     ·cases h
    ·cases h
   ·exact .inr (Uw h)
  ·cases h
 ·cases h
theorem Q5{P:Program}{m m':Mem}{k t u s x}(h:Mem.get m' k=Mem.get m k)(hs:∀k∈keyTop s,Mem.get m' k=Mem.get m k)(hx:∀k∈keyTop x,Mem.get m' k=Mem.get m k):
 fzRes m' (Mem.get m' k).isSome k (appR P m' k t u s x)=fzRes m (Mem.get m k).isSome k (appR P m k t u s x):=by
 rw[Ux h hs hx,h];unfold fzRes;generalize hr:appR P m k t u s x=r;split
 ·rename_i c k1 v n k' v' sz rows;have hk:Mem.get m' k1=Mem.get m k1:=by
   rcases Uy hr with rfl|hk
   ·exact h
   ·exact hs _ hk
  rw[hk]
 ·rfl
theorem Eb{k t x}(h:Mem.get m' k=Mem.get m k):moveR P m' k t x=moveR P m k t x:=by
 unfold moveR;simp only[h]
theorem Uz{neg t x v}(h:∀k∈keyTop x,Mem.get m' k=Mem.get m k):nilR P m' neg t x v=nilR P m neg t x v:=by
 cases x with
 |vec k aj off len=>unfold nilR;simp only[h k (by simp[keyTop])]
 |ptr k aj off=>unfold nilR;simp only[h k (by simp[keyTop])]
 |d x=>unfold nilR;cases x with
  |list xs=>cases xs<;>rfl
  |_=>rfl
 |lit u=>unfold nilR;cases u with
  |slice ao n c=>cases ao<;>cases n<;>cases c<;>rfl
  |pointer a=>cases a<;>rfl
  |_=>rfl
 |_=>rfl
theorem Q6{t s x}(hs:∀k∈keyTop s,Mem.get m' k=Mem.get m k)(hx:∀k∈keyTop x,Mem.get m' k=Mem.get m k):copyR P m' t s x=copyR P m t s x:=by
 unfold copyR;simp only[tP hx];cases s with
 |vec k aj off len=>simp only[hs k (by simp[keyTop])]
 |_=>rfl
end
theorem Ec{P:Program}{S S':St}{o:Oper}(hx:∀x∈o.op.operands.toList,S'.opd x=S.opd x)(hk:∀k∈touch S o,Mem.get S'.mem k=Mem.get S.mem k):stepv P S' o=stepv P S o:=by
 have nG:Mem.get S'.mem (keyOf o)=Mem.get S.mem (keyOf o):=hk _ (by simp[touch]);have uv:match o.op with
  | .move _=>True
  | .assign _=>True
  |op=>∀x∈op.operands.toList,∀k∈keyTop (S.opd x).2,Mem.get S'.mem k=Mem.get S.mem k:=by
  unfold touch at hk;generalize o.op=op at hk;cases op<;>first|trivial|exact fun x gr k nE=>hk k (List.mem_cons_of_mem _ (zY gr k nE))
 have UA:∀(l:List Operand),(∀x∈l,S'.opd x=S.opd x)→l.map (fun x=>(S'.opd x).2)=l.map (fun x=>(S.opd x).2):=fun l hl=>List.map_congr_left (fun x gr=>by rw[hl x gr]);have WH:∀(l:List (Nat×Operand)),(∀x∈l,S'.opd x.2=S.opd x.2)→l.map (fun x=>(x.1,(S'.opd x.2).2))=l.map (fun x=>(x.1,(S.opd x.2).2)):=fun l hl=>List.map_congr_left (fun x gr=>by rw[hl x gr]);unfold stepv;generalize cU:o.op=op at hx uv;cases op with
 |move x=>simp only[hx x (by simp[Op.operands]),Eb nG]
 |assign x=>simp only[hx x (by simp[Op.operands]),Eb nG]
 |pick c a b=>simp only[hx c (by simp[Op.operands]),hx a (by simp[Op.operands]),hx b (by simp[Op.operands])]
 |alloc t=>simp only[Oi nG]
 |box t x=>simp only[hx x (by simp[Op.operands]),Ut nG]
 |load t x=>simp only[hx x (by simp[Op.operands]),Q1 (uv x (by simp[Op.operands]))]
 |store t p x=>simp only[hx x (by simp[Op.operands]),hx p (by simp[Op.operands]),Oe (uv p (by simp[Op.operands]))]
 |fieldAddr s x f=>simp only[hx x (by simp[Op.operands]),Of (uv x (by simp[Op.operands]))]
 |nilCheck x=>simp only[hx x (by simp[Op.operands]),Fj (uv x (by simp[Op.operands]))]
 |indexAddr t x i=>simp only[hx x (by simp[Op.operands]),hx i (by simp[Op.operands]),Og (uv x (by simp[Op.operands]))]
 |index t x i=>simp only[hx x (by simp[Op.operands]),hx i (by simp[Op.operands])]
 |slice t x lo hi mx=>
  cases mx with
  |none=>
   have cJ:lo.map (fun y=>(S'.opd y).2)=lo.map (fun y=>(S.opd y).2):=by cases lo with|none=>rfl|some y=>simp[hx y (by simp[Op.operands])]
   have nC:hi.map (fun y=>(S'.opd y).2)=hi.map (fun y=>(S.opd y).2):=by cases hi with|none=>rfl|some y=>simp[hx y (by simp[Op.operands])]
   simp only[hx x (by simp[Op.operands]),cJ,nC,Oh (uv x (by simp[Op.operands]))]
  |some _=>rfl
 |binOp op t x y t'=>
  have e1:=hx x (by simp[Op.operands]);have e2:=hx y (by simp[Op.operands]);have nE:=uv x (by simp[Op.operands]);simp only
  unfold binOpR;cases y with
  |const v=>simp only[e1,Uz nE];rfl
  |_=>simp only[e1,e2]
 |unOp op t x=>simp only[hx x (by simp[Op.operands])]
 |convert s d x=>simp only[hx x (by simp[Op.operands]),Q3 nG (uv x (by simp[Op.operands]))]
 |makeInterface t x=>simp only[hx x (by simp[Op.operands])]
 |makeFunc f first cap=>simp only[UA cap.toList (fun x gr=>hx x (by simp[Op.operands];right;simpa using gr)),UA first.toList (fun x gr=>hx x (by simp[Op.operands];left;simpa using gr))]
 |makeSlice t l c=>simp only[hx l (by simp[Op.operands]),hx c (by simp[Op.operands]),Q4 nG]
 |build t ps=>simp only[WH ps.toList (fun x gr=>hx x.2 (by simp only[Op.operands,List.toList_toArray,List.mem_map];exact⟨x,gr,rfl⟩))]
 |buildSlice t n ps=>simp only[WH ps.toList (fun x gr=>hx x.2 (by simp only[Op.operands,List.toList_toArray,List.mem_map];exact⟨x,gr,rfl⟩)),BS nG]
 |extract x i=>simp only[hx x (by simp[Op.operands])]
 |field s x f=>simp only[hx x (by simp[Op.operands])]
 |typeAssert x xt t ok=>simp only[hx x (by simp[Op.operands])]
 |call c=>
  obtain⟨callee,args,hZ⟩:=c;cases callee with
  |builtin b=>
   have ha:∀x∈args.toList,S'.opd x=S.opd x:=fun x gr=>hx x (by simp[Op.operands,Call.operands];simpa using gr);have Ed:∀x∈args.toList,∀k∈keyTop (S.opd x).2,Mem.get S'.mem k=Mem.get S.mem k:=fun x gr=>uv x (by simp[Op.operands,Call.operands];simpa using gr);simp only
   unfold builtinR;have em:=UA args.toList ha;generalize args.toList=al at ha Ed em;generalize hZ.toList=tl;split
   ·rename_i x t;simp only[ha x (by simp),Uu (Ed x (by simp))]
   ·rename_i s x t u;simp only[ha x (by simp),ha s (by simp),Q5 nG (Ed s (by simp)) (Ed x (by simp))]
   ·rename_i s x t u;simp only[ha x (by simp),ha s (by simp),Q6 (Ed s (by simp)) (Ed x (by simp))]
   ·simp only[em]
   ·simp only[em]
   ·rename_i x t;simp only[ha x (by simp)]
   ·rfl
  |_=>rfl
 |_=>rfl
structure aU where
 ks:List Nat
 es:List cI
 g:Bool
 x:AV
def aU.app(p:aU)(o:Oper)(S:St):St:=({S with mem:=putAll S.mem p.es}:St).put o.dst p.g p.x
def WI(all:List Oper)(j:Nat):List Nat:=
 match all[j]? with
 |some o=>match o.dst with|some t=>[t]|none=>[]
 |none=>[]
def looks(all:List Oper)(o:Oper):List Nat:=
 (o.op.operands.toList.filterMap fun| .tmp t=>some t|_=>none)++(match o.guard with|some (j,_)=>WI all j|none=>[])
structure j0(all:List Oper)(o:Oper)(ks:List Nat)(S' S:St):Prop where
 n:S'.n=S.n
 gl:S'.gl=S.gl
 keys:S'.mem.map (·.key)=S.mem.map (·.key)
 env:∀t∈looks all o,Env.lk S'.env t=Env.lk S.env t
 mem:∀k∈ks,Mem.get S'.mem k=Mem.get S.mem k
def j6(P:Program)(all:List Oper)(S:St)(o:Oper)(p:aU):Prop:=
 ∀S',j0 all o p.ks S' S→∀φ G a w,Rel φ G S' a w→∀(next:Act→World→Prop)(R:Exit→Act→World→Prop),
  (∀φ' a' w',Rel φ' G (p.app o S') a' w'→aP φ S'.mem w φ' (p.app o S').mem w'→next a' w')→
  if Region.wanted o (yielded all.toArray a.tmps)then o.wp P a w next R else next (a.put o.dst undef) w
def q0(P:Program)(I:Mem→Prop)(all:List Oper)(S:St)(o:Oper)(p:aU):Prop:=
 ∀S',j0 all o p.ks S' S→I S'.mem→∀φ G a w,Rel φ G S' a w→∀(next:Act→World→Prop)(R:Exit→Act→World→Prop),
  (∀φ' a' w',Rel φ' G (p.app o S') a' w'→aP φ S'.mem w φ' (p.app o S').mem w'→next a' w')→
  if Region.wanted o (yielded all.toArray a.tmps)then o.wp P a w next R else next (a.put o.dst undef) w
theorem j6.toI{P:Program}{I:Mem→Prop}{all:List Oper}{S:St}{o:Oper}{p:aU}(h:j6 P all S o p):q0 P I all S o p:=fun S' ha _=>h S' ha
inductive Cert(P:Program)(I:Mem→Prop)(all:List Oper):List Oper→St→List aU→St→Prop
 |nil (S):Cert P I all [] S [] S
 |cons (o rest S p ps S1) (hk:∀e∈p.es,e.key∈p.ks) (hI:∀m,I m→I (putAll m p.es)) (h:q0 P I all S o p) (hr:Cert P I all rest (p.app o S) ps S1):Cert P I all (o::rest) S (p::ps) S1
def eF(o:Oper):List Nat:=(o.after.toList.filter (Region.binds .any)).map (·.on)
def gC:List Oper→List (List Nat)→List (List Nat)
 |[],acc=>acc
 |o::r,acc=>gC r (acc++[((eF o).flatMap fun p=>p::acc.getD p []).eraseDups])
def disj(l r:List Nat):Bool:=l.all fun x=>!r.contains x
def xL(all:List Oper)(o o':Oper)(p p':aU):Bool:=
 disj o.dst.toList (looks all o')&&disj o'.dst.toList (looks all o)&&disj o.dst.toList o'.dst.toList&&disj (p.es.map (·.key)) p'.ks&&disj (p'.es.map (·.key)) p.ks
def Fu(all:List Oper)(ps:List aU)(an:List (List Nat))(j:Nat):Bool:=
 match all[j]?,ps[j]? with
 |some o,some p=>(eF o).all (fun i=>decide (i<j))&&(List.range j).all fun i=>(an.getD j []).contains i||(match all[i]?,ps[i]? with
  |some o',some p'=>xL all o' o p' p
  |_,_=>false)
 |_,_=>false
def mg(all:List Oper)(ps:List aU):Bool:=(List.range all.length).all (Fu all ps (gC all []))
theorem zZ:∀(l:List Oper)(acc:List (List Nat)),∃r,gC l acc=acc++r∧r.length=l.length
 |[],acc=>⟨[],by simp[gC]⟩
 |o::l,acc=>by
  obtain⟨r,h1,h2⟩:=zZ l (acc++[((eF o).flatMap fun p=>p::acc.getD p []).eraseDups]);exact⟨((eF o).flatMap fun p=>p::acc.getD p []).eraseDups::r,by rw[gC,h1,List.append_assoc,List.singleton_append],by simp[h2]⟩
theorem mem_eraseDups{l:List Nat}{x:Nat}:x∈l.eraseDups↔x∈l:=List.mem_eraseDups
theorem Ee:∀(l:List Oper)(acc:List (List Nat))(j:Nat)(o:Oper),l[j]?=some o→(∀p∈eF o,p<acc.length+j)→
 ∀i,i∈(gC l acc).getD (acc.length+j) []↔∃p∈eF o,i=p∨i∈(gC l acc).getD p []
 |[],acc,j,o,h,_=>by simp at h
 |x::l,acc,j,o,h,hp=>by
  simp only[gC];cases j with
  |zero=>
   simp at h;subst h;obtain⟨r,h1,_⟩:=zZ l (acc++[((eF x).flatMap fun p=>p::acc.getD p []).eraseDups]);rw[h1];intro i;have e1:(acc++[((eF x).flatMap fun p=>p::acc.getD p []).eraseDups]++r).getD (acc.length+0) []=((eF x).flatMap fun p=>p::acc.getD p []).eraseDups:=by
    simp[List.getD_eq_getElem?_getD,List.append_assoc]
   rw[e1,mem_eraseDups,List.mem_flatMap];constructor
   ·rintro ⟨p,rX,hi⟩;refine⟨p,rX,?_⟩;have bz:=hp p rX;rcases List.mem_cons.1 hi with rfl|hi
    ·exact .inl rfl
    ·right;rw[List.getD_eq_getElem?_getD]at hi⊢;rw[List.append_assoc,List.getElem?_append_left (by omega)];exact hi
   ·rintro ⟨p,rX,hi⟩;refine⟨p,rX,?_⟩;have bz:=hp p rX;rcases hi with rfl|hi
    ·simp
    ·rw[List.getD_eq_getElem?_getD,List.append_assoc,List.getElem?_append_left (by omega),←List.getD_eq_getElem?_getD]at hi;exact List.mem_cons_of_mem _ hi
  |succ j=>
   have:=Ee l (acc++[((eF x).flatMap fun p=>p::acc.getD p []).eraseDups]) j o (by simpa using h) (fun p rX=>by have:=hp p rX;simp;omega);simp only[List.length_append,List.length_cons,List.length_nil]at this;rw[show acc.length+(j+1)=acc.length+(0+1)+j by omega];exact this
theorem jy{all:List Oper}{L:Nat→Prop}(hp:∀j o,all[j]?=some o→∀p∈eF o,p<j)(hL:∀j o,all[j]?=some o→L j→∀p∈eF o,L p):
 ∀j,(∃o,all[j]?=some o)→∀i,i∈(gC all []).getD j []→i<j∧((∀o,all[j]?=some o→∀p∈eF o,L p)→L i):=by
 intro j;induction j using Nat.strongRecOn with
 |_ j ih=>
  rintro ⟨o,ho⟩ i hi;have hs:=(Ee all [] j o ho (fun p rX=>by simpa using hp j o ho p rX) i);simp only[List.length_nil,Nat.zero_add]at hs;obtain⟨p,rX,h⟩:=hs.1 hi;have sS:=hp j o ho p rX;rcases h with rfl|h
  ·exact⟨sS,fun hh=>hh o ho i rX⟩
  ·have gS:j<all.length:=(List.getElem?_eq_some_iff.1 ho).1;obtain⟨op,cU⟩:∃op,all[p]?=some op:=⟨all[p],by simp[show p<all.length by omega]⟩;obtain⟨h1,h2⟩:=ih p sS ⟨op,cU⟩ i h;exact⟨by omega,fun hh=>h2 (fun o' cq q hq=>hL p o' cq (hh o ho p rX) q hq)⟩
def aG(all:List Oper)(ps:List aU)(S:St)(l:List Nat):St:=
 l.foldl (fun S i=>match all[i]?,ps[i]? with|some o,some p=>p.app o S|_,_=>S) S
theorem sU(p:aU)(o:Oper)(S:St):(p.app o S).n=S.n:=by simp[aU.app,lD]
theorem qc(p:aU)(o:Oper)(S:St):(p.app o S).gl=S.gl:=by cases h:o.dst<;>simp[aU.app,h,St.put]
theorem AB(p:aU)(o:Oper)(S:St):(p.app o S).mem.map (·.key)=S.mem.map (·.key):=by simp[aU.app,ff,jO]
theorem rY(p:aU)(o:Oper)(S:St)(t:Nat):Env.lk (p.app o S).env t=if o.dst=some t then some (p.g,p.x)else Env.lk S.env t:=by
 cases hd:o.dst with
 |none=>simp[aU.app,St.put,hd]
 |some d=>
  by_cases h:d=t
  ·subst h;simp[aU.app,St.put,hd,Env.lk]
  ·simp[aU.app,St.put,hd,Env.lk,h]
theorem wS:∀(es:List cI)(m:Mem)(k:Nat),k∉es.map (·.key)→Mem.get (putAll m es) k=Mem.get m k
 |[],m,k,_=>rfl
 |e::r,m,k,h=>by
  simp only[List.map_cons,List.mem_cons,not_or]at h;rw[putAll,wS r _ k h.2,Mem.nR (fun he=>h.1 he.symm)]
theorem m8:∀(es:List cI)(m m':Mem)(k:Nat),m.map (·.key)=m'.map (·.key)→(k∈es.map (·.key)∨Mem.get m k=Mem.get m' k)→Mem.get (putAll m es) k=Mem.get (putAll m' es) k
 |[],m,m',k,_,h=>by simpa [putAll]using h
 |e::r,m,m',k,hk,h=>by
  simp only[putAll];refine m8 r _ _ k (by rw[Mem.gx,Mem.gx,hk]) ?_;by_cases he:e.key=k
  ·right;subst he;by_cases cD:e.key∈m.map (·.key)
   ·rw[Mem.nQ cD,Mem.nQ (hk▸cD)]
   ·have J2:∀(m:Mem),e.key∉m.map (·.key)→Mem.get (Mem.set m e) e.key=none:=by
     intro m hm;cases hg:Mem.get (Mem.set m e) e.key with
     |none=>rfl
     |some y=>
      obtain⟨h1,h2⟩:=Mem.get_mem hg;have:y.key∈(Mem.set m e).map (·.key):=List.mem_map_of_mem h1;rw[Mem.gx,h2]at this;exact absurd this hm
    rw[J2 m cD,J2 m' (hk▸cD)]
  ·rw[Mem.nR he,Mem.nR he];rcases h with h|h
   ·simp only[List.map_cons,List.mem_cons]at h;rcases h with h|h
    ·exact absurd h.symm he
    ·exact .inl h
   ·exact .inr h
theorem BT(p:aU)(o:Oper)(S:St)(k:Nat)(h:k∉p.es.map (·.key)):Mem.get (p.app o S).mem k=Mem.get S.mem k:=by
 simp only[aU.app,ff];exact wS _ _ _ h
section
variable {all:List Oper} {ps:List aU} {S:St}
theorem nk(l:List Nat):∀(S:St),(aG all ps S l).n=S.n:=by
 induction l with
 |nil=>exact fun _=>rfl
 |cons i l ih=>
  intro S;have e1:aG all ps S (i::l)=aG all ps (aG all ps S [i]) l:=by simp[aG]
  rw[e1,ih];simp only[aG,List.foldl_cons,List.foldl_nil];split
  ·exact sU ..
  ·rfl
theorem lN(l:List Nat):∀(S:St),(aG all ps S l).gl=S.gl:=by
 induction l with
 |nil=>exact fun _=>rfl
 |cons i l ih=>
  intro S;have e1:aG all ps S (i::l)=aG all ps (aG all ps S [i]) l:=by simp[aG]
  rw[e1,ih];simp only[aG,List.foldl_cons,List.foldl_nil];split
  ·exact qc ..
  ·rfl
theorem eG(l:List Nat):∀(S:St),(aG all ps S l).mem.map (·.key)=S.mem.map (·.key):=by
 induction l with
 |nil=>exact fun _=>rfl
 |cons i l ih=>
  intro S;have e1:aG all ps S (i::l)=aG all ps (aG all ps S [i]) l:=by simp[aG]
  rw[e1,ih];simp only[aG,List.foldl_cons,List.foldl_nil];split
  ·exact AB ..
  ·rfl
theorem m9(l l':List Nat)(S:St):aG all ps S (l++l')=aG all ps (aG all ps S l) l':=by simp[aG]
theorem sV(t:Nat)(q:Nat→Bool)(l:List Nat):∀(S S':St),(∀i∈l,∀o,all[i]?=some o→o.dst=some t→q i=true)→Env.lk S.env t=Env.lk S'.env t→Env.lk (aG all ps S l).env t=Env.lk (aG all ps S' (l.filter q)).env t:=by
 induction l with
 |nil=>intro S S' _ h;exact h
 |cons i l ih=>
  intro S S' hq h;have e1:aG all ps S (i::l)=aG all ps (aG all ps S [i]) l:=by simp[aG]
  have oO:∀i'∈l,∀o,all[i']?=some o→o.dst=some t→q i'=true:=fun i' lH=>hq i' (List.mem_cons_of_mem _ lH);rw[e1];by_cases ko:q i=true
  ·rw[List.filter_cons_of_pos ko];have e2:aG all ps S' (i::l.filter q)=aG all ps (aG all ps S' [i]) (l.filter q):=by simp[aG]
   rw[e2];refine ih _ _ oO ?_;simp only[aG,List.foldl_cons,List.foldl_nil];split
   ·rw[rY,rY,h]
   ·exact h
  ·rw[List.filter_cons_of_neg ko];refine ih _ _ oO ?_;simp only[aG,List.foldl_cons,List.foldl_nil];split
   ·rename_i o p ho hp;rw[rY,if_neg (fun hd=>ko (hq i (by simp) o ho hd)),h]
   ·exact h
theorem mh(k:Nat)(q:Nat→Bool)(l:List Nat):∀(S S':St),(∀i∈l,∀p,ps[i]?=some p→k∈p.es.map (·.key)→q i=true)→S.mem.map (·.key)=S'.mem.map (·.key)→Mem.get S.mem k=Mem.get S'.mem k→Mem.get (aG all ps S l).mem k=Mem.get (aG all ps S' (l.filter q)).mem k:=by
 induction l with
 |nil=>intro S S' _ _ h;exact h
 |cons i l ih=>
  intro S S' hq hk h;have e1:aG all ps S (i::l)=aG all ps (aG all ps S [i]) l:=by simp[aG]
  have oO:∀i'∈l,∀p,ps[i']?=some p→k∈p.es.map (·.key)→q i'=true:=fun i' lH=>hq i' (List.mem_cons_of_mem _ lH);rw[e1];by_cases ko:q i=true
  ·rw[List.filter_cons_of_pos ko];have e2:aG all ps S' (i::l.filter q)=aG all ps (aG all ps S' [i]) (l.filter q):=by simp[aG]
   rw[e2];refine ih _ _ oO (by rw[eG,eG,hk]) ?_;simp only[aG,List.foldl_cons,List.foldl_nil];split
   ·simp only[aU.app,ff];exact m8 _ _ _ k hk (.inr h)
   ·exact h
  ·rw[List.filter_cons_of_neg ko];refine ih _ _ oO (by rw[eG,hk]) ?_;simp only[aG,List.foldl_cons,List.foldl_nil];split
   ·rename_i o p ho hp;rw[BT _ _ _ _ (fun hd=>ko (hq i (by simp) p hp hd)),h]
   ·exact h
end
structure gD(S' S:St):Prop where
 n:S'.n=S.n
 gl:S'.gl=S.gl
 mem:S'.mem=S.mem
 env:∀t,Env.lk S'.env t=Env.lk S.env t
theorem Rel.eqv{φ G S S' a w}(h:Rel φ G S' a w)(he:gD S' S):Rel φ G S a w:=
 ⟨by rw[←he.n];exact h.size,h.defers,fun t x hx=>by rw[←he.mem];exact h.env t x (by rw[he.env];exact hx),by rw[←he.mem];exact h.mem,by rw[←he.gl,←he.mem];exact h.ka⟩
theorem Mem.ext{m m':Mem}(hn:(m.map (·.key)).Nodup)(hk:m.map (·.key)=m'.map (·.key))(h:∀k,Mem.get m k=Mem.get m' k):m=m':=by
 induction m generalizing m' with
 |nil=>cases m' with|nil=>rfl|cons _ _=>simp at hk
 |cons e r ih=>
  cases m' with
  |nil=>simp at hk
  |cons e' r'=>
   simp only[List.map_cons,List.cons.injEq]at hk;simp only[List.map_cons,List.nodup_cons]at hn;have h0:=h e.key;simp only[Mem.get,if_true,hk.1]at h0;cases h0;congr 1;refine ih hn.2 hk.2 fun k=>?_;have:=h k;simp only[Mem.get]at this;by_cases he:e.key=k
   ·subst he;have nn:∀{r:Mem},e.key∉r.map (·.key)→Mem.get r e.key=none:=by
     intro r hr;cases hg:Mem.get r e.key with
     |none=>rfl
     |some y=>obtain⟨h1,h2⟩:=Mem.get_mem hg;exact absurd (h2▸List.mem_map_of_mem h1) hr
    rw[nn hn.1,nn (by rw[←hk.2];exact hn.1)]
   ·simpa [he]using this
def ia(n:Nat)(f:Nat→Bool):List Nat:=(List.range n).filter f
theorem z6{j n:Nat}(h:j<n):List.range n=List.range j++j::List.range' (j+1) (n-j-1):=by
 have h2:(j::List.range' (j+1) (n-j-1))=List.range' j (n-j):=by
  rw[show n-j=(n-j-1)+1 by omega,List.range'_succ];simp
 rw[h2,List.range_eq_range',List.range_eq_range'];rw[show List.range' 0 n=List.range' 0 (j+(n-j)) by rw[show j+(n-j)=n by omega]];rw[←List.range'_append_1];simp
theorem xM{j n:Nat}{f:Nat→Bool}(h:j<n)(hf:f j=false):ia n f=(List.range j).filter f++(List.range' (j+1) (n-j-1)).filter f:=by
 rw[ia,z6 h,List.filter_append,List.filter_cons_of_neg (by simp[hf])]
theorem Oj{j n:Nat}{f g:Nat→Bool}(h:j<n)(hg:g j=true)(bK:∀i,i≠j→g i=f i):ia n g=(List.range j).filter f++j::(List.range' (j+1) (n-j-1)).filter f:=by
 rw[ia,z6 h,List.filter_append,List.filter_cons_of_pos hg];congr 1
 ·exact List.filter_congr fun i hi=>bK i (by have:=List.mem_range.1 hi;omega)
 ·congr 1;exact List.filter_congr fun i hi=>bK i (by have:=List.mem_range'_1.1 hi;omega)
theorem qd{l r:List Nat}(h:disj l r=true){x:Nat}(hl:x∈l)(hr:x∈r):False:=by
 have:=List.all_eq_true.1 h x hl;simp at this;exact this hr
structure BU(all:List Oper)(o o':Oper)(p p':aU):Prop where
 a:∀t,o.dst=some t→t∉looks all o'
 b:∀t,o'.dst=some t→t∉looks all o
 c:∀t,o.dst=some t→o'.dst≠some t
 d:∀k∈p.es.map (·.key),k∉p'.ks
 e:∀k∈p'.es.map (·.key),k∉p.ks
theorem Jp{all o o' p p'}(h:xL all o o' p p'=true):BU all o o' p p':=by
 simp only[xL,Bool.and_eq_true]at h;obtain⟨⟨⟨⟨h1,h2⟩,h3⟩,h4⟩,h5⟩:=h;exact⟨fun t ht hl=>qd h1 (by simp[ht]) hl,fun t ht hl=>qd h2 (by simp[ht]) hl,fun t ht hl=>qd h3 (x:=t) (by simp[ht]) (by simp[hl]),fun k hk hl=>qd h4 hk hl,fun k hk hl=>qd h5 hk hl⟩
section
variable {all:List Oper} {ps:List aU}
theorem eu(h:mg all ps=true){j:Nat}{o:Oper}(ho:all[j]?=some o):∃p,ps[j]?=some p∧(∀i∈eF o,i<j)∧
 ∀i,i<j→i∈(gC all []).getD j []∨∃o' p',all[i]?=some o'∧ps[i]?=some p'∧BU all o' o p' p:=by
 have hj:j<all.length:=(List.getElem?_eq_some_iff.1 ho).1;have h1:=List.all_eq_true.1 h j (List.mem_range.2 hj);unfold Fu at h1;rw[ho]at h1;cases hp:ps[j]? with
 |none=>rw[hp]at h1;simp at h1
 |some p=>
  rw[hp]at h1;simp only[Bool.and_eq_true,List.all_eq_true,decide_eq_true_eq,Bool.or_eq_true,List.mem_range]at h1;refine⟨p,rfl,h1.1,fun i hi=>?_⟩;rcases h1.2 i hi with h2|h2
  ·exact .inl (by simpa using h2)
  ·right;split at h2
   ·rename_i o' p' cq lE;exact⟨o',p',cq,lE,Jp h2⟩
   ·cases h2
theorem Cert.at{P:Program}{I:Mem→Prop}{rest:List Oper}{S0 S:St}{qs:List aU}{S1:St}(h:Cert P I all rest S qs S1):∀(pre:List Oper)(pp:List aU),pre.length=pp.length→all=pre++rest→ps=pp++qs→aG all ps S0 (List.range pre.length)=S→
 aG all ps S0 (List.range all.length)=S1∧ps.length=all.length∧∀j o p,pre.length≤j→all[j]?=some o→ps[j]?=some p→(∀e∈p.es,e.key∈p.ks)∧(∀m,I m→I (putAll m p.es))∧q0 P I all (aG all ps S0 (List.range j)) o p:=by
 induction h with
 |nil S=>
  intro pre pp hl ha jW hS;simp only[List.append_nil]at ha jW;subst ha jW;refine⟨hS,hl.symm,fun j o p hj ho _=>?_⟩;rw[List.getElem?_eq_none (by omega)]at ho;cases ho
 |cons o rest S p qs S1 hk hI de hr ih=>
  intro pre pp hl ha jW hS;have e1:all[pre.length]?=some o:=by rw[ha];simp
  have e2:ps[pre.length]?=some p:=by rw[jW,hl];simp
  obtain⟨h1,h2,h3⟩:=ih (pre++[o]) (pp++[p]) (by simp[hl]) (by rw[ha];simp) (by rw[jW];simp) (by
   rw[List.length_append,List.length_singleton,List.range_succ,m9,hS];simp[aG,e1,e2])
  refine⟨h1,h2,fun j o' p' hj cq lE=>?_⟩;rcases Nat.eq_or_lt_of_le hj with rfl|hj
  ·rw[e1]at cq;rw[e2]at lE;cases cq;cases lE;exact⟨hk,hI,by rw[hS];exact de⟩
  ·exact h3 j o' p' (by simp;omega) cq lE
variable {S:St} {f:Nat→Bool}
def nZ(all:List Oper)(f:Nat→Bool):Prop:=∀j o,all[j]?=some o→f j=true→∀p∈eF o,f p=true
theorem pM(hlen:ps.length=all.length)(cH:mg all ps=true)(aO:nZ all f){j:Nat}{o:Oper}{p:aU}(ho:all[j]?=some o)(hp:ps[j]?=some p)(hj:f j=false)(jL:∀i∈eF o,f i=true):
 j0 all o p.ks (aG all ps S (ia all.length f)) (aG all ps S (List.range j)):=by
 have bz:j<all.length:=(List.getElem?_eq_some_iff.1 ho).1;have dF:∀j o,all[j]?=some o→∀p∈eF o,p<j:=fun j o ho=>(eu cH ho).choose_spec.2.1;obtain⟨p0,Gy,_,WJ⟩:=eu cH ho;rw[hp]at Gy;cases Gy
 --ak9 arZ ahead of j is listed
 have Gz:∀i∈(gC all []).getD j [],i<j∧f i=true:=fun i hi=>by
  obtain⟨h1,h2⟩:=jy (L:=fun i=>f i=true) dF (fun j o ho hf=>aO j o ho hf) j ⟨o,ho⟩ i hi;exact⟨h1,h2 fun o' cq=>by rw[ho]at cq;cases cq;exact jL⟩
 let q:Nat→Bool:=fun i=>(gC all []).getD j [] |>.contains i
 have hq:∀i,q i=true↔i∈(gC all []).getD j []:=fun i=>by simp[q]
 --any other listed one,and any other ahead in zO text,is apart
 have uq:∀i,(i<j∨(j<i∧f i=true))→q i=false→∀oi pi,all[i]?=some oi→ps[i]?=some pi→BU all oi o pi p∨BU all o oi p pi:=by
  rintro i (hi|⟨hi,ki⟩) ko oi pi ib jz
  ·rcases WJ i hi with h|⟨o',p',cq,lE,h⟩
   ·rw[(hq i).2 h]at ko;cases ko
   ·rw[ib]at cq;rw[jz]at lE;cases cq;cases lE;exact .inl h
  ·obtain⟨pi',GA,_,UB⟩:=eu cH ib;rw[jz]at GA;cases GA;rcases UB j hi with h|⟨o',p',cq,lE,h⟩
   ·have:=(jy (L:=fun i=>f i=true) dF (fun j o ho hf=>aO j o ho hf) i ⟨oi,ib⟩ j h).2 (fun o' cq=>by rw[ib]at cq;cases cq;exact aO i oi ib ki);simp[hj]at this
   ·rw[ho]at cq;rw[hp]at lE;cases cq;cases lE;exact .inr h
 have yW:(ia all.length f).filter q=(List.range j).filter q:=by
  rw[xM bz hj,List.filter_append,List.filter_filter,List.filter_filter];have:(List.range' (j+1) (all.length-j-1)).filter (fun a=>q a&&f a)=[]:=by
   rw[List.filter_eq_nil_iff];intro i hi;have:=(List.mem_range'_1.1 hi).1;simp only[Bool.and_eq_true,not_and];intro ko;have:=(Gz i ((hq i).1 ko)).1;omega
  rw[this,List.append_nil];refine List.filter_congr fun i hi=>?_;cases ko:q i with
  |false=>rfl
  |true=>simp[(Gz i ((hq i).1 ko)).2]
 have hl:∀i∈ia all.length f,i<j∨(j<i∧f i=true):=fun i hi=>by
  have ki:=(List.mem_filter.1 hi).2;rcases Nat.lt_trichotomy i j with h|h|h
  ·exact .inl h
  ·subst h;simp[hj]at ki
  ·exact .inr ⟨h,ki⟩
 have hr:∀i∈List.range j,i<j∨(j<i∧f i=true):=fun i hi=>.inl (List.mem_range.1 hi);refine⟨by rw[nk,nk],by rw[lN,lN],by rw[eG,eG],fun t ht=>?_,fun k hk=>?_⟩
 ·have key:∀l:List Nat,(∀i∈l,i<j∨(j<i∧f i=true))→∀i∈l,∀oi,all[i]?=some oi→oi.dst=some t→q i=true:=by
   intro l hl i hi oi ib hd;cases ko:q i with
   |true=>rfl
   |false=>
    obtain⟨pi,jz,_⟩:=eu cH ib;rcases uq i (hl i hi) ko oi pi ib jz with h|h
    ·exact absurd ht (h.a t hd)
    ·exact absurd ht (h.b t hd)
  rw[sV t q _ S S (key _ hl) rfl,sV t q (List.range j) S S (key _ hr) rfl,yW]
 ·have key:∀l:List Nat,(∀i∈l,i<j∨(j<i∧f i=true))→∀i∈l,∀pi,ps[i]?=some pi→k∈pi.es.map (·.key)→q i=true:=by
   intro l hl i hi pi jz hd;cases ko:q i with
   |true=>rfl
   |false=>
    have iA:i<ps.length:=(List.getElem?_eq_some_iff.1 jz).1;cases ib:all[i]? with
    |none=>
     rw[List.getElem?_eq_none_iff]at ib;omega
    |some oi=>
     rcases uq i (hl i hi) ko oi pi ib jz with h|h
     ·exact absurd hk (h.d k hd)
     ·exact absurd hk (h.e k hd)
  rw[mh k q _ S S (key _ hl) rfl rfl,mh k q (List.range j) S S (key _ hr) rfl rfl,yW]
theorem vE(hlen:ps.length=all.length)(cH:mg all ps=true)(aO:nZ all f)(hU:∀(j:Nat) (p:aU),ps[j]?=some p→∀e∈p.es,e.key∈p.ks)(xN:(S.mem.map (·.key)).Nodup){j:Nat}{o:Oper}{p:aU}(ho:all[j]?=some o)(hp:ps[j]?=some p)(hj:f j=false){g:Nat→Bool}(hg:g j=true)(hgf:∀i,i≠j→g i=f i):
 gD (p.app o (aG all ps S (ia all.length f))) (aG all ps S (ia all.length g)):=by
 have bz:j<all.length:=(List.getElem?_eq_some_iff.1 ho).1;have dF:∀j o,all[j]?=some o→∀p∈eF o,p<j:=fun j o ho=>(eu cH ho).choose_spec.2.1;have Ok:∀i∈(List.range' (j+1) (all.length-j-1)).filter f,∀oi pi,all[i]?=some oi→ps[i]?=some pi→BU all o oi p pi:=by
  intro i hi oi pi ib jz;obtain⟨hi,ki⟩:=List.mem_filter.1 hi;have qe:=(List.mem_range'_1.1 hi).1;obtain⟨pi',GA,_,UB⟩:=eu cH ib;rw[jz]at GA;cases GA;rcases UB j (by omega)with h|⟨o',p',cq,lE,h⟩
  ·have:=(jy (L:=fun i=>f i=true) dF (fun j o ho hf=>aO j o ho hf) i ⟨oi,ib⟩ j h).2 (fun o' cq=>by rw[ib]at cq;cases cq;exact aO i oi ib ki);simp[hj]at this
  ·rw[ho]at cq;rw[hp]at lE;cases cq;cases lE;exact h
 rw[Oj bz hg hgf,xM bz hj];generalize Q7:(List.range j).filter f=L1;generalize dX:(List.range' (j+1) (all.length-j-1)).filter f=L2 at Ok;have ala:∀i∈L1++L2,i≠j:=by
  intro i hi;rw[←Q7,←dX]at hi;rcases List.mem_append.1 hi with h|h
  ·have:=List.mem_range.1 (List.mem_filter.1 h).1;omega
  ·have:=(List.mem_range'_1.1 (List.mem_filter.1 h).1).1;omega
 have abu:∀{i pi},ps[i]?=some pi→∃oi,all[i]?=some oi:=fun {i pi} h=>by
  have:=(List.getElem?_eq_some_iff.1 h).1;exact⟨all[i]'(by omega),List.getElem?_eq_getElem _⟩
 let q:Nat→Bool:=fun i=>i != j
 have hf1:(L1++j::L2).filter q=L1++L2:=by
  rw[List.filter_append,List.filter_cons_of_neg (by simp[q]),←List.filter_append,List.filter_eq_self];intro i hi;simpa [q]using ala i hi
 have kQ:∀S,aG all ps S (L1++j::L2)=aG all ps (p.app o (aG all ps S L1)) L2:=fun S=>by
  rw[m9];simp[aG,ho,hp]
 have mi:(p.app o (aG all ps S (L1++L2))).mem.map (·.key)=(aG all ps S (L1++j::L2)).mem.map (·.key):=by
  rw[AB,eG,eG]
 refine⟨by rw[sU,nk,nk],by rw[qc,lN,lN],Mem.ext (by rw[AB,eG];exact xN) mi fun k=>?_,fun t=>?_⟩
 ·by_cases hk:k∈p.es.map (·.key)
  ·have h1:Mem.get (p.app o (aG all ps S (L1++L2))).mem k=Mem.get (p.app o (aG all ps S L1)).mem k:=by
    simp only[aU.app,ff];exact m8 _ _ _ k (by rw[eG,eG]) (.inl hk)
   rw[h1,kQ];rw[mh k (fun _=>false) L2 _ (p.app o (aG all ps S L1)) ?_ rfl rfl]
   ·rw[List.filter_eq_nil_iff.2 (by simp)];rfl
   ·intro i hi pi jz kp;obtain⟨oi,ib⟩:=abu jz;have:=(Ok i hi oi pi ib jz).e k kp;obtain⟨e,he,rfl⟩:=List.mem_map.1 hk;exact absurd (hU j p hp e he) this
  ·rw[BT _ _ _ _ hk,mh k q (L1++j::L2) S S ?_ rfl rfl,hf1];intro i hi pi jz kp;by_cases kj:i=j
   ·subst kj;rw[hp]at jz;cases jz;exact absurd kp hk
   ·simpa [q]using kj
 ·rw[rY];by_cases hd:o.dst=some t
  ·rw[if_pos hd,kQ];rw[sV t (fun _=>false) L2 _ (p.app o (aG all ps S L1)) ?_ rfl]
   ·rw[List.filter_eq_nil_iff.2 (by simp)];simp[aG,rY,hd]
   ·intro i hi oi ib hdi;obtain⟨pi,jz,_⟩:=eu cH ib;exact absurd hdi ((Ok i hi oi pi ib jz).c t hd)
  ·rw[if_neg hd,sV t q (L1++j::L2) S S ?_ rfl,hf1];intro i hi oi ib hdi;by_cases kj:i=j
   ·subst kj;rw[ho]at ib;cases ib;exact absurd hdi hd
   ·simpa [q]using kj
theorem Ol{P:Program}{S0 S1:St}{φ0:bQ}{G:Fr}{w0:World}{Q:Exit→Act→World→Prop}{I:Mem→Prop}(GB:I S0.mem)(hc:Cert P I all all S0 ps S1)(cH:mg all ps=true)(xN:(S0.mem.map (·.key)).Nodup)
 (hQ:∀φ' a' w',Rel φ' G S1 a' w'→aP φ0 S0.mem w0 φ' S1.mem w'→Q .normal a' w'):
 ∀(fuel:Nat)(listed:Array Bool) φ a w,listed.size=all.length→nZ all (fun i=>listed.getD i false)→Rel φ G (aG all ps S0 (ia all.length fun i=>listed.getD i false)) a w→aP φ0 S0.mem w0 φ (aG all ps S0 (ia all.length fun i=>listed.getD i false)).mem w→
  ((List.range all.length).filter fun i=>!listed.getD i false).length≤fuel→wpAny P .any all.toArray Q fuel listed a w:=by
 obtain⟨eS,hlen,de⟩:=Cert.at (ps:=ps) (S0:=S0) hc [] [] rfl rfl rfl rfl;have hU:∀(j:Nat)(p:aU),ps[j]?=some p→∀e∈p.es,e.key∈p.ks:=fun j p hp=>by
  have gS:j<ps.length:=(List.getElem?_eq_some_iff.1 hp).1;exact (de j (all[j]'(by omega)) p (by simp) (by simp) hp).1
 have hIs:∀l:List Nat,I (aG all ps S0 l).mem:=by
  have key:∀(l:List Nat)(S:St),I S.mem→I (aG all ps S l).mem:=by
   intro l;induction l with
   |nil=>exact fun _ h=>h
   |cons i l ih=>
    intro S h;have e1:aG all ps S (i::l)=aG all ps (aG all ps S [i]) l:=by simp[aG]
    rw[e1];refine ih _ ?_;simp only[aG,List.foldl_cons,List.foldl_nil];split
    ·rename_i o p ho hp;simp only[aU.app,ff];exact (de i o p (by simp) ho hp).2.1 _ h
    ·exact h
  exact fun l=>key l S0 GB
 --zO first awi au5 listed is ready
 have first:∀(f:Nat→Bool)(n:Nat),n≤all.length→(∀i,i<n→f i=true)∨∃i,i<n∧f i=false∧∀i',i'<i→f i'=true:=by
  intro f n;induction n with
  |zero=>exact fun _=>.inl (fun i hi=>by omega)
  |succ n ih=>
   intro hn;rcases ih (by omega)with h|⟨i,h1,h2,h3⟩
   ·cases hf:f n with
    |true=>
     refine .inl fun i hi=>?_;rcases Nat.lt_succ_iff_lt_or_eq.1 hi with h'|h'
     ·exact h i h'
     ·rw[h'];exact hf
    |false=>exact .inr ⟨n,by omega,hf,h⟩
   ·exact .inr ⟨i,by omega,h2,h3⟩
 have done:∀(listed:Array Bool) φ a w,listed.size=all.length→Rel φ G (aG all ps S0 (ia all.length fun i=>listed.getD i false)) a w→aP φ0 S0.mem w0 φ (aG all ps S0 (ia all.length fun i=>listed.getD i false)).mem w→Region.ready .any all.toArray listed=[]→Q .normal a w:=by
  intro listed φ a w bV hr hk pb;have dV:∀i,i<all.length→listed.getD i false=true:=by
   rcases first (fun i=>listed.getD i false) all.length (Nat.le_refl _)with h|⟨i,h1,h2,h3⟩
   ·exact h
   ·exfalso;have:i∈Region.ready .any all.toArray listed:=by
     rw[mem_ready];refine⟨?_,all[i],by simp[h1],fun e he hb=>?_⟩
     ·have:i<listed.size:=by omega
      simp only[Array.getD_eq_getD_getElem?,Array.getElem?_eq_getElem this,Option.getD_some]at h2⊢;exact h2
     ·obtain⟨p,_,hp,_⟩:=eu cH (show all[i]?=some all[i] by simp[h1]);exact h3 e.on (hp e.on (by
       simp only[eF,List.mem_map,List.mem_filter];exact⟨e,⟨by simpa using he,hb⟩,rfl⟩))
    rw[pb]at this;cases this
  have hl:(ia all.length fun i=>listed.getD i false)=List.range all.length:=by
   rw[ia,List.filter_eq_self];intro i hi;exact dV i (List.mem_range.1 hi)
  rw[hl,eS]at hr hk;exact hQ φ a w hr hk
 intro fuel;induction fuel with
 |zero=>
  intro listed φ a w bV aO hr hk hf;have pb:Region.ready .any all.toArray listed=[]:=by
   cases h:Region.ready .any all.toArray listed with
   |nil=>rfl
   |cons i r=>
    exfalso;have hi:i∈Region.ready .any all.toArray listed:=by rw[h];simp
    rw[mem_ready]at hi;obtain⟨h0,o,ho,_⟩:=hi;have iA:i<all.length:=by
     have:=(Array.getElem?_eq_some_iff.1 ho).1;simpa using this
    have n6:listed.getD i false=false:=by
     have:i<listed.size:=by omega
     simp only[Array.getD_eq_getD_getElem?,Array.getElem?_eq_getElem this,Option.getD_some]at h0⊢;exact h0
    have:i∈(List.range all.length).filter fun i=>!listed.getD i false:=List.mem_filter.2 ⟨List.mem_range.2 iA,by simp[n6]⟩;have:=List.length_pos_of_mem this;omega
  exact⟨pb,done listed φ a w bV hr hk pb⟩
 |succ fuel ih=>
  intro listed φ a w bV aO hr hk hf;refine⟨done listed φ a w bV hr hk,fun i hi=>?_⟩;rw[mem_ready]at hi;obtain⟨h0,o,ho,xO⟩:=hi;have cq:all[i]?=some o:=by simpa using ho
  have iA:i<all.length:=(List.getElem?_eq_some_iff.1 cq).1;have xP:i<listed.size:=by omega
  have n6:listed.getD i false=false:=by
   simp only[Array.getD_eq_getD_getElem?,Array.getElem?_eq_getElem xP,Option.getD_some]at h0⊢;exact h0
  have jL:∀k∈eF o,listed.getD k false=true:=by
   intro k aN;simp only[eF,List.mem_map,List.mem_filter]at aN;obtain⟨e,⟨he,hb⟩,rfl⟩:=aN;exact xO e (by simpa using he) hb
  obtain⟨p,hp,_⟩:=eu cH cq;obtain⟨hke,_,BV⟩:=de i o p (by simp) cq hp;have p7:=pM (S:=S0) hlen cH aO cq hp n6 jL;have jM:(listed.setIfInBounds i true).getD i false=true:=by simp[xP]
  have lO:∀k,k≠i→(listed.setIfInBounds i true).getD k false=listed.getD k false:=fun k aN=>getD_set_ne false (Ne.symm aN);have heq:=vE (S:=S0) (f:=fun i=>listed.getD i false) (g:=fun k=>(listed.setIfInBounds i true).getD k false) hlen cH aO hU xN cq hp n6 jM lO;have GC:nZ all (fun k=>(listed.setIfInBounds i true).getD k false):=by
   intro k ok cV Q8 x hx;by_cases Ef:x=i
   ·subst Ef;exact jM
   ·show (listed.setIfInBounds i true).getD x false=true;rw[lO x Ef];by_cases kp:k=i
    ·subst kp;rw[cq]at cV;cases cV;exact jL x hx
    ·exact aO k ok cV ((lO k kp).symm.trans Q8) x hx
  have xQ:((List.range all.length).filter fun k=>!(listed.setIfInBounds i true).getD k false).length≤fuel:=by
   have h1:(List.range all.length).filter (fun k=>!(listed.setIfInBounds i true).getD k false)=((List.range all.length).filter fun k=>!listed.getD k false).filter (fun k=>k != i):=by
    rw[List.filter_filter];refine List.filter_congr fun k _=>?_;by_cases kp:k=i
    ·subst kp;rw[jM];simp
    ·rw[lO k kp];simp[kp]
   have fa:i∈(List.range all.length).filter fun k=>!listed.getD k false:=List.mem_filter.2 ⟨List.mem_range.2 iA,by simp[n6]⟩;rw[h1];have:(((List.range all.length).filter fun k=>!listed.getD k false).filter (fun k=>k != i)).length<((List.range all.length).filter fun k=>!listed.getD k false).length:=by
    rw[List.length_filter_lt_length_iff_exists];exact⟨i,fa,by simp⟩
   omega
  have hs:=BV _ p7 (hIs _) φ G a w hr (wpAny P .any all.toArray Q fuel (listed.setIfInBounds i true)) Q (fun φ' a' w' b9 aN=>
   ih _ φ' a' w' (by simpa using bV) GC (b9.eqv heq) (by rw[←heq.mem];exact hk.trans aN) xQ)
  unfold wpOp;rw[ho];simp only
  split at hs
  ·rename_i hw;rw[if_pos hw];exact .inl hs
  ·rename_i hw;rw[if_neg hw];exact hs
end
theorem Jq{P:Program}{S S1:St}{id:Nat}{ops:List Oper}{ps:List aU}{I:Mem→Prop}(GB:I S.mem)(hm:P.follows .mixedOrders=true)(hc:Cert P I ops ops S ps S1)(cH:mg ops ps=true){φ G a w}(hr:Rel φ G S a w){Q:Exit→Act→World→Prop}
 (hQ:∀φ' a' w',Rel φ' G S1 a' w'→aP φ S.mem w φ' S1.mem w'→Q .normal a' w'):(Code.region id ops.toArray true).wp P Q a w:=by
 refine wp_region_any hm ?_;have iY:Rel φ G S a {w with drawn:=w.drawn+1}:=hr.grow (fun _ _=>rfl) (Nat.le_refl _);have cf:(ia ops.length fun i=>(Array.replicate ops.length false).getD i false)=[]:=by
  rw[ia,List.filter_eq_nil_iff];intro i hi;simp[Array.getD_eq_getD_getElem?,List.mem_range.1 hi]
 refine Ol (S0:=S) (φ0:=φ) (w0:=w) (G:=G) GB hc cH hr.mem.nodup (fun φ' a' w' b9 aN=>hQ φ' a' w' b9 aN) _ _ φ a _ (by simp) ?_ ?_ ?_ ?_
 ·intro j o _ hj;exfalso;simp only[Array.getD_eq_getD_getElem?]at hj;by_cases h:j<ops.length
  ·simp[h]at hj
  ·simp[h]at hj
 ·simp only[List.size_toArray];rw[cf];exact iY
 ·simp only[List.size_toArray];rw[cf];exact aP.grow (fun _ _=>rfl) (Nat.le_refl _) rfl rfl rfl
 ·simp only[List.size_toArray];exact Nat.le_trans (List.length_filter_le _ _) (by simp)
theorem abx{P:Program}{I:Mem→Prop}{ops:List Oper}{S S1:St}{ps:List aU}(hc:Cert P I ops ops S ps S1):S1.n=S.n∧S1.gl=S.gl:=by
 obtain⟨eS,_,_⟩:=Cert.at (ps:=ps) (S0:=S) hc [] [] rfl rfl rfl rfl;rw[←eS];exact⟨nk ..,lN ..⟩
def AD(all:List Oper)(o o':Oper):Bool:=disj o.dst.toList (looks all o')&&disj o'.dst.toList (looks all o)&&disj o.dst.toList o'.dst.toList
def xR(all:List Oper)(nd:List (List Nat))(an:List (List Nat))(j:Nat):Bool:=
 match all[j]? with
 |some o=>(eF o).all (fun i=>decide (i<j))&&(List.range j).all fun i=>(an.getD j []).contains i||(match all[i]? with
  |some o'=>AD all o' o&&((nd.getD i []).contains j&&(nd.getD j []).contains i)
  |none=>false)
 |none=>false
def AE(all:List Oper)(nd:List (List Nat)):Bool:=(List.range all.length).all (xR all nd (gC all []))
def ordK(ps:List aU)(es:List cI):List Nat→Bool
 |[]=>true
 |j::r=>(match ps[j]? with|some q=>disj (es.map (·.key)) q.ks|none=>false)&&ordK ps es r
def ordE(ps:List aU)(js:List Nat):List cI→Bool
 |[]=>true
 |e::es=>ordK ps (e::es) js
def ordL(ps:List aU):List (List Nat)→List aU→Bool
 |_,[]=>true
 |[],p::r=>ordE ps [] p.es&&ordL ps [] r
 |js::nd,p::r=>ordE ps js p.es&&ordL ps nd r
def ordD(nd:List (List Nat))(ps:List aU):Bool:=ordL ps nd ps
theorem pc{ps:List aU}:∀{nd:List (List Nat)}{l:List aU},ordL ps nd l=true→∀i p,l[i]?=some p→ordE ps (nd.getD i []) p.es=true
 |_,[],_,i,p,hp=>by simp at hp
 |[],q::r,h,i,p,hp=>by
  simp only[ordL,Bool.and_eq_true]at h;cases i with
  |zero=>simp at hp;subst hp;simpa using h.1
  |succ i=>have:=pc h.2 i p (by simpa using hp);simpa using this
 |js::nd,q::r,h,i,p,hp=>by
  simp only[ordL,Bool.and_eq_true]at h;cases i with
  |zero=>simp at hp;subst hp;simpa using h.1
  |succ i=>have:=pc h.2 i p (by simpa using hp);simpa using this
theorem GD{ps:List aU}{es:List cI}:∀{js:List Nat},ordK ps es js=true→∀j∈js,∀q,ps[j]?=some q→disj (es.map (·.key)) q.ks=true
 |[],_,j,hj,_,_=>by simp at hj
 |k::r,h,j,hj,q,hq=>by
  simp only[ordK,Bool.and_eq_true]at h;rcases List.mem_cons.1 hj with rfl|hj
  ·have:=h.1;rw[hq]at this;exact this
  ·exact GD h.2 j hj q hq
theorem vF{ps:List aU}{js:List Nat}:∀{es:List cI},ordE ps js es=true→∀j∈js,∀q,ps[j]?=some q→disj (es.map (·.key)) q.ks=true
 |[],_,_,_,_,_=>rfl
 |_::_,h,j,hj,q,hq=>GD h j hj q hq
theorem Q9{all:List Oper}{nd:List (List Nat)}{ps:List aU}(hs:AE all nd=true)(hd:ordD nd ps=true)(hl:ps.length=all.length):mg all ps=true:=by
 unfold mg;refine List.all_eq_true.2 fun j hj=>?_;have h1:=List.all_eq_true.1 hs j hj;have oJ:j<all.length:=List.mem_range.1 hj;unfold xR at h1;unfold Fu;have sS:ps[j]?=some (ps[j]'(by omega)):=by simp[hl,oJ]
 rw[sS];cases ho:all[j]? with
 |none=>rw[ho]at h1;cases h1
 |some o=>
  rw[ho]at h1;simp only[Bool.and_eq_true,List.all_eq_true,decide_eq_true_eq,Bool.or_eq_true,List.mem_range]at h1⊢;refine⟨h1.1,fun i hi=>?_⟩;rcases h1.2 i hi with h2|h2
  ·exact .inl h2
  ·right;have jz:ps[i]?=some (ps[i]'(by omega)):=by simp[show i<ps.length by omega]
   cases ib:all[i]? with
   |none=>rw[ib]at h2;cases h2
   |some o'=>
    rw[ib]at h2;rw[jz];simp only[Bool.and_eq_true]at h2;simp only[xL];have e1:=vF (pc hd i _ jz) j (by simpa using h2.2.1) _ sS;have e2:=vF (pc hd j _ sS) i (by simpa using h2.2.2) _ jz;have e3:=h2.1;simp only[AD,Bool.and_eq_true]at e3;simp only[Bool.and_eq_true];exact⟨⟨e3,e1⟩,e2⟩
def AF(all:List Oper):Prop:=∀i,i+1<all.length→i∈(gC all []).getD (all.length-1) []
theorem z7{all:List Oper}{nd:List (List Nat)}(hs:AE all nd=true)(hn:nd.getD (all.length-1) []=[]):AF all:=by
 intro i hi;have h1:=List.all_eq_true.1 hs (all.length-1) (List.mem_range.2 (by omega));unfold xR at h1;rw[List.getElem?_eq_getElem (by omega)]at h1;simp only[Bool.and_eq_true,List.all_eq_true,Bool.or_eq_true,List.mem_range]at h1;rcases h1.2 i (by omega)with h2|h2
 ·simpa using h2
 ·rw[List.getElem?_eq_getElem (by omega)]at h2;simp only[Bool.and_eq_true]at h2;have:=h2.2.2;rw[hn]at this;cases this
def z8:aU:=⟨[],[],false,.bf⟩
section
variable {all:List Oper} {ps:List aU}
theorem Cert.at2{P:Program}{I:Mem→Prop}{rest:List Oper}{S0 S:St}{qs:List aU}{S1:St}(h:Cert P I all rest S qs S1):∀(pre:List Oper)(pp:List aU)(tl:List Oper)(tq:List aU),pre.length=pp.length→all=pre++rest++tl→ps=pp++qs++tq→aG all ps S0 (List.range pre.length)=S→
 aG all ps S0 (List.range (pre.length+rest.length))=S1∧qs.length=rest.length∧∀j o p,pre.length≤j→j<pre.length+rest.length→all[j]?=some o→ps[j]?=some p→(∀e∈p.es,e.key∈p.ks)∧(∀m,I m→I (putAll m p.es))∧q0 P I all (aG all ps S0 (List.range j)) o p:=by
 induction h with
 |nil S=>
  intro pre pp tl tq hl ha jW hS;exact⟨by simpa using hS,rfl,fun j o p hj Aa _=>by simp at Aa;omega⟩
 |cons o rest S p qs S1 hk hI de hr ih=>
  intro pre pp tl tq hl ha jW hS;have e1:all[pre.length]?=some o:=by rw[ha];simp
  have e2:ps[pre.length]?=some p:=by rw[jW,hl];simp
  obtain⟨h1,h2,h3⟩:=ih (pre++[o]) (pp++[p]) tl tq (by simp[hl]) (by rw[ha];simp) (by rw[jW];simp) (by
   rw[List.length_append,List.length_singleton,List.range_succ,m9,hS];simp[aG,e1,e2])
  refine⟨by rw[←h1];simp;congr 2;omega,by simp[h2],fun j o' p' hj Aa cq lE=>?_⟩;rcases Nat.eq_or_lt_of_le hj with rfl|hj
  ·rw[e1]at cq;rw[e2]at lE;cases cq;cases lE;exact⟨hk,hI,by rw[hS];exact de⟩
  ·exact h3 j o' p' (by simp;omega) (by simp at Aa⊢;omega) cq lE
theorem Om{P:Program}{S0 S1:St}{φ0:bQ}{G:Fr}{w0:World}{Q:Exit→Act→World→Prop}{I:Mem→Prop}{init:List Oper}{ol:Oper}(dV:all=init++[ol])(xS:AF all)(GB:I S0.mem){qs:List aU}(hc:Cert P I all init S0 qs S1)(jW:ps=qs++[z8])(cH:mg all ps=true)(xN:(S0.mem.map (·.key)).Nodup)
 (jA:∀φ a w,Rel φ G S1 a w→aP φ0 S0.mem w0 φ S1.mem w→∀next:Act→World→Prop,(∀a' w',Q .normal a' w'→next a' w')→if Region.wanted ol (yielded all.toArray a.tmps)then ol.wp P a w next Q else next (a.put ol.dst undef) w):
 ∀(fuel:Nat)(listed:Array Bool) φ a w,listed.size=all.length→listed.getD init.length false=false→nZ all (fun i=>listed.getD i false)→Rel φ G (aG all ps S0 (ia all.length fun i=>listed.getD i false)) a w→aP φ0 S0.mem w0 φ (aG all ps S0 (ia all.length fun i=>listed.getD i false)).mem w→
  ((List.range all.length).filter fun i=>!listed.getD i false).length≤fuel→wpAny P .any all.toArray Q fuel listed a w:=by
 obtain⟨eS,hlq,de⟩:=Cert.at2 (ps:=ps) (S0:=S0) hc [] [] [ol] [z8] rfl (by simp[dV]) (by simp[jW]) rfl;have bn:all.length=init.length+1:=by rw[dV];simp
 have nH:ps.length=all.length:=by rw[jW,bn];simp[hlq]
 have hoL:all[init.length]?=some ol:=by rw[dV];simp
 have hpL:ps[init.length]?=some z8:=by rw[jW,←hlq];simp
 have hU:∀(j:Nat)(p:aU),ps[j]?=some p→∀e∈p.es,e.key∈p.ks:=fun j p hp=>by
  have gS:j<ps.length:=(List.getElem?_eq_some_iff.1 hp).1;by_cases hj:j<init.length
  ·exact (de j (all[j]'(by omega)) p (by simp) (by simpa using hj) (by simp) hp).1
  ·have:j=init.length:=by omega
   subst this;rw[hpL]at hp;cases hp;simp[z8]
 have dF:∀j o,all[j]?=some o→∀p∈eF o,p<j:=fun j o ho=>(eu cH ho).choose_spec.2.1;have hIs:∀l:List Nat,I (aG all ps S0 l).mem:=by
  have key:∀(l:List Nat)(S:St),I S.mem→I (aG all ps S l).mem:=by
   intro l;induction l with
   |nil=>exact fun _ h=>h
   |cons i l ih=>
    intro S h;have e1:aG all ps S (i::l)=aG all ps (aG all ps S [i]) l:=by simp[aG]
    rw[e1];refine ih _ ?_;simp only[aG,List.foldl_cons,List.foldl_nil];split
    ·rename_i o p ho hp;simp only[aU.app,ff];have iA:i<all.length:=(List.getElem?_eq_some_iff.1 ho).1;by_cases hi:i<init.length
     ·exact (de i o p (by simp) (by simpa using hi) ho hp).2.1 _ h
     ·have:i=init.length:=by omega
      subst this;rw[hpL]at hp;cases hp;exact h
    ·exact h
  exact fun l=>key l S0 GB
 have first:∀(f:Nat→Bool)(n:Nat),n≤all.length→(∀i,i<n→f i=true)∨∃i,i<n∧f i=false∧∀i',i'<i→f i'=true:=by
  intro f n;induction n with
  |zero=>exact fun _=>.inl (fun i hi=>by omega)
  |succ n ih=>
   intro hn;rcases ih (by omega)with h|⟨i,h1,h2,h3⟩
   ·cases hf:f n with
    |true=>
     refine .inl fun i hi=>?_;rcases Nat.lt_succ_iff_lt_or_eq.1 hi with h'|h'
     ·exact h i h'
     ·rw[h'];exact hf
    |false=>exact .inr ⟨n,by omega,hf,h⟩
   ·exact .inr ⟨i,by omega,h2,h3⟩
 have rdy:∀(listed:Array Bool),listed.size=all.length→Region.ready .any all.toArray listed=[]→∀i,i<all.length→listed.getD i false=true:=by
  intro listed bV pb;rcases first (fun i=>listed.getD i false) all.length (Nat.le_refl _)with h|⟨i,h1,h2,h3⟩
  ·exact h
  ·exfalso;have:i∈Region.ready .any all.toArray listed:=by
    rw[mem_ready];refine⟨?_,all[i],by simp[h1],fun e he hb=>?_⟩
    ·have:i<listed.size:=by omega
     simp only[Array.getD_eq_getD_getElem?,Array.getElem?_eq_getElem this,Option.getD_some]at h2⊢;exact h2
    ·obtain⟨p,_,hp,_⟩:=eu cH (show all[i]?=some all[i] by simp[h1]);exact h3 e.on (hp e.on (by
      simp only[eF,List.mem_map,List.mem_filter];exact⟨e,⟨by simpa using he,hb⟩,rfl⟩))
   rw[pb]at this;cases this
 have alb:∀(listed:Array Bool),listed.size=all.length→(∀i,i<all.length→listed.getD i false=true)→Region.ready .any all.toArray listed=[]:=by
  intro listed bV af4;cases h:Region.ready .any all.toArray listed with
  |nil=>rfl
  |cons i r=>
   exfalso;have hi:i∈Region.ready .any all.toArray listed:=by rw[h];simp
   rw[mem_ready]at hi;obtain⟨h0,o,ho,_⟩:=hi;have iA:i<all.length:=by
    have:=(Array.getElem?_eq_some_iff.1 ho).1;simpa using this
   have:=af4 i iA;have h2:i<listed.size:=by omega
   simp only[Array.getD_eq_getD_getElem?,Array.getElem?_eq_getElem h2,Option.getD_some]at h0 this;rw[h0]at this;cases this
 intro fuel;induction fuel with
 |zero=>
  intro listed φ a w bV wT aO hr hk hf;exfalso;have:init.length∈(List.range all.length).filter fun i=>!listed.getD i false:=List.mem_filter.2 ⟨List.mem_range.2 (by omega),by simp only[wT];rfl⟩;have:=List.length_pos_of_mem this;omega
 |succ fuel ih=>
  intro listed φ a w bV wT aO hr hk hf;refine⟨fun pb=>?_,fun i hi=>?_⟩
  ·have:=rdy listed bV pb init.length (by omega);rw[wT]at this;cases this
  rw[mem_ready]at hi;obtain⟨h0,o,ho,xO⟩:=hi;have cq:all[i]?=some o:=by simpa using ho
  have iA:i<all.length:=(List.getElem?_eq_some_iff.1 cq).1;have xP:i<listed.size:=by omega
  have n6:listed.getD i false=false:=by
   simp only[Array.getD_eq_getD_getElem?,Array.getElem?_eq_getElem xP,Option.getD_some]at h0⊢;exact h0
  have jL:∀k∈eF o,listed.getD k false=true:=by
   intro k aN;simp only[eF,List.mem_map,List.mem_filter]at aN;obtain⟨e,⟨he,hb⟩,rfl⟩:=aN;exact xO e (by simpa using he) hb
  have jM:(listed.setIfInBounds i true).getD i false=true:=by simp[xP]
  have lO:∀k,k≠i→(listed.setIfInBounds i true).getD k false=listed.getD k false:=fun k aN=>getD_set_ne false (Ne.symm aN);by_cases Ra:i=init.length
  ·subst Ra;rw[hoL]at cq;cases cq;have pe:∀k,k<init.length→listed.getD k false=true:=by
    intro k gu;have Ed:k∈(gC all []).getD init.length []:=by
     have:=xS k (by omega);rw[bn]at this;simpa using this
    exact (jy (L:=fun i=>listed.getD i false=true) dF (fun j o ho hf=>aO j o ho hf) init.length ⟨ol,hoL⟩ k Ed).2 (fun o' BW=>by rw[hoL]at BW;cases BW;exact jL)
   have hl:(ia all.length fun i=>listed.getD i false)=List.range init.length:=by
    rw[ia,bn,List.range_succ,List.filter_append];have e1:(List.range init.length).filter (fun i=>listed.getD i false)=List.range init.length:=by
     rw[List.filter_eq_self];intro k gu;exact pe k (List.mem_range.1 gu)
    rw[e1];simp only[List.filter_cons,List.filter_nil];rw[n6];simp
   have af5:aG all ps S0 (List.range init.length)=S1:=by simpa using eS
   rw[hl,af5]at hr hk;have hs:=jA φ a w hr hk (wpAny P .any all.toArray Q fuel (listed.setIfInBounds init.length true)) (fun a' w' hq=>by
    have pb:=alb (listed.setIfInBounds init.length true) (by simpa using bV) (fun k gu=>by
     by_cases kp:k=init.length
     ·subst kp;exact jM
     ·rw[lO k kp];exact pe k (by omega))
    cases fuel with
    |zero=>exact⟨pb,hq⟩
    |succ fuel=>exact⟨fun _=>hq,fun i hi=>by rw[pb]at hi;cases hi⟩)
   unfold wpOp;rw[ho];simp only
   split at hs
   ·rename_i hw;rw[if_pos hw];exact .inl hs
   ·rename_i hw;rw[if_neg hw];exact hs
  ·have Wt:i<init.length:=by omega
   obtain⟨p,hp,_⟩:=eu cH cq;obtain⟨hke,_,BV⟩:=de i o p (by simp) (by simpa using Wt) cq hp;have p7:=pM (S:=S0) nH cH aO cq hp n6 jL;have heq:=vE (S:=S0) (f:=fun i=>listed.getD i false) (g:=fun k=>(listed.setIfInBounds i true).getD k false) nH cH aO hU xN cq hp n6 jM lO;have GC:nZ all (fun k=>(listed.setIfInBounds i true).getD k false):=by
    intro k ok cV Q8 x hx;by_cases Ef:x=i
    ·subst Ef;exact jM
    ·show (listed.setIfInBounds i true).getD x false=true;rw[lO x Ef];by_cases kp:k=i
     ·subst kp;rw[cq]at cV;cases cV;exact jL x hx
     ·exact aO k ok cV ((lO k kp).symm.trans Q8) x hx
   have xQ:((List.range all.length).filter fun k=>!(listed.setIfInBounds i true).getD k false).length≤fuel:=by
    have h1:(List.range all.length).filter (fun k=>!(listed.setIfInBounds i true).getD k false)=((List.range all.length).filter fun k=>!listed.getD k false).filter (fun k=>k != i):=by
     rw[List.filter_filter];refine List.filter_congr fun k _=>?_;by_cases kp:k=i
     ·subst kp;rw[jM];simp
     ·rw[lO k kp];simp[kp]
    have fa:i∈(List.range all.length).filter fun k=>!listed.getD k false:=List.mem_filter.2 ⟨List.mem_range.2 iA,by simp[n6]⟩;rw[h1];have:(((List.range all.length).filter fun k=>!listed.getD k false).filter (fun k=>k != i)).length<((List.range all.length).filter fun k=>!listed.getD k false).length:=by
     rw[List.length_filter_lt_length_iff_exists];exact⟨i,fa,by simp⟩
    omega
   have hs:=BV _ p7 (hIs _) φ G a w hr (wpAny P .any all.toArray Q fuel (listed.setIfInBounds i true)) Q (fun φ' a' w' b9 aN=>
    ih _ φ' a' w' (by simpa using bV) (by rw[lO _ (Ne.symm Ra)];exact wT) GC (b9.eqv heq) (by rw[←heq.mem];exact hk.trans aN) xQ)
   unfold wpOp;rw[ho];simp only
   split at hs
   ·rename_i hw;rw[if_pos hw];exact .inl hs
   ·rename_i hw;rw[if_neg hw];exact hs
end
theorem Jr{P:Program}{S S1:St}{id:Nat}{ops init:List Oper}{ol:Oper}{qs:List aU}{I:Mem→Prop}(dV:ops=init++[ol])(xS:AF ops)(GB:I S.mem)(hm:P.follows .mixedOrders=true)(hc:Cert P I ops init S qs S1)(cH:mg ops (qs++[z8])=true){φ G a w}(hr:Rel φ G S a w){Q:Exit→Act→World→Prop}
 (jA:∀φ' a' w',Rel φ' G S1 a' w'→aP φ S.mem w φ' S1.mem w'→∀next:Act→World→Prop,(∀a' w',Q .normal a' w'→next a' w')→if Region.wanted ol (yielded ops.toArray a'.tmps)then ol.wp P a' w' next Q else next (a'.put ol.dst undef) w'):(Code.region id ops.toArray true).wp P Q a w:=by
 refine wp_region_any hm ?_;have iY:Rel φ G S a {w with drawn:=w.drawn+1}:=hr.grow (fun _ _=>rfl) (Nat.le_refl _);have cf:(ia ops.length fun i=>(Array.replicate ops.length false).getD i false)=[]:=by
  rw[ia,List.filter_eq_nil_iff];intro i hi;simp[Array.getD_eq_getD_getElem?,List.mem_range.1 hi]
 refine Om (S0:=S) (φ0:=φ) (w0:=w) (G:=G) dV xS GB hc rfl cH hr.mem.nodup jA _ _ φ a _ (by simp) ?_ ?_ ?_ ?_ ?_
 ·simp only[Array.getD_eq_getD_getElem?];rw[dV];simp
 ·intro j o _ hj;exfalso;simp only[Array.getD_eq_getD_getElem?]at hj;by_cases h:j<ops.length
  ·simp[h]at hj
  ·simp[h]at hj
 ·simp only[List.size_toArray];rw[cf];exact iY
 ·simp only[List.size_toArray];rw[cf];exact aP.grow (fun _ _=>rfl) (Nat.le_refl _) rfl rfl rfl
 ·simp only[List.size_toArray];exact Nat.le_trans (List.length_filter_le _ _) (by simp)
def verSum:Mem→Nat
 |[]=>0
 |e::r=>e.aj+verSum r
def verSums:List aU→Nat
 |[]=>0
 |p::r=>verSum p.es+verSums r
def killM(N:Nat):Mem→Mem
 |[]=>[]
 |e::r=>(match decide (100≤e.key)with|true=>⟨e.key,N,.dead⟩|false=>e)::killM N r
def St.kill(S:St)(N:Nat):St:={S with env:=[],mem:=killM N S.mem}
def farE:List cI→Bool
 |[]=>true
 |e::r=>decide (100≤e.key)&&farE r
def farJ(ps:List aU):List Nat→Bool
 |[]=>true
 |i::r=>(match ps[i]? with|some p=>farE p.es|none=>false)&&farJ ps r
theorem xT:∀{m:Mem}{e:cI},e∈m→e.aj≤verSum m
 |_::r,e,h=>by
  rcases List.mem_cons.1 h with rfl|h
  ·simp only[verSum];omega
  ·have:=xT (m:=r) h;simp only[verSum];omega
theorem BX:∀{ps:List aU}{p:aU},p∈ps→verSum p.es≤verSums ps
 |_::r,p,h=>by
  rcases List.mem_cons.1 h with rfl|h
  ·simp only[verSums];omega
  ·have:=BX (ps:=r) h;simp only[verSums];omega
theorem n7(N:Nat):∀m:Mem,(killM N m).map (·.key)=m.map (·.key)
 |[]=>rfl
 |e::r=>by
  simp only[killM,List.map_cons,n7 N r];split<;>rfl
theorem qf{N:Nat}:∀{m:Mem}{e:cI},e∈killM N m→(∃e0∈m,100≤e0.key∧e=⟨e0.key,N,.dead⟩)∨(e∈m∧e.key<100)
 |e0::r,e,h=>by
  simp only[killM,List.mem_cons]at h;rcases h with h|h
  ·by_cases hk:100≤e0.key
   ·simp only[hk,decide_true]at h;exact .inl ⟨e0,by simp,hk,h⟩
   ·simp only[hk,decide_false]at h;subst h;exact .inr ⟨by simp,by omega⟩
  ·rcases qf h with ⟨e1,h1,h2,h3⟩|⟨h1,h2⟩
   ·exact .inl ⟨e1,List.mem_cons_of_mem _ h1,h2,h3⟩
   ·exact .inr ⟨List.mem_cons_of_mem _ h1,h2⟩
theorem xU(N:Nat)(k:Nat):∀m:Mem,Mem.get (killM N m) k=(Mem.get m k).map fun e=>match decide (100≤e.key)with|true=>⟨e.key,N,.dead⟩|false=>e
 |[]=>rfl
 |e::r=>by
  have e1:(match decide (100≤e.key)with|true=>(⟨e.key,N,.dead⟩:cI)|false=>e).key=e.key:=by split<;>rfl
  simp only[killM,Mem.get,e1];split
  ·rfl
  ·exact xU N k r
def n8(φ:bQ)(N:Nat):bQ:=fun k=>match φ k with
 |some L=>some (match decide (100≤k)with|true=>{L with aj:=N}|false=>L)
 |none=>none
theorem n9{φ:bQ}{N k:Nat}(h:k<100):n8 φ N k=φ k:=by
 unfold n8;have:decide (100≤k)=false:=by simp;omega
 rw[this];cases φ k<;>rfl
theorem Eg{φ:bQ}{N k:Nat}{L:Loc}(h:100≤k)(hL:φ k=some L):n8 φ N k=some {L with aj:=N}:=by
 unfold n8;have:decide (100≤k)=true:=by simp;omega
 rw[this,hL]
theorem ZE{φ:bQ}{G:Fr}{S:St}{a:Act}{w:World}{N:Nat}(h:Rel φ G S a w)(hv:∀e∈S.mem,e.aj<N):
 Rel (n8 φ N) G (S.kill N) a w∧aP φ S.mem w (n8 φ N) (S.kill N).mem w:=by
 have hle:φ.le (n8 φ N):=by
  intro k L hL;by_cases hk:100≤k
  ·obtain⟨e,he,rfl⟩:=List.mem_map.1 (h.mem.oH k L hL);obtain⟨L',bU,hve,_⟩:=h.mem.eZ e he;rw[hL]at bU;cases bU;have:=hv e he;exact⟨_,Eg hk hL,by simp only;omega,fun hh=>by simp only at hh;omega⟩
  ·exact⟨L,by rw[n9 (by omega)];exact hL,Nat.le_refl _,fun _=>rfl⟩
 have fB:∀b,iy (n8 φ N) (killM N S.mem) b→iy φ S.mem b:=by
  rintro b ⟨e,he,L,hL,ho⟩;rcases qf he with ⟨e0,h0,h1,rfl⟩|⟨h0,h1⟩
  ·exact ho.elim
  ·rw[n9 h1]at hL;exact⟨e,h0,L,hL,ho⟩
 have hF:∀b,Fo G (n8 φ N) (killM N S.mem) b→Fo G φ S.mem b:=fun b=>Or.imp id (fB b);have hk:aP φ S.mem w (n8 φ N) (S.kill N).mem w:=⟨hle,fun _ _ _=>rfl,fun b _ hb=>fB b hb,Nat.le_refl _,rfl,rfl,rfl⟩;refine⟨⟨h.size,h.defers,(fun t x hx=>nomatch hx),⟨?_,?_,?_,?_,?_,h.mem.bound⟩,h.ka.mono (fun _ _ _=>rfl) (Nat.le_refl _) (fun b _ hb=>hF b hb)⟩,hk⟩
 ·show ((killM N S.mem).map (·.key)).Nodup;rw[n7];exact h.mem.nodup
 ·intro k L hL;show k∈(killM N S.mem).map (·.key);rw[n7];unfold n8 at hL;cases hp:φ k with
  |none=>rw[hp]at hL;cases hL
  |some L0=>exact h.mem.oH k L0 hp
 ·intro e he;rcases qf he with ⟨e0,h0,h1,rfl⟩|⟨h0,h1⟩
  ·obtain⟨L,hL,_,_⟩:=h.mem.eZ e0 h0;exact⟨_,Eg h1 hL,rfl,trivial⟩
  ·obtain⟨L,hL,hve,hc⟩:=h.mem.eZ e h0;exact⟨L,by rw[n9 h1];exact hL,hve,hc.mono hle (fun _ _ _=>rfl) (Nat.le_refl _) (fun b _ hb=>hF b hb) (fun _ _=>rfl)⟩
 ·rintro e he e' nX L L' hL bU ⟨b,ho,cq⟩;rcases qf he with ⟨e0,h0,h1,rfl⟩|⟨h0,h1⟩
  ·exact ho.elim
  ·rcases qf nX with ⟨e1,h2,h3,rfl⟩|⟨h2,h3⟩
   ·exact cq.elim
   ·rw[n9 h1]at hL;rw[n9 h3]at bU;exact h.mem.apart e h0 e' h2 L L' hL bU ⟨b,ho,cq⟩
 ·intro b hb;exact h.mem.j9 b (fB b hb)
def yX(P:Program)(all:List Oper)(S:St)(o:Oper)(p:aU)(t:TypeId)(x:D):Prop:=
 ∀S',j0 all o p.ks S' S→∀φ G a w,Rel φ G S' a w→∀(next:Act→World→Prop)(R:Exit→Act→World→Prop),
  (∀φ' a' w' v,Rel φ' G {S' with mem:=putAll S'.mem p.es} a' w'→aP φ S'.mem w φ' (putAll S'.mem p.es) w'→aK w' (Fo G φ' (putAll S'.mem p.es)) x v→R (.panic [{v:=.iface t v,recovered:=false}]) a' w')→
  if Region.wanted o (yielded all.toArray a.tmps)then o.wp P a w next R else next (a.put o.dst undef) w
section
variable {all:List Oper} {ps:List aU}
theorem On{m:Mem}{x e:cI}(h:e∈Mem.set m x):e∈m∨e=x:=by
 induction m with
 |nil=>exact .inl h
 |cons y r ih=>
  simp only[Mem.set]at h;split at h
  ·rcases List.mem_cons.1 h with h|h
   ·exact .inr h
   ·exact .inl (List.mem_cons_of_mem _ h)
  ·rcases List.mem_cons.1 h with h|h
   ·exact .inl (by simp[h])
   ·rcases ih h with h|h
    ·exact .inl (List.mem_cons_of_mem _ h)
    ·exact .inr h
theorem xV:∀{es:List cI}{m:Mem}{e:cI},e∈putAll m es→e∈m∨e∈es
 |[],m,e,h=>.inl h
 |x::r,m,e,h=>by
  have h1:e∈putAll (Mem.set m x) r:=h;rcases xV h1 with h|h
  ·rcases On h with h|h
   ·exact .inl h
   ·exact .inr (by simp[h])
  ·exact .inr (List.mem_cons_of_mem _ h)
theorem BY(B:Nat)(jW:∀p∈ps,∀e∈p.es,e.aj<B):∀(l:List Nat)(S:St),(∀e∈S.mem,e.aj<B)→∀e∈(aG all ps S l).mem,e.aj<B
 |[],S,h=>h
 |i::l,S,h=>by
  have e1:aG all ps S (i::l)=aG all ps (aG all ps S [i]) l:=by simp[aG]
  rw[e1];refine BY B jW l _ ?_;simp only[aG,List.foldl_cons,List.foldl_nil];split
  ·rename_i o p ho hp;simp only[aU.app,ff];intro e he;rcases xV he with he|he
   ·exact h e he
   ·exact jW p (List.mem_of_getElem? hp) e he
  ·exact h
variable {S:St} {f:Nat→Bool}
theorem Js(hlen:ps.length=all.length)(cH:mg all ps=true)(aO:nZ all f){j:Nat}{o:Oper}(ho:all[j]?=some o)(hj:f j=false)(jL:∀i∈eF o,f i=true)
 (tQ:∀i p,ps[i]?=some p→i≠j→i∉(gC all []).getD j []→j∉(gC all []).getD i []→∀e∈p.es,100≤e.key) {k:Nat} (hk:k<100):
 Mem.get (aG all ps S (ia all.length f)).mem k=Mem.get (aG all ps S (List.range j)).mem k:=by
 have bz:j<all.length:=(List.getElem?_eq_some_iff.1 ho).1;have dF:∀j o,all[j]?=some o→∀p∈eF o,p<j:=fun j o ho=>(eu cH ho).choose_spec.2.1;have Gz:∀i∈(gC all []).getD j [],i<j∧f i=true:=fun i hi=>by
  obtain⟨h1,h2⟩:=jy (L:=fun i=>f i=true) dF (fun j o ho hf=>aO j o ho hf) j ⟨o,ho⟩ i hi;exact⟨h1,h2 fun o' cq=>by rw[ho]at cq;cases cq;exact jL⟩
 have Oo:∀i,f i=true→i<all.length→j∉(gC all []).getD i []:=by
  intro i ki iA qe;obtain⟨oi,ib⟩:∃oi,all[i]?=some oi:=⟨all[i],by simp[iA]⟩;have:=(jy (L:=fun i=>f i=true) dF (fun j o ho hf=>aO j o ho hf) i ⟨oi,ib⟩ j qe).2 (fun o' cq=>by rw[ib]at cq;cases cq;exact aO i oi ib ki);simp[hj]at this
 let q:Nat→Bool:=fun i=>(gC all []).getD j [] |>.contains i
 have hq:∀i,q i=true↔i∈(gC all []).getD j []:=fun i=>by simp[q]
 have yW:(ia all.length f).filter q=(List.range j).filter q:=by
  rw[xM bz hj,List.filter_append,List.filter_filter,List.filter_filter];have h2:(List.range' (j+1) (all.length-j-1)).filter (fun a=>q a&&f a)=[]:=by
   rw[List.filter_eq_nil_iff];intro i hi;have:=(List.mem_range'_1.1 hi).1;simp only[Bool.and_eq_true,not_and];intro ko;have:=(Gz i ((hq i).1 ko)).1;omega
  rw[h2,List.append_nil];refine List.filter_congr fun i hi=>?_;cases ko:q i with
  |false=>simp
  |true=>simp[(Gz i ((hq i).1 ko)).2]
 have far:∀i p,ps[i]?=some p→i≠j→q i=false→j∉(gC all []).getD i []→k∉p.es.map (·.key):=by
  intro i p hp kj ko qe uB;obtain⟨e,he,rfl⟩:=List.mem_map.1 uB;have:=tQ i p hp kj (fun h=>by rw[(hq i).2 h]at ko;cases ko) qe e he;omega
 have side:∀(i:Nat)(p:aU),i≠j→j∉(gC all []).getD i []→ps[i]?=some p→k∈p.es.map (·.key)→q i=true:=by
  intro i p kj qe hp uB;cases ko:q i with
  |true=>rfl
  |false=>exact absurd uB (far i p hp kj ko qe)
 rw[mh k q (ia all.length f) S S (fun i hi p hp uB=>by
  have lH:=List.mem_filter.1 hi;have iA:=List.mem_range.1 lH.1;refine side i p (fun h=>by subst h;simp[hj]at lH) (Oo i lH.2 iA) hp uB) rfl rfl,
  mh k q (List.range j) S S (fun i hi p hp uB=>by
   have iA:=List.mem_range.1 hi;refine side i p (by omega) (fun h=>?_) hp uB;obtain⟨oi,ib⟩:∃oi,all[i]?=some oi:=⟨all[i]'(by omega),by simp[show i<all.length by omega]⟩
   have:=(jy (L:=fun _=>True) dF (fun _ _ _ _ _ _=>trivial) i ⟨oi,ib⟩ j h).1;omega) rfl rfl,yW]
theorem Rb{P:Program}{S0 S1:St}{φ0:bQ}{G:Fr}{w0:World}{Q:Exit→Act→World→Prop}{j:Nat}{oj:Oper}{pj:aU}{t:TypeId}{x:D}
 (hlen:ps.length=all.length) (cH:mg all ps=true) (xN:(S0.mem.map (·.key)).Nodup) (hU:∀(i:Nat)(p:aU),ps[i]?=some p→∀e∈p.es,e.key∈p.ks)
 (de:∀i o p,all[i]?=some o→ps[i]?=some p→i≠j→j∉(gC all []).getD i []→j6 P all (aG all ps S0 (List.range i)) o p)
 (GF:all[j]?=some oj) (sS:ps[j]?=some pj) (GG:yX P all (aG all ps S0 (List.range j)) oj pj t x)
 (tQ:∀i p,ps[i]?=some p→i≠j→i∉(gC all []).getD j []→j∉(gC all []).getD i []→∀e∈p.es,100≤e.key)
 (dP:S1.n=S0.n) (eU:S1.gl=S0.gl) (FN:S1.env=[]) (rW:S1.mem=killM (verSum S0.mem+verSums ps+1) (putAll (aG all ps S0 (List.range j)).mem pj.es))
 (hQ:∀φ' a' w' v,Rel φ' G S1 a' w'→aP φ0 S0.mem w0 φ' S1.mem w'→aK w' (Fo G φ' S1.mem) x v→Q (.panic [{v:=.iface t v,recovered:=false}]) a' w'):
 ∀(fuel:Nat)(listed:Array Bool) φ a w,listed.size=all.length→nZ all (fun i=>listed.getD i false)→listed.getD j false=false→Rel φ G (aG all ps S0 (ia all.length fun i=>listed.getD i false)) a w→aP φ0 S0.mem w0 φ (aG all ps S0 (ia all.length fun i=>listed.getD i false)).mem w→
  ((List.range all.length).filter fun i=>!listed.getD i false).length≤fuel→wpAny P .any all.toArray Q fuel listed a w:=by
 have gS:j<all.length:=(List.getElem?_eq_some_iff.1 GF).1;have dF:∀j o,all[j]?=some o→∀p∈eF o,p<j:=fun j o ho=>(eu cH ho).choose_spec.2.1;have first:∀(f:Nat→Bool)(n:Nat),n≤all.length→(∀i,i<n→f i=true)∨∃i,i<n∧f i=false∧∀i',i'<i→f i'=true:=by
  intro f n;induction n with
  |zero=>exact fun _=>.inl (fun i hi=>by omega)
  |succ n ih=>
   intro hn;rcases ih (by omega)with h|⟨i,h1,h2,h3⟩
   ·cases hf:f n with
    |true=>
     refine .inl fun i hi=>?_;rcases Nat.lt_succ_iff_lt_or_eq.1 hi with h'|h'
     ·exact h i h'
     ·rw[h'];exact hf
    |false=>exact .inr ⟨n,by omega,hf,h⟩
   ·exact .inr ⟨i,by omega,h2,h3⟩
 have done:∀(listed:Array Bool),listed.size=all.length→listed.getD j false=false→Region.ready .any all.toArray listed=[]→False:=by
  intro listed bV wT pb;rcases first (fun i=>listed.getD i false) all.length (Nat.le_refl _)with h|⟨i,h1,h2,h3⟩
  ·have:=h j gS;simp only[wT]at this;cases this
  ·have:i∈Region.ready .any all.toArray listed:=by
    rw[mem_ready];refine⟨?_,all[i],by simp[h1],fun e he hb=>?_⟩
    ·have:i<listed.size:=by omega
     simp only[Array.getD_eq_getD_getElem?,Array.getElem?_eq_getElem this,Option.getD_some]at h2⊢;exact h2
    ·obtain⟨p,_,hp,_⟩:=eu cH (show all[i]?=some all[i] by simp[h1]);exact h3 e.on (hp e.on (by
      simp only[eF,List.mem_map,List.mem_filter];exact⟨e,⟨by simpa using he,hb⟩,rfl⟩))
   rw[pb]at this;cases this
 intro fuel;induction fuel with
 |zero=>
  intro listed φ a w bV aO wT hr hk hf;exfalso;have:j∈(List.range all.length).filter fun i=>!listed.getD i false:=List.mem_filter.2 ⟨List.mem_range.2 gS,by simp[wT]⟩;have:=List.length_pos_of_mem this;omega
 |succ fuel ih=>
  intro listed φ a w bV aO wT hr hk hf;refine⟨fun h=>(done listed bV wT h).elim,fun i hi=>?_⟩;rw[mem_ready]at hi;obtain⟨h0,o,ho,xO⟩:=hi;have cq:all[i]?=some o:=by simpa using ho
  have iA:i<all.length:=(List.getElem?_eq_some_iff.1 cq).1;have xP:i<listed.size:=by omega
  have n6:listed.getD i false=false:=by
   simp only[Array.getD_eq_getD_getElem?,Array.getElem?_eq_getElem xP,Option.getD_some]at h0⊢;exact h0
  have jL:∀k∈eF o,listed.getD k false=true:=by
   intro k aN;simp only[eF,List.mem_map,List.mem_filter]at aN;obtain⟨e,⟨he,hb⟩,rfl⟩:=aN;exact xO e (by simpa using he) hb
  by_cases kj:i=j
  ·subst kj;rw[GF]at cq;cases cq;have p7:=pM (S:=S0) hlen cH aO GF sS n6 jL;have hs:=GG _ p7 φ G a w hr (wpAny P .any all.toArray Q fuel (listed.setIfInBounds i true)) Q (fun φ' a' w' v b9 aN hv=>by
    have hB1:∀p∈ps,∀e∈p.es,e.aj<verSum S0.mem+verSums ps+1:=by
     intro p hp e he;have h1:=xT he;have h2:=BX hp;omega
    have xW:∀e∈S0.mem,e.aj<verSum S0.mem+verSums ps+1:=by
     intro e he;have h1:=xT he;omega
    have aA:∀e∈putAll (aG all ps S0 (ia all.length fun i=>listed.getD i false)).mem pj.es,e.aj<verSum S0.mem+verSums ps+1:=by
     intro e he;rcases xV he with he|he
     ·exact BY _ hB1 _ _ xW e he
     ·exact hB1 pj (List.mem_of_getElem? sS) e he
    obtain⟨iS,cw⟩:=ZE b9 aA;have fa:killM (verSum S0.mem+verSums ps+1) (putAll (aG all ps S0 (ia all.length fun i=>listed.getD i false)).mem pj.es)=S1.mem:=by
     rw[rW];refine Mem.ext ?_ ?_ fun k=>?_
     ·rw[n7,jO,eG];exact xN
     ·simp only[n7,jO,eG]
     ·rw[xU,xU];by_cases af6:k<100
      ·congr 1;exact m8 _ _ _ k (by simp only[eG]) (.inr (Js hlen cH aO GF n6 jL tQ af6))
      ·have iW:∀(m:Mem),(Mem.get m k).map (fun e:cI=>match decide (100≤e.key)with|true=>(⟨e.key,verSum S0.mem+verSums ps+1,.dead⟩:cI)|false=>e)=if k∈m.map (·.key)then some ⟨k,verSum S0.mem+verSums ps+1,.dead⟩else none:=by
        intro m;cases hg:Mem.get m k with
        |none=>
         rw[if_neg]
         ·rfl
         ·intro uB;obtain⟨e,he,hek⟩:=List.mem_map.1 uB;have:∀(m:Mem),e∈m→Mem.get m k≠none:=by
           intro m;induction m with
           |nil=>intro h;cases h
           |cons y r ihr=>
            intro h;simp only[Mem.get];split
            ·simp
            ·rename_i hy;rcases List.mem_cons.1 h with rfl|h
             ·exact absurd hek hy
             ·exact ihr h
          exact this m he hg
        |some e=>
         obtain⟨h1,h2⟩:=Mem.get_mem hg;have:decide (100≤e.key)=true:=by simp;omega
         simp only[Option.map_some,this];rw[if_pos (h2▸List.mem_map_of_mem h1),h2]
       rw[iW,iW];simp only[jO,eG]
    have hS:({(aG all ps S0 (ia all.length fun i=>listed.getD i false))with mem:=putAll (aG all ps S0 (ia all.length fun i=>listed.getD i false)).mem pj.es}:St).kill (verSum S0.mem+verSums ps+1)=S1:=by
     have a1:(aG all ps S0 (ia all.length fun i=>listed.getD i false)).n=S1.n:=by rw[nk,dP]
     have a2:(aG all ps S0 (ia all.length fun i=>listed.getD i false)).gl=S1.gl:=by rw[lN,eU]
     unfold St.kill;simp only[fa,a1,a2];rw[←FN]
    rw[hS]at iS cw;refine hQ _ a' w' v iS (hk.trans (aN.trans cw)) (hv.mono (fun _ _ _=>rfl) (Nat.le_refl _) (fun b hb=>Or.imp id (cw.own b hb))))
   unfold wpOp;rw[ho];simp only
   split at hs
   ·rename_i hw;rw[if_pos hw];exact .inl hs
   ·rename_i hw;rw[if_neg hw];exact hs
  ·obtain⟨p,hp,_⟩:=eu cH cq;have Oo:j∉(gC all []).getD i []:=by
    intro qe;have:=(jy (L:=fun i=>listed.getD i false=true) dF (fun j o ho hf=>aO j o ho hf) i ⟨o,cq⟩ j qe).2 (fun o' BW=>by rw[cq]at BW;cases BW;exact jL);rw[wT]at this;cases this
   have BV:=de i o p cq hp kj Oo;have p7:=pM (S:=S0) hlen cH aO cq hp n6 jL;have jM:(listed.setIfInBounds i true).getD i false=true:=by simp[xP]
   have lO:∀k,k≠i→(listed.setIfInBounds i true).getD k false=listed.getD k false:=fun k aN=>getD_set_ne false (Ne.symm aN);have heq:=vE (S:=S0) (f:=fun i=>listed.getD i false) (g:=fun k=>(listed.setIfInBounds i true).getD k false) hlen cH aO hU xN cq hp n6 jM lO;have GC:nZ all (fun k=>(listed.setIfInBounds i true).getD k false):=by
    intro k ok cV Q8 x hx;by_cases Ef:x=i
    ·subst Ef;exact jM
    ·show (listed.setIfInBounds i true).getD x false=true;rw[lO x Ef];by_cases kp:k=i
     ·subst kp;rw[cq]at cV;cases cV;exact jL x hx
     ·exact aO k ok cV ((lO k kp).symm.trans Q8) x hx
   have xQ:((List.range all.length).filter fun k=>!(listed.setIfInBounds i true).getD k false).length≤fuel:=by
    have h1:(List.range all.length).filter (fun k=>!(listed.setIfInBounds i true).getD k false)=((List.range all.length).filter fun k=>!listed.getD k false).filter (fun k=>k != i):=by
     rw[List.filter_filter];refine List.filter_congr fun k _=>?_;by_cases kp:k=i
     ·subst kp;rw[jM];simp
     ·rw[lO k kp];simp[kp]
    have fa:i∈(List.range all.length).filter fun k=>!listed.getD k false:=List.mem_filter.2 ⟨List.mem_range.2 iA,by simp[n6]⟩;rw[h1];have:(((List.range all.length).filter fun k=>!listed.getD k false).filter (fun k=>k != i)).length<((List.range all.length).filter fun k=>!listed.getD k false).length:=by
     rw[List.length_filter_lt_length_iff_exists];exact⟨i,fa,by simp⟩
    omega
   have hs:=BV _ p7 φ G a w hr (wpAny P .any all.toArray Q fuel (listed.setIfInBounds i true)) Q (fun φ' a' w' b9 aN=>
    ih _ φ' a' w' (by simpa using bV) GC (by rw[lO j (fun h=>kj h.symm)];exact wT) (b9.eqv heq) (by rw[←heq.mem];exact hk.trans aN) xQ)
   unfold wpOp;rw[ho];simp only
   split at hs
   ·rename_i hw;rw[if_pos hw];exact .inl hs
   ·rename_i hw;rw[if_neg hw];exact hs
end
end Go.Am
end

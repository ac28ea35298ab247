/-
  Texts of one proof, one behind the other.
-/
import Derived.Test.YtdjlcobfpppbbaaGreatDoorP1
import Derived.Orders
set_option linter.all false
section
namespace Go.Am
open Go
theorem zJ (sz:Nat):∀(vs:List (Nat×Value)) (k:Nat) (cells:Array Value),vs.map (·.1)=List.range' k vs.length→(∀v∈vs,v.2.cells.size=sz)→(k+vs.length)*sz=cells.size→
 ∃out,Instr.fill (fun i=>some (i*sz,sz)) cells vs=some out∧out.toList=cells.toList.take (k*sz)++vs.flatMap (fun v=>v.2.cells.toList)
 |[],k,cells,_,_,hl=>by
  refine⟨cells,rfl,?_⟩;simp only[List.length_nil,Nat.add_zero]at hl;simp only[hl,List.flatMap_nil,List.append_nil];rw[←Array.length_toList,List.take_length]
 |(i,v)::vs,k,cells,hi,hs,hl=>by
  simp only[List.map_cons,List.length_cons,List.range'_succ,List.cons.injEq]at hi;obtain⟨rfl,hi⟩:=hi;have hv:=hs (i,v) (by simp);simp only at hv;simp only[List.length_cons]at hl;have cg:i*sz+v.cells.size≤cells.size:=by
   rw[hv,←hl,←Nat.succ_mul];exact Nat.mul_le_mul_right _ (by omega)
  have h1:=E8 cells v.cells (i*sz) cg;obtain⟨c1,sf⟩:∃c1,c1=v.cells.zipIdx.foldl (fun cs (x:Value×Nat)=>cs.setIfInBounds (i*sz+x.2) x.1) cells:=⟨_,rfl⟩;rw[←sf]at h1;have iH:i*sz+v.cells.toList.length≤cells.toList.length:=by simpa using cg
  have bN:c1.size=cells.size:=by rw[←Array.length_toList,h1,bK _ _ _ iH];simp
  obtain⟨out,h2,h3⟩:=zJ sz vs (i+1) c1 hi (fun x hx=>hs x (by simp[hx])) (by rw[bN,←hl];congr 1;omega);refine⟨out,?_,?_⟩
  ·simp only[Instr.fill];rw[if_neg (by simp;omega),←h2,sf]
  ·rw[h3,h1,dp _ _ _ iH];have hvl:v.cells.toList.length=sz:=by simpa using hv
   rw[Nat.succ_mul,List.take_append_of_le_length (by simp;omega),List.take_of_length_le (by simp;omega)];simp
theorem AR {φ w F} {sz:Nat}:∀(ds:List D) (vs:List Value),ds.length=vs.length→(∀d∈ds,d.size=sz)→(∀(i:Nat) d v,ds[i]?=some d→vs[i]?=some v→az φ w F (.d d) v)→
 cj w F sz ds (vs.flatMap fun v=>v.cells.toList)
 |[],vs,hl,_,_=>by
  have:vs=[]:=List.eq_nil_of_length_eq_zero (by simpa using hl.symm);subst this;exact cj.nil ..
 |d::ds,vs,hl,hs,hr=>by
  cases vs with
  |nil=>simp at hl
  |cons v vs=>
   have ih:=AR (φ:=φ) (w:=w) (F:=F) ds vs (by simpa using hl) (fun x hx=>hs x (by simp[hx])) (fun i d v h h'=>hr (i+1) d v (by simpa using h) (by simpa using h'));have h0:=hr 0 d v (by simp) (by simp);cases h0 with|d _ _ h0=>
   have ll:=hs d (by simp);have eh:v.cells.size=sz:=by rw[h0.size,ll]
   have one:cj w F sz [d] v.cells.toList:=by
    refine⟨by simp[eh],fun u hu=>h0.cells.2.1 u (by simpa using hu),fun x hx=>by simp at hx;subst hx;exact ll,fun i x hx=>?_⟩;cases i with
    |zero=>simp at hx;subst hx;exact⟨v,h0,fun j c hj=>by simpa using hj⟩
    |succ i=>simp at hx
   simpa using one.append ih
theorem Fa {w:World} {F F':Nat→Prop} {sz:Nat} {ds:List D} {cs rest:List Value} {elem:TypeId} {fr} {w1:World} {arr:Array Value} (hr:cj w F sz ds cs) (hh:w1.heap[w.heap.size]?=some (.cells arr elem fr)) (eO:arr.toList=cs++rest)
 (hm:∀x v,aH w F x v→aH w1 F' x v) (hF:¬F' w.heap.size) (cap:Nat) (di:ds.length≤cap):aH w1 F' (.list ds) (.slice (some ⟨w.heap.size,0,none⟩) ds.length cap):=by
 obtain⟨a1,a2,a3,a4⟩:=hr;have wJ:∀i,∃v,∀d,ds[i]?=some d→aH w F d v∧∀(j:Nat) c,v.cells[j]?=some c→cs[i*sz+j]?=some c:=by
  intro i;cases hd:ds[i]? with
  |none=>exact⟨undef,fun d h=>by cases h⟩
  |some d=>obtain⟨v,h1,h2⟩:=a4 i d hd;exact⟨v,fun d' h=>by cases h;exact⟨h1,h2⟩⟩
 obtain⟨vs,eh⟩:=Classical.axiomOfChoice wJ;refine .list ds w.heap.size 0 cap sz vs di ?_ hF a3 (fun i d hd=>hm _ _ (eh i d hd).1) (fun i j c hi hj=>?_)
 ·exact (Array.getElem?_eq_some_iff.1 hh).1
 ·obtain⟨h1,h2⟩:=eh i ds[i] (by simp[hi]);have h3:=h2 j c hj;rw[CU hh,←Array.getElem?_toList,eO,Nat.zero_add,List.getElem?_append_left (List.getElem?_eq_some_iff.1 h3).1];exact h3
theorem Fb {φ:bI} {G:Fr} {m:Mem} {w w1:World} (hold:∀b,b<w.heap.size→w1.heap[b]?=w.heap[b]?) (hs:w.heap.size≤w1.heap.size) (x v) (hx:aH w (Fo G φ m) x v):aH w1 (Fo G φ m) x v:=
 hx.mono (fun b hb _=>hold b hb) hs (fun _ _ h=>h)
def partDs:List (Nat×AV)→Option (List D)
 |[]=>some []
 |(_,x)::r=>match x.norm,partDs r with
  | .d d,some ds=>some (d::ds)
  |_,_=>none
theorem AS {φ w F}:∀(ps:List (Nat×AV)) (ds:List D) (vs:List Value),partDs ps=some ds→ps.length=vs.length→(∀(i:Nat) p v,ps[i]?=some p→vs[i]?=some v→az φ w F p.2 v)→
 ds.length=vs.length∧∀(i:Nat) d v,ds[i]?=some d→vs[i]?=some v→az φ w F (.d d) v
 |[],ds,vs,h,hl,_=>by
  simp[partDs]at h;subst h;exact⟨by simpa using hl,fun i d v h'=>by simp at h'⟩
 |(i,x)::ps,ds,vs,h,hl,hr=>by
  simp only[partDs]at h;split at h<;>simp at h;rename_i d je hx ll;subst h;cases vs with
  |nil=>simp at hl
  |cons v vs=>
   have ih:=AS (φ:=φ) (w:=w) (F:=F) ps je vs ll (by simpa using hl) (fun i p v h h'=>hr (i+1) p v (by simpa using h) (by simpa using h'));refine⟨by simp[ih.1],fun j d' v' h h'=>?_⟩;cases j with
   |zero=>
    simp at h h';subst h;subst h';have:=(hr 0 (i,x) v (by simp) (by simp)).norm;simp only[hx]at this;exact this
   |succ j=>exact ih.2 j d' v' (by simpa using h) (by simpa using h')
def gB (P:Program) (t:TypeId) (k0:Nat) (len:Nat):List (Nat×AV)→Option cJ→Option dj
 |[(0,.lit (.slice none 0 0))],some ⟨_,v,_⟩=>match tk P t with
  | .slice e=>match fm P e,lH P e with
   |some sz,some _=>some (.cW (sz=1∧len=1) (.vec k0 (v+1) 0 1) ⟨k0,v+1,.box [.lit (.slice none 0 0)]⟩)
   |_,_=>none
  |_=>none
 |_,_=>none
def buildSlice0 (P:Program) (m:Mem) (k0:Nat) (t:TypeId) (len:Nat) (ps:List (Nat×AV)):dj:=
 match tk P t with
 | .slice e=>match fm P e,lH P e,partDs ps with
  |some sz,some zd,some ds=>match Mem.get m k0 with
   |some ⟨_,v,_⟩=>.cW (zd.size=sz∧len*sz≤2^24∧ps.map (·.1)=List.range' 0 len∧(∀d∈ds,d.size=sz)) (.vec k0 (v+1) 0 len) ⟨k0,v+1,.vec sz ds⟩
   |none=>.val (zd.size=sz∧len*sz≤2^24∧ps.map (·.1)=List.range' 0 len∧(∀d∈ds,d.size=sz)) (.d (.list ds))
  |_,_,_=>.no
 |_=>.no
def buildSliceR (P:Program) (m:Mem) (k0:Nat) (t:TypeId) (len:Nat) (ps:List (Nat×AV)):dj:=
 match gB P t k0 len ps (Mem.get m k0)with
 |some r=>r
 |none=>buildSlice0 P m k0 t len ps
theorem tS {P:Program} {w:World} {t e:TypeId} {sz len:Nat} {zd:D} (ht:tk P t=.slice e) (hs:fm P e=some sz) (hz:lH P e=some zd) (hb:len*sz≤2^24)
 {vs:List (Nat×Value)} (hi:vs.map (·.1)=List.range' 0 len) (hv:∀v∈vs,v.2.cells.size=sz):
 ∃arr:Array Value,arr.toList=vs.flatMap (fun v=>v.2.cells.toList)∧(Instr.buildSlice t len vs.toArray).run P w=.ok (.slice (some ⟨w.heap.size,0,none⟩) len len) (w.alloc (.cells arr e)):=by
 obtain⟨z,bB,uH,oH,_⟩:=AO hz w;have hlen:vs.length=len:=by
  have:=congrArg List.length hi;simpa using this
 have pP:¬(len*sz>2^24):=by omega
 by_cases h0:len*sz=0
 ·obtain⟨out,h1,h2⟩:=zJ sz vs 0 #[] (by rw[hlen];exact hi) hv (by rw[hlen];simp[h0]);refine⟨out,by simpa using h2,?_⟩;simp only[Instr.buildSlice,Sem.run_bind,run_underlying (fJ ht),Result.andThen_ok,run_sizeOf hs,h0,if_true,show Array.range 0=#[]from rfl,Array.map_empty,h1,show ¬(0>2^24) by decide,if_false,Sem.run_bind,Sem.run_pure,ie]
 ·obtain⟨out,h1,h2⟩:=zJ sz vs 0 ((Array.range (len*sz)).map (z.cells[·%z.cells.size]!)) (by rw[hlen];exact hi) hv (by rw[hlen];simp);refine⟨out,by simpa using h2,?_⟩;simp only[Instr.buildSlice,Sem.run_bind,run_underlying (fJ ht),Result.andThen_ok,run_sizeOf hs,pP,if_false,h0,bB,Sem.run_pure,h1,ie]
theorem Ed (P:Program) (S:St) (o:Oper) (t:TypeId) (len:Nat) (ps:Array (Nat×Operand)) (ho:o.op=.buildSlice t len ps) (hx:∀x∈ps.toList,(S.opd x.2).1=true):
 aF P S o (buildSliceR P S.mem (keyOf o) t len (ps.toList.map fun x=>(x.1,(S.opd x.2).2))):=by
 have parts:∀{φ G a w},Rel φ G S a w→∀(i:Nat) (p:Nat×AV) (v:Value),(ps.toList.map fun x=>(x.1,(S.opd x.2).2))[i]?=some p→(ps.toList.map fun x=>a.eval x.2)[i]?=some v→az φ w (Fo G φ S.mem) p.2 v:=by
  intro φ G a w hr i p v h1 h2;simp only[List.getElem?_map,Option.map_eq_some_iff]at h1 h2;obtain⟨x,E9,rfl⟩:=h1;obtain⟨y,C5,rfl⟩:=h2;rw[E9]at C5;cases C5;exact hr.opd _ (hx x (List.mem_of_getElem? E9))
 have main:∀{e sz zd ds},tk P t=.slice e→fm P e=some sz→lH P e=some zd→partDs (ps.toList.map fun x=>(x.1,(S.opd x.2).2))=some ds→zd.size=sz→len*sz≤2^24→
  (ps.toList.map fun x=>(x.1,(S.opd x.2).2)).map (·.1)=List.range' 0 len→(∀d∈ds,d.size=sz)→∀{φ G a w},Rel φ G S a w→
  ds.length=len∧∃arr:Array Value,cj w (Fo G φ S.mem) sz ds arr.toList∧(execOp a.eval o).run P w=.ok (.value (.slice (some ⟨w.heap.size,0,none⟩) len len)) (w.alloc (.cells arr e)):=by
  intro e sz zd ds ht hs hz ll nk hb hi bN φ G a w hr;obtain⟨h1,h2⟩:=AS (φ:=φ) (w:=w) (F:=Fo G φ S.mem) _ ds (ps.toList.map fun x=>a.eval x.2) ll (by simp) (parts hr);have jx:=AR ds _ h1 bN h2;have lG:(ps.toList.map fun x=>(x.1,a.eval x.2)).map (·.1)=List.range' 0 len:=by rw[←hi];simp
  have hv:∀v∈(ps.toList.map fun x=>(x.1,a.eval x.2)),v.2.cells.size=sz:=by
   intro v hv;simp only[List.mem_map]at hv;obtain⟨x,gr,rfl⟩:=hv;obtain⟨i,np,Fc⟩:=List.mem_iff_getElem.1 gr;have hid:i<ds.length:=by rw[h1];simpa using np
   have:=h2 i ds[i] (a.eval x.2) (by simp[hid]) (by simp[List.getElem?_eq_getElem np,Fc]);cases this with|d _ _ h=>rw[h.size];exact bN _ (List.getElem_mem hid)
  obtain⟨arr,ha,bB⟩:=tS (P:=P) (w:=w) ht hs hz hb lG hv;refine⟨?_,arr,?_,?_⟩
  ·have:=congrArg List.length hi;simp at this;rw[h1];simp;exact this
  ·rw[ha];have e:(ps.toList.map fun x=>(x.1,a.eval x.2)).flatMap (fun v=>v.2.cells.toList)=(ps.toList.map fun x=>a.eval x.2).flatMap (fun v=>v.cells.toList):=by simp[List.flatMap_map]
   rw[e];exact jx
  ·have e2:(ps.map fun x=>(x.1,a.eval x.2))=(ps.toList.map fun x=>(x.1,a.eval x.2)).toArray:=by apply Array.ext';simp
   simp only[execOp,ho,Sem.run_bind];have e3:(ps.map fun (i,x)=>(i,a.eval x))=(ps.toList.map fun x=>(x.1,a.eval x.2)).toArray:=e2;rw[e3,bB];rfl
 have nil:∀r,gB P t (keyOf o) len (ps.toList.map fun x=>(x.1,(S.opd x.2).2)) (Mem.get S.mem (keyOf o))=some r→aF P S o r:=by
  intro r vP;unfold gB at vP;split at vP
  ·rename_i key v cont jS hg;split at vP
   ·rename_i e gg;split at vP
    ·rename_i sz zd hs hz;cases vP;refine aF.ql ?_;rintro ⟨rfl,rfl⟩ φ G a w hr;have dg:ps.toList.length=1:=by have:=congrArg List.length jS;simpa using this
     obtain⟨q,hq⟩:∃q,ps.toList=[q]:=by
      match hql:ps.toList,dg with
      |[q],_=>exact⟨q,rfl⟩
     have XK:=parts hr 0 (0,.lit (.slice none 0 0)) (a.eval q.2) (by rw[jS];rfl) (by rw[hq];rfl);simp only at XK;have bS:a.eval q.2=.slice none 0 0:=by
      generalize a.eval q.2=u at XK;cases XK;rfl
     have hq0:q.1=0:=by
      rw[hq]at jS;simp only[List.map_cons,List.map_nil,List.cons.injEq,Prod.mk.injEq]at jS;exact jS.1.1
     obtain⟨arr,ha,bB⟩:=tS (P:=P) (w:=w) (len:=1) gg hs hz (by decide) (vs:=[(0,.slice none 0 0)]) rfl (by simp[Value.cells]);have eO:arr=#[.slice none 0 0]:=by apply Array.ext';rw[ha];simp[Value.cells]
     subst eO;obtain⟨hm,hk,L,hL,aw,_⟩:=hr.mem.get hg;simp only at hk aw;subst hk;obtain⟨φ',dr,aN,fe,ep⟩:=hr.mem.fresh (e:=⟨keyOf o,v,cont⟩) hm hL aw w rfl rfl rfl rfl #[.slice none 0 0] e 1 1 (.box [.lit (.slice none 0 0)]) (fun _ hb=>hb) (fun φ' hle bX jb jc=>by
      refine⟨⟨rfl,rfl,rfl⟩,#[.slice none 0 0],e,.new jc,rfl,by simp[cn],fun n c u hc hu=>?_⟩;cases n with
      |zero=>simp at hc hu;subst hc;subst hu;exact .lit _ rfl
      |succ n=>simp at hc)
     refine⟨.slice (some ⟨w.heap.size,0,none⟩) 1 1,_,φ',.inl ?_,.vec _ (v+1) 0 _ _ _ fe (Nat.le_refl _) (fun _=>⟨_,_,rfl,Nat.le_refl _,fun _=>⟨by simp,by simp⟩⟩) rfl,dr,aN,ep⟩;have e3:(ps.map fun (i,x)=>(i,a.eval x))=#[(0,.slice none 0 0)]:=by
      apply Array.ext';simp[hq,hq0,bS]
     simp only[execOp,ho,Sem.run_bind];rw[e3];have h9:(Instr.buildSlice t 1 #[(0,Value.slice none 0 0)]).run P w=_:=bB;rw[h9];rfl
    ·cases vP
   ·cases vP
  ·cases vP
 unfold buildSliceR;split
 ·rename_i r vP;exact nil r vP
 rename_i vP;clear vP nil;unfold buildSlice0;split
 ·rename_i e gg;split
  ·rename_i sz zd ds hs hz ll;split
   ·rename_i key v cont hg;refine aF.ql ?_;rintro ⟨nk,hb,hi,bN⟩ φ G a w hr;obtain⟨hlen,arr,jx,bB⟩:=main gg hs hz ll nk hb hi bN hr;obtain⟨hm,hk,L,hL,aw,_⟩:=hr.mem.get hg;simp only at hk aw;subst hk;obtain⟨φ',dr,aN,fe,ep⟩:=hr.mem.fresh (e:=⟨keyOf o,v,cont⟩) hm hL aw w rfl rfl rfl rfl arr e sz len (.vec sz ds) (fun _ hb=>hb.2) (fun φ' hle bX jb jc=>by
     refine tc (cs:=arr.toList) (rest:=[]) (elem:=e) rfl rfl (jx.mono jb) (by simp) (by simpa using Nat.le_of_eq hlen) (by rw[List.append_nil,jx.1,hlen]) (fun _=>?_);refine eR.new ?_;rw[jc,List.append_nil,Array.toArray_toList])
    exact⟨_,_,φ',.inl bB,.vec _ (v+1) 0 _ _ _ fe (Nat.le_refl _) (fun _=>⟨_,_,rfl,Nat.le_refl _,fun _=>⟨by simp,by simp⟩⟩) rfl,dr,aN,ep⟩
   ·refine aF.ahA ?_;rintro ⟨nk,hb,hi,bN⟩ φ G a w hr;obtain⟨hlen,arr,jx,bB⟩:=main gg hs hz ll nk hb hi bN hr;have hold:∀b,b<w.heap.size→(w.alloc (.cells arr e)).heap[b]?=w.heap[b]?:=fun b hb=>RowKit.Below.heap_alloc w _ b hb;have jc:=heap_alloc_new w (.cells arr e);refine⟨_,_,.inl bB,.d _ _ ?_,hold,by simp,rfl,rfl,rfl⟩;have:=Fa (cap:=len) jx jc (rest:=[]) (by simp) (fun x v h=>Fb hold (by simp) x v h) (fun h=>absurd (zG hr.mem _ h) (Nat.lt_irrefl _)) (Nat.le_of_eq hlen);rw[hlen]at this;exact this
  ·trivial
 ·trivial
def pT (s:List UInt8):List D:=s.map fun b=>.int .u8 b.toNat
def byteOf:D→UInt8
 | .int _ n=>UInt8.ofNat n.toNat
 |_=>0
def D.isByte:D→Bool
 | .int .u8 _=>true
 |_=>false
theorem D.Oa {d:D} (h:d.isByte=true):∃n,d=.int .u8 n:=by
 unfold D.isByte at h;split at h<;>simp_all
def convR (P:Program) (m:Mem) (k0:Nat) (src dst:TypeId) (x:AV):dj:=
 match tk P dst,x with
 | .int k,.d (.int _ n)=>.val (tk P src≠.other) (.d (.int k (k.wrap n)))
 | .str,.d (.int _ n)=>.val (tk P src≠.other) (.d (.str (Utf8.encode n).data.toList))
 | .str,.d (.str s)=>.val (tk P src=.str) (.d (.str s))
 | .str,x=>match tk P src with
  | .slice e=>match srcRows m 1 x with
   |some (c,ys)=>.val (c∧tk P e=.int .u8∧fm P e=some 1∧∀d∈ys,d.isByte=true) (.d (.str (ys.map byteOf)))
   |none=>.no
  |_=>.no
 | .slice e,.d (.str s)=>match tk P src,tk P e,Mem.get m k0 with
  | .str,.int .u8,none=>.val True (.d (.list (pT s)))
  |_,_,_=>.no
 |_,_=>.no
theorem AT {P:Program} {w:World}:∀(cs:List Value) (s0:ByteArray) (ns:List Int),cs=ns.map (Value.int .u8)→
 (forIn cs s0 (fun c s=>(match c with| .int .u8 n=>pure (ForInStep.yield (s.push (UInt8.ofNat n.toNat)))|_=>(do stuck "bytesToString: byte expected";pure (ForInStep.yield s)):Sem (ForInStep ByteArray)))).run P w=.ok ⟨(s0.data.toList++ns.map fun n=>UInt8.ofNat n.toNat).toArray⟩ w
 |[],s0,ns,h=>by
  have:ns=[]:=by simpa using h.symm
  subst this;simp
 |c::cs,s0,ns,h=>by
  cases ns with
  |nil=>simp at h
  |cons n ns=>
   simp at h;obtain⟨rfl,rfl⟩:=h;simp only[List.forIn_cons,Sem.run_bind,Sem.run_pure,Result.andThen_ok];rw[AT (ns.map (Value.int .u8)) (s0.push (UInt8.ofNat n.toNat)) ns rfl];simp
theorem H4 {P:Program} {w:World} {e:TypeId} {b:ByteArray}:∃(arr:Array Value) (fr:Nat×Nat) (w':World) (cap:Nat) (rest:List Value),b.size≤cap∧(Conv.stringToBytes e b).run P w=.ok (.slice (some ⟨w.heap.size,0,none⟩) b.size cap) w'∧
 arr.toList=(b.data.toList.map fun x=>Value.int .u8 x.toNat)++rest∧w'.heap[w.heap.size]?=some (.cells arr e fr)∧(∀k,k<w.heap.size→w'.heap[k]?=w.heap[k]?)∧w.heap.size≤w'.heap.size∧w'.os=w.os∧w'.tape=w.tape∧w'.output=w.output:=by
 obtain⟨cap,di⟩:∃cap,cap=(Question.appendCap b.size 0 e).cut (w.tape w.drawn (.appendCap b.size 0 e)):=⟨_,rfl⟩;obtain⟨arr,eO⟩:∃arr:Array Value,arr=(b.data.map fun x=>Value.int .u8 x.toNat)++Array.replicate (cap-b.size) (.int .u8 0):=⟨_,rfl⟩;obtain⟨w1,oJ⟩:∃w1,w1=w.drew.alloc (.cells arr e):=⟨_,rfl⟩;have jc:w1.heap[w.heap.size]?=some (.cells arr e (0,0)):=by
  have:=heap_alloc_new w.drew (.cells arr e);rw[←oJ]at this;exact this
 have cg:w.heap.size<w1.heap.size:=(Array.getElem?_eq_some_iff.1 jc).1;have pU:w1.shape? w.heap.size=some (e,arr.size):=by simp[World.shape?,jc]
 refine⟨arr,(arr.size,arr.size+1),w1.freeze ⟨w.heap.size,arr.size,none⟩ 1,cap,List.replicate (cap-b.size) (.int .u8 0),?_,?_,?_,?_,?_,?_,?_,?_,?_⟩
 ·rw[di];simp[Question.cut]
 ·have wJ:(choose (.appendCap b.size 0 e)).run P w=.ok cap w.drew:=by
   rw[di];rfl
  have wA:(newRow e arr).run P w.drew=.ok ⟨w.heap.size,0,none⟩ w1:=by rw[oJ];rfl
  have NV:(markStringish ⟨w.heap.size,0,none⟩).run P w1=.ok () (w1.freeze ⟨w.heap.size,arr.size,none⟩ 1):=by
   simp only[markStringish,shape,Sem.run_bind,Sem.run,pU,Result.andThen_ok,freeze]
  simp only[Conv.stringToBytes,Sem.run_bind,wJ,Result.andThen_ok,←eO,wA,NV,Sem.run_pure]
 ·rw[eO];simp
 ·simp[World.freeze,Array.getElem?_modify,jc]
 ·intro k hk;have h1:(w1.freeze ⟨w.heap.size,arr.size,none⟩ 1).heap[k]?=w1.heap[k]?:=by
   simp only[World.freeze,Nat.one_ne_zero,if_false,Array.getElem?_modify];rw[if_neg (by omega)]
  rw[h1,oJ];exact RowKit.Below.heap_alloc w.drew _ k hk
 ·simp[World.freeze];omega
 ·simp[World.freeze,oJ];rfl
 ·simp[World.freeze,oJ]
 ·simp[World.freeze,oJ];rfl
theorem Ll (n:Int):byteOf (.int .u8 n)=UInt8.ofNat n.toNat:=rfl
theorem IG (P:Program) (S:St) (o:Oper) (src dst:TypeId) (x:Operand) (ho:o.op=.convert src dst x) (hx:(S.opd x).1=true):aF P S o (convR P S.mem (keyOf o) src dst (S.opd x).2):=by
 have bB:∀(a:Act) (w w':World) (v:Value),(convert src dst (a.eval x)).run P w=.ok v w'→(execOp a.eval o).run P w=.ok (.value v) w':=by
  intro a w w' v h;simp[execOp,ho,h]
 unfold convR;split
 ·rename_i k k' n hd bF;refine aF.pure fun hc φ G a w hr=>?_;have h1:=hr.opd x hx;rw[bF]at h1;obtain⟨td,hu⟩:=zI hc;refine⟨.int k (k.wrap n),bB a w w _ ?_,.d _ _ (.int _ _)⟩;rw[jz h1];simp[convert,run_underlying hu,run_underlying (tQ hd),Conv.intToInt]
 ·rename_i k n hd bF;refine aF.pure fun hc φ G a w hr=>?_;have h1:=hr.opd x hx;rw[bF]at h1;obtain⟨td,hu⟩:=zI hc;refine⟨.string (Utf8.encode n),bB a w w _ ?_,.d _ _ (.str _ _ rfl)⟩;rw[jz h1];simp[convert,run_underlying hu,run_underlying (mL hd),Conv.intToString]
 ·rename_i s hd bF;refine aF.pure fun hc φ G a w hr=>?_;have h1:=hr.opd x hx;rw[bF]at h1;obtain⟨b,e1,rfl⟩:=rr h1;refine⟨.string b,bB a w w _ ?_,.d _ _ (.str _ _ rfl)⟩;rw[e1];simp[convert,run_underlying (mL hc),run_underlying (mL hd)]
 ·rename_i hd _ _;split
  ·rename_i e IH;split
   ·rename_i c ys mC;refine aF.pure ?_;rintro ⟨hc,lu,jw,cZ⟩ φ G a w hr;replace cZ:=fun d hd=>D.Oa (cZ d hd);have bF:=hr.opd x hx;obtain⟨news,kN⟩:=EP (P:=P) hr.mem bF mC hc (fun d hd=>by obtain⟨n,rfl⟩:=cZ d hd;rfl);have hlen:=kN.len w;have Fe:=kN.first w (fun _ _=>rfl);obtain⟨r1,r2,r3,r4⟩:=kN.rows
    --vK cells as numbers
    have Uj:∃ns:List Int,news=ns.map (Value.int .u8)∧ys=ns.map (D.int .u8):=by
     refine⟨ys.map fun d=>(match d with| .int _ n=>n|_=>0),?_,?_⟩
     ·apply List.ext_getElem?;intro i;by_cases hi:i<ys.length
      ·obtain⟨v,hv,oK⟩:=r4 i ys[i] (by simp[hi]);obtain⟨n,hn⟩:=cZ ys[i] (List.getElem_mem hi);rw[hn]at hv;cases hv;have:=oK 0 (.int .u8 n) rfl;simp only[Nat.mul_one,Nat.add_zero]at this;rw[this];simp[hi,hn]
      ·rw[List.getElem?_eq_none (by rw[r1];omega),List.getElem?_eq_none (by simp;omega)]
     ·apply List.ext_getElem?;intro i;by_cases hi:i<ys.length
      ·obtain⟨n,hn⟩:=cZ ys[i] (List.getElem_mem hi);simp[hi,hn]
      ·rw[List.getElem?_eq_none (by omega),List.getElem?_eq_none (by simp;omega)]
    obtain⟨ns,rfl,rfl⟩:=Uj;generalize bS:a.eval x=xv at hlen Fe bF;have hv:(∃ao m cap,xv=.slice ao m cap)∨(∃b,xv=.string b):=by
     cases xv<;>first|exact .inl ⟨_,_,_,rfl⟩|exact .inr ⟨_,rfl⟩|(simp[Builtin.lenOf,stuck]at hlen)
    refine⟨.string ⟨(ns.map fun n=>UInt8.ofNat n.toNat).toArray⟩,bB a w w _ ?_,.d _ _ (.str _ _ ?_)⟩
    ·rw[bS];rcases hv with ⟨ao,m,cap,rfl⟩|⟨b,rfl⟩
     ·simp only[Builtin.lenOf,Sem.run_pure,Result.ok.injEq,and_true]at hlen;subst hlen;cases ao with
      |none=>
       have eL:ns=[]:=by
        simp only[Builtin.firstCells,Sem.run_pure,Result.ok.injEq,and_true]at Fe;have:=congrArg Array.size Fe;simp at this;exact List.eq_nil_of_length_eq_zero this.symm
       subst eL;simp[convert,run_underlying (fJ IH),run_underlying (mL hd),run_underlying (tQ lu),Conv.bytesToString];rfl
      |some ad=>
       simp only[Builtin.firstCells,Nat.mul_one]at Fe;have hb:=AT (P:=P) (w:=w) (ns.map (Value.int .u8)) ByteArray.empty ns rfl;simp only[convert,run_underlying (fJ IH),run_underlying (mL hd),run_underlying (tQ lu),Sem.run_bind,Result.andThen_ok,Conv.bytesToString,Fe];rw[←Array.forIn_toList];simp only[Sem.run_pure];refine Eq.trans (congrArg (fun r=>Result.andThen r fun a w'=>Result.ok (Value.string a) w') hb) ?_;rfl
     ·exfalso;have Uj:∀s,(S.opd x).2=.d (.str s)→False:=by assumption
      generalize (S.opd x).2=y at mC bF Uj;unfold srcRows at mC;split at mC
      ·cases bF with|d _ _ h=>cases h
      ·exact Uj _ rfl
      ·cases bF
      ·cases bF
      ·split at mC
       ·rename_i key v' cL rows hg;simp only[Option.some.injEq,Prod.mk.injEq]at mC;obtain⟨rfl,_⟩:=mC;obtain⟨_,_,L,hL,aw,_⟩:=hr.mem.get hg;cases bF with
        |vec _ _ _ _ _ L' bM _ h _=>
         rw[hL]at bM;cases bM;obtain⟨_,_,h2,_⟩:=h (by rw[←(of_decide_eq_true hc).1];exact aw.symm);cases h2
       ·cases mC
      ·cases mC
    ·simp[Ll,Function.comp_def]
   ·trivial
  ·trivial
 ·rename_i e s hd bF;split
  ·rename_i IH lu hg;intro _ φ G a w hr;have h1:=hr.opd x hx;rw[bF]at h1;obtain⟨b,e1,rfl⟩:=rr h1;have oM:b.size=b.data.toList.length:=by rw[Array.length_toList];rfl
   obtain⟨arr,fr,w',cap,rest,di,wo,eO,hh,hold,bN,pK,AN,fj⟩:=H4 (P:=P) (w:=w) (e:=e) (b:=b);have jx:cj w (Fo G φ S.mem) 1 (pT b.data.toList) (b.data.toList.map fun x=>Value.int .u8 x.toNat):=by
    refine⟨by simp[pT],?_,?_,?_⟩
    ·intro v hv;simp only[List.mem_map]at hv;obtain⟨y,_,rfl⟩:=hv;rfl
    ·intro d hd;simp only[pT,List.mem_map]at hd;obtain⟨y,_,rfl⟩:=hd;rfl
    ·intro i d hd;simp only[pT,List.getElem?_map,Option.map_eq_some_iff]at hd;obtain⟨y,hy,rfl⟩:=hd;refine⟨.int .u8 y.toNat,.int _ _,fun j c hj=>?_⟩;cases j with
     |zero=>simp only[Value.cells]at hj;simp at hj;subst hj;simp only[List.getElem?_map,Nat.mul_one,Nat.add_zero,hy];rfl
     |succ j=>simp[Value.cells]at hj
   have hl:=Fa (cap:=cap) jx hh eO (fun x v h=>Fb hold bN x v h) (fun h=>absurd (zG hr.mem _ h) (Nat.lt_irrefl _)) (by simp[pT];exact di);refine⟨_,w',.inl (bB a w w' _ ?_),.d _ _ hl,hold,bN,pK,AN,fj⟩;have hlen:(pT b.data.toList).length=b.size:=by rw[oM];simp[pT]
   rw[e1,hlen];simp only[convert,run_underlying (mL IH),run_underlying (fJ hd),run_underlying (tQ lu),Sem.run_bind,Result.andThen_ok];exact wo
  ·trivial
 ·trivial
def okAll (S:St):List Operand→Bool
 |[]=>true
 |x::r=>(S.opd x).1&&okAll S r
theorem sh {S:St}:∀{l:List Operand},okAll S l=true→∀x∈l,(S.opd x).1=true
 |[],_,x,hx=>by simp at hx
 |y::r,h,x,hx=>by
  simp only[okAll,Bool.and_eq_true]at h;rcases List.mem_cons.1 hx with rfl|hx
  ·exact h.1
  ·exact sh h.2 x hx
def opOk (S:St) (o:Oper):Bool:=
 match o.op with
 | .pick _ _ _=>true
 |op=>okAll S op.operands.toList
def moveR (P:Program) (m:Mem) (k0:Nat) (t:TypeId) (x:AV):dj:=
 match x with
 | .lit (.slice none 0 0)=>match Mem.get m k0 with
  |some ⟨_,v,_⟩=>match tk P t with
   | .slice e=>match fm P e with
    |some sz=>.cW true (.vec k0 (v+1) 0 0) ⟨k0,v+1,.vec sz []⟩
    |none=>.val true x
   |_=>.val true x
  |none=>.val true x
 |x=>.val true x
theorem Ff (P:Program) (S:St) (o:Oper) (x:Operand) (ho:o.op=.move x∨o.op=.assign x) (hx:(S.opd x).1=true):aF P S o (moveR P S.mem (keyOf o) o.type (S.opd x).2):=by
 have plain:aF P S o (.val true (S.opd x).2):=by
  have:=V2 P S o x ho hx;simpa using this
 unfold moveR;split
 ·rename_i bF;split
  ·rename_i key v cont hg;split
   ·split
    ·rename_i sz hs;intro _ φ G a w hr;obtain⟨hm,hk,L,hL,aw,b8⟩:=hr.mem.get hg;simp only at hk aw;subst hk;have hv:=hr.opd x hx;rw[bF]at hv;generalize bS:a.eval x=u at hv;cases hv;obtain⟨φ',dr,aN,fe,ep⟩:=hr.mem.cW (e':=⟨keyOf o,v+1,.vec sz []⟩) hm hL rfl (L':=⟨v+1,0,sz,0,0,[]⟩) (by simp only;omega) (fun hh=>by simp only at hh;omega) rfl
      (w':=w) (fun _ _ _=>rfl) (Nat.le_refl _) (fun _ ho=>absurd ho.1 (by simp)) rfl rfl rfl (fun φ' jq kX=>
       ⟨rfl,by simp,by simp,fun hc=>by simp at hc⟩)
     refine⟨.slice none 0 0,w,φ',.inl ?_,?_,dr,aN,ep⟩
     ·rcases ho with ho|ho<;>simp[execOp,ho,bS]
     ·exact .vec _ (v+1) 0 _ _ _ fe (Nat.le_refl _) (fun _=>⟨_,_,rfl,by simp,fun h=>by omega⟩) rfl
    ·exact plain
   ·exact plain
  ·exact plain
 ·exact plain
def isNilV:Value→Bool
 | .slice none 0 0=>true
 | .pointer none=>true
 | .nilIface=>true
 |_=>false
def binOpR (P:Program) (S:St) (op:BinOp) (t:TypeId) (x y:Operand):dj:=
 match y with
 | .const v=>match isNilV v,op with
  |true,.eql=>nilR P S.mem false t (S.opd x).2 v
  |true,.neq=>nilR P S.mem true t (S.opd x).2 v
  |_,_=>binR P op t (S.opd x).2 (S.opd (.const v)).2
 |y=>binR P op t (S.opd x).2 (S.opd y).2
theorem Ob (P:Program) (S:St) (o:Oper) (XL:BinOp) (t t':TypeId) (x y:Operand) (ho:o.op=.binOp XL t x y t') (hx:(S.opd x).1=true) (hy:(S.opd y).1=true):aF P S o (binOpR P S XL t x y):=by
 unfold binOpR;split
 ·split
  ·exact IF P S o false t t' x _ (by simpa using ho) hx
  ·exact IF P S o true t t' x _ (by simpa using ho) hx
  ·exact IE P S o _ t t' x _ ho hx hy
 ·exact IE P S o XL t t' x y ho hx hy
theorem Fh {w:World} {F F':Nat→Prop} {sz:Nat} {ds:List D} {cs:List Value} {b off cap:Nat} (hr:cj w F sz ds cs) (hc:∀(j:Nat) v,cs[j]?=some v→w.cell? ⟨b,off+j,none⟩=some v)
 (hb:b<w.heap.size) (hF:∀b,F' b→F b) (mq:¬F' b) (di:ds.length≤cap):aH w F' (.list ds) (.slice (some ⟨b,off,none⟩) ds.length cap):=by
 obtain⟨h1,h2,h3,h4⟩:=hr;refine .list ds b off cap sz (fun i=>if h:i<ds.length then Classical.choose (h4 i ds[i] (by simp[h]))else undef) di hb mq h3 (fun i d hd=>?_) (fun i j c hi hj=>?_)
 ·have hi:=(List.getElem?_eq_some_iff.1 hd).1;have:=Classical.choose_spec (h4 i ds[i] (by simp[hi]));simp only[hi,dif_pos];have e:ds[i]=d:=(List.getElem?_eq_some_iff.1 hd).2;rw[←e];exact this.1.mono (fun _ _ _=>rfl) (Nat.le_refl _) (fun b _=>hF b)
 ·have:=Classical.choose_spec (h4 i ds[i] (by simp[hi]));simp only[hi,dif_pos]at hj;have h5:=hc _ _ (this.2 j c hj);rw[←Nat.add_assoc]at h5;exact h5
theorem zK {φ w F F'} {k aj off len sz:Nat} {rows:List D} {L:Loc} {v:Value} (hv:az φ w F (.vec k aj off len) v) (hL:φ k=some L) (aw:L.aj=aj) (hc:dR φ w F L (.vec sz rows)) (hle:off+len≤rows.length)
 (hF:∀b,F' b→F b) (mq:0<L.cap→¬F' L.dx):aH w F' (.list ((rows.drop off).take len)) v:=by
 have hlen:((rows.drop off).take len).length=len:=by simp;omega
 cases hv with
 |vec _ _ _ _ _ L' bM _ h _=>
  rw[hL]at bM;cases bM;obtain⟨ao,cap,rfl,fX,dg⟩:=h aw.symm;clear h;by_cases cw:len=0
  ·subst cw;simp only[List.take_zero];exact .nil _ _ (fun hn=>by
    subst hn;rcases Nat.eq_zero_or_pos cap with h0|h0
    ·exact h0
    ·obtain⟨h1,_⟩:=dg h0;cases h1)
  ·obtain⟨rfl,mJ⟩:=dg (by omega);obtain⟨arr,elem,hh,te,rp,hr⟩:=mI hc (by omega);have iS:=(hr.drop off).take len (by simp;omega);have:=Fh (F':=F') (b:=L.dx) (off:=L.base+off*L.sz) (cap:=cap) iS (fun j u hj=>by
    rw[gx hh,hc.1];rw[List.getElem?_take]at hj;split at hj
    ·rw[List.getElem?_drop,List.getElem?_take]at hj;split at hj
     ·rw[List.getElem?_drop]at hj;rw[Nat.add_assoc];simpa using hj
     ·cases hj
    ·cases hj) hh.lt hF (mq (by omega)) (by omega)
   rw[hlen]at this;exact this
theorem Mem.set_set {e e':cJ} (hk:e'.key=e.key):∀m:Mem,Mem.set (Mem.set m e) e'=Mem.set m e'
 |[]=>rfl
 |x::r=>by
  simp only[Mem.set];by_cases h:x.key=e.key
  ·rw[if_pos h,if_pos (by rw[hk];exact h)];simp only[Mem.set];rw[if_pos hk.symm]
  ·rw[if_neg h,if_neg (by rw[hk];exact h)];simp only[Mem.set];rw[if_neg (by rw[hk];exact h),Mem.set_set hk r]
theorem XM {φ:bI} {G m w} (h:bj φ G m w) {k v sz n:Nat} {rows:List D} (hg:Mem.get m k=some ⟨k,v,.vec sz rows⟩) {x:Value} (hx:az φ w (Fo G φ m) (.vec k v 0 n) x) (hn:n≤rows.length):
 ∃φ',bj φ' G (Mem.set m ⟨k,v+1,.dead⟩) w∧aQ φ m w φ' (Mem.set m ⟨k,v+1,.dead⟩) w∧(∀j,j≠k→φ' j=φ j)∧aH w (Fo G φ' (Mem.set m ⟨k,v+1,.dead⟩)) (.list (rows.take n)) x:=by
 obtain⟨hm,_,L,hL,aw,b8⟩:=h.get hg;obtain⟨φ',dr,aN,fe,ep⟩:=h.cW (e:=⟨k,v,.vec sz rows⟩) (e':=⟨k,v+1,.dead⟩) hm hL rfl (L':={L with aj:=v+1}) (by simp only at aw⊢;omega) (fun hh=>by simp only at aw hh;omega) rfl
  (w':=w) (fun _ _ _=>rfl) (Nat.le_refl _) (fun _ ho=>ho.elim) rfl rfl rfl (fun _ _ _=>trivial)
 refine⟨φ',dr,aN,ep,?_⟩;have fD:∀b,iy φ' (Mem.set m ⟨k,v+1,.dead⟩) b→iy φ m b∧∀(_:0<L.cap),b≠L.dx:=by
  rintro b ⟨y,hy,Ly,dA,gN⟩;rcases (Mem.mem_set h.nodup).1 hy with ⟨rfl,_⟩|⟨yN,bE⟩
  ·exact gN.elim
  ·simp only at bE;rw[ep _ bE]at dA;refine⟨⟨y,yN,Ly,dA,gN⟩,fun hc heq=>bE (h.apart y yN _ hm Ly L dA hL ⟨b,gN,hc,heq.symm⟩)⟩
 have:=zK hx hL aw b8 (by omega) (F':=Fo G φ' (Mem.set m ⟨k,v+1,.dead⟩)) (fun b=>Or.imp id (fun hb=>(fD b hb).1)) (fun hc=>by
  rintro (hG|ho)
  ·exact h.jZ _ ⟨_,hm,L,hL,hc,rfl⟩ hG
  ·exact (fD _ ho).2 hc rfl)
 simpa using this
def fzRes (m:Mem) (b:Bool) (k0:Nat):dj→dj
 | .cW c (.vec k v 0 n) ⟨k',v',.vec sz rows⟩=>if b=true∧k≠k0∧k'=k∧v'=v∧n≤rows.length∧(Mem.get m k).isSome=true then .cW c (.d (.list (rows.take n))) ⟨k,v+1,.dead⟩else .cW c (.vec k v 0 n) ⟨k',v',.vec sz rows⟩
 |r=>r
theorem RH {P:Program} {S:St} {o:Oper} {b:Bool} {k0:Nat} {r:dj} (h:aF P S o r):aF P S o (fzRes S.mem b k0 r):=by
 unfold fzRes;split
 ·rename_i c k v n k' v' sz rows;split
  ·rename_i hh;obtain⟨_,_,rfl,rfl,hn,hs⟩:=hh;intro hc φ G a w hr;obtain⟨x,w',φ',h1,h2,h3,h4,h5⟩:=h hc φ G a w hr;have de:k'∈S.mem.map (·.key):=by
    cases hg:Mem.get S.mem k' with
    |none=>rw[hg]at hs;cases hs
    |some e=>
     obtain⟨h6,h7⟩:=Mem.get_mem hg;rw[←h7];exact List.mem_map_of_mem h6
   obtain⟨φ2,q1,q2,q3,q4⟩:=XM h3 (Mem.nJ (x:=⟨k',v',.vec sz rows⟩) de) h2 hn;rw[Mem.set_set (e:=⟨k',v',.vec sz rows⟩) (e':=⟨k',v'+1,.dead⟩) rfl]at q1 q2 q4;exact⟨x,w',φ2,h1,.d _ _ q4,q1,h4.trans q2,fun j hj=>by rw[q3 j hj];exact h5 j hj⟩
  ·exact h
 ·exact h
def capR (P:Program) (t:TypeId):AV→dj
 | .lit (.slice none 0 0)=>match tk P t with
  | .slice _=>.val True (.d (.int .i64 0))
  |_=>.no
 |_=>.no
theorem XN (P:Program) (S:St) (o:Oper) (x:Operand) (t:TypeId) (ho:o.op=.call {callee:=.builtin .cap,args:=#[x],argTypes:=#[t]}) (hx:(S.opd x).1=true):aF P S o (capR P t (S.opd x).2):=by
 have bB:∀(a:Act) (w:World) (v:Value),(Builtin.cap_ #[t] o.type #[a.eval x]).run P w=.ok v w→(execOp a.eval o).run P w=.ok (.value v) w:=by
  intro a w v h;simp[execOp,ho,resolve,invoke,builtin,h]
 unfold capR;split
 ·rename_i bF;split
  ·rename_i e gg;refine aF.pure fun _ φ G a w hr=>?_;have h1:=hr.opd x hx;rw[bF]at h1;generalize bX:a.eval x=av at h1;cases h1 with|lit _ h=>
   refine⟨_,bB a w (.int .i64 0) ?_,.d _ _ (.int _ _)⟩;rw[bX];simp[Builtin.cap_,run_underlying (fJ gg),goInt]
  ·trivial
 ·trivial
def builtinR (P:Program) (S:St) (o:Oper) (b:Builtin) (args:List Operand) (ts:List TypeId):dj:=
 match b,args,ts with
 | .len,[x],[t]=>lenRm P S.mem t (S.opd x).2
 | .append,[s,x],[t,u]=>fzRes S.mem (Mem.get S.mem (keyOf o)).isSome (keyOf o) (appR P S.mem (keyOf o) t u (S.opd s).2 (S.opd x).2)
 | .copy,[s,x],[t,_]=>copyR P S.mem t (S.opd s).2 (S.opd x).2
 | .max,args,_=>maxR true (args.map fun x=>(S.opd x).2)
 | .min,args,_=>maxR false (args.map fun x=>(S.opd x).2)
 | .cap,[x],[t]=>capR P t (S.opd x).2
 |_,_,_=>.no
def zeroOf:TK→Option D
 | .int k=>some (.int k 0)
 | .bool=>some (.bool false)
 |_=>none
theorem H5 {t:TK} {z:D} (h:zeroOf t=some z):z.size=1∧∀(w:World) (F:Nat→Prop),∃v,aH w F z v∧v.cells=#[v]∧∀u,aH w F z u→u=v:=by
 cases t with
 |int k=>cases h;exact⟨rfl,fun w F=>⟨_,.int k 0,rfl,fun u hu=>by cases hu;rfl⟩⟩
 |bool=>cases h;exact⟨rfl,fun w F=>⟨_,.bool false,rfl,fun u hu=>by cases hu;rfl⟩⟩
 |_=>cases h
def isZ:D→AV→Bool
 | .int k n,.d (.int k' n')=>k == k'&&n == n'
 | .bool b,.d (.bool b')=>b == b'
 |_,_=>false
theorem XO {z:D} {c:AV} (h:isZ z c=true):c=.d z:=by
 unfold isZ at h;split at h<;>simp_all
def arrR (m:Mem) (k n:Nat) (z:D) (zs:List AV):dj:=
 match Mem.get m k with
 |some ⟨_,v,_⟩=>.cW (zs.length=n∧zs.all (isZ z)=true) (.cG k (v+1) 0 0) ⟨k,v+1,.vec 1 (List.replicate n z)⟩
 |none=>.no
def allocR (P:Program) (m:Mem) (k:Nat) (t:TypeId):dj:=
 match se P t with
 |some zs=>match tk P t with
  | .arr n e=>match zeroOf (tk P e)with
   |some z=>arrR m k n z zs
   |none=>boxR m k true zs
  |_=>boxR m k true zs
 |none=>.no
theorem XP (P:Program) (S:St) (o:Oper) (t:TypeId) (ho:o.op=.alloc t) (n:Nat) (zd:D) (tz:TK) (Uk:zeroOf tz=some zd) (zs:List AV) (hz:se P t=some zs):aF P S o (arrR S.mem (keyOf o) n zd zs):=by
 obtain⟨K9,wm⟩:=H5 Uk;unfold arrR;split
 ·rename_i key v cont hg;refine aF.ql ?_;rintro ⟨hn,cZ⟩ φ G a w hr;obtain⟨z,bB,bN,h1,ej⟩:=nj hz w;obtain⟨hm,hk,L,hL,aw,b8⟩:=hr.mem.get hg;simp only at hk aw;subst hk;have Xs:∀(w:World) (F:Nat→Prop) (i:Nat) u,z.cells[i]?=some u→aH w F zd u:=by
   intro w' F i u hu;have hi:i<zs.length:=by
    have:=(Array.getElem?_eq_some_iff.1 hu).1;omega
   have h3:=ej φ w (fun _=>False) i zs[i] u (by simp[hi]) hu;rw[XO (List.all_eq_true.1 cZ _ (List.getElem_mem hi))]at h3;cases h3 with
   |d _ _ h4=>
    obtain⟨v1,q1,_,q2⟩:=wm w (fun _=>False);obtain⟨v2,q3,_,q4⟩:=wm w' F;cases tz with
    |int k=>cases Uk;cases h4;exact .int k 0
    |bool=>cases Uk;cases h4;exact .bool false
    |_=>cases Uk
  obtain⟨φ',dr,aN,fe,ep⟩:=hr.mem.fresh (e:=⟨keyOf o,v,cont⟩) hm hL aw w rfl rfl rfl rfl z.cells t 1 n (.vec 1 (List.replicate n zd)) (fun _ hb=>hb.2) (fun φ' hle bX jb jc=>by
   refine⟨rfl,by simp,fun d hd=>by rw[(List.mem_replicate.1 hd).2];exact K9,fun _=>⟨z.cells,t,eR.new jc,by simp[bN,hn],h1,fun i d hd=>?_⟩⟩;obtain⟨hi,rfl⟩:=List.getElem?_eq_some_iff.1 hd;simp at hi;have Fc:i<z.cells.size:=by omega
   have h5:=fun w F=>Xs w F i z.cells[i] (by simp[Fc]);have h6:=(h5 w (fun _=>False)).size;rw[K9]at h6;refine⟨z.cells[i],by simp;exact h5 _ _,fun j c hj=>?_⟩;have Oc:j=0:=by
    have:=(Array.getElem?_eq_some_iff.1 hj).1;omega
   subst Oc;rw[dQ (h1 _ (by simp))]at hj;simp at hj;subst hj;simp[Fc])
  refine⟨.pointer (some ⟨w.heap.size,0,none⟩),_,φ',.inl ?_,?_,dr,aN,ep⟩
  ·simp[execOp,ho,Instr.alloc,newVar,ie,bB]
  ·exact .cG _ (v+1) 0 0 _ _ fe (Nat.le_refl _) (fun _=>by simp) rfl
 ·trivial
theorem Od (P:Program) (S:St) (o:Oper) (t:TypeId) (ho:o.op=.alloc t):aF P S o (allocR P S.mem (keyOf o) t):=by
 unfold allocR;split
 ·rename_i zs hz;split
  ·split
   ·rename_i wm;exact XP P S o t ho _ _ _ wm zs hz
   ·exact EN P S o t ho zs hz
  ·exact EN P S o t ho zs hz
 ·trivial
def convM (P:Program) (m:Mem) (k0:Nat) (src dst:TypeId) (x:AV):dj:=
 match x with
 | .vec k aj off len=>match tk P dst with
  | .slice e=>match decide (src=dst),tk P e,Mem.get m k with
   |true,.int .u8,some ⟨_,v,.vec sz rows⟩=>.cW (decide (v=aj∧0<len)) (.vec k aj off len) ⟨k,aj,.vec sz rows⟩
   |_,_,_=>.no
  |_=>convR P m k0 src dst (.vec k aj off len)
 |x=>convR P m k0 src dst x
theorem RI (P:Program) (S:St) (o:Oper) (src dst:TypeId) (x:Operand) (ho:o.op=.convert src dst x) (hx:(S.opd x).1=true):aF P S o (convM P S.mem (keyOf o) src dst (S.opd x).2):=by
 unfold convM;split
 ·rename_i k aj off len bF;split
  ·rename_i e hd;split
   ·rename_i key v sz rows XQ lu hg;refine aF.ql ?_;rintro ⟨rfl,hlen⟩ φ G a w hr;have XQ:src=dst:=of_decide_eq_true XQ;subst XQ;obtain⟨hm,hk,L,hL,aw,b8⟩:=hr.mem.get hg;simp only at hk aw;subst hk;have hv:=hr.opd x hx;rw[bF]at hv;have C6:=hv;generalize bS:a.eval x=xv at hv C6;cases hv with
    |vec _ _ _ _ _ L' bM _ h Oe=>
     rw[hL]at bM;cases bM;obtain⟨ao,cap,rfl,fX,dg⟩:=h aw.symm;obtain⟨rfl,di⟩:=dg (by omega);have gQ:0<L.cap:=by omega
     obtain⟨yR,aP,nM,ja⟩:=b8;obtain⟨arr,elem,⟨fr,hh,vQ⟩,te,rp,ej⟩:=ja gQ;obtain⟨w',qw⟩:∃w',w'=w.freeze ⟨L.dx,arr.size,none⟩ 1:=⟨_,rfl⟩;have jc:eR w' L.dx arr elem:=by
      obtain⟨lo,hi⟩:=fr;rw[qw];by_cases he:lo=hi
      ·refine⟨(arr.size,arr.size+1),?_,.inr (Nat.le_refl _)⟩;simp[World.freeze,Array.getElem?_modify,hh,he]
      ·refine⟨(min lo arr.size,max hi (arr.size+1)),?_,?_⟩
       ·simp[World.freeze,Array.getElem?_modify,hh,he]
       ·right;rcases vQ with h|h
        ·cases h;exact absurd rfl he
        ·simp only at h⊢;omega
     have hold:∀b,b≠L.dx→w'.heap[b]?=w.heap[b]?:=by
      intro b hb;rw[qw];simp only[World.freeze,Nat.one_ne_zero,if_false,Array.getElem?_modify];rw[if_neg (fun e=>hb e.symm)]
     have K7:w'.heap.size=w.heap.size:=by rw[qw];simp[World.freeze]
     have pK:w'.os=w.os:=by rw[qw];simp[World.freeze]
     have AN:w'.tape=w.tape:=by rw[qw];simp[World.freeze]
     have hou:w'.output=w.output:=by rw[qw];simp[World.freeze]
     have de:Fo G φ S.mem L.dx:=.inr ⟨_,hm,L,hL,gQ,rfl⟩;obtain⟨φ',dr,aN,fe,ep⟩:=hr.mem.cW (e:=⟨key,v,.vec sz rows⟩) (e':=⟨key,v,.vec sz rows⟩) hm hL rfl (L':=L) (Nat.le_refl _) (fun _=>rfl) aw
      (w':=w') (fun b _ hn=>hold b (fun he=>hn ⟨gQ,he.symm⟩)) (by omega) (fun _ ho=>.inl ho) pK AN hou (fun φ' jq kX=>by
       have hF:∀b,Fo G φ' (Mem.set S.mem ⟨key,v,.vec sz rows⟩) b→Fo G φ S.mem b:=by
        rintro b (hG|⟨y,hy,Ly,dA,gN⟩)
        ·exact .inl hG
        ·right;rcases (Mem.mem_set hr.mem.nodup).1 hy with ⟨rfl,_⟩|⟨yN,bE⟩
         ·rw[jq]at dA;simp at dA;subst dA;exact⟨_,hm,L,hL,gN⟩
         ·simp only at bE;rw[jq]at dA;simp[bE]at dA;exact⟨y,yN,Ly,dA,gN⟩
       exact⟨yR,aP,nM,fun _=>⟨arr,elem,jc,te,rp,fun i d hd=>let ⟨u,hu,hj⟩:=ej i d hd
        ⟨u,hu.mono (fun b _ hn=>hold b (fun he=>hn (he▸de))) (by omega) (fun b _=>hF b),hj⟩⟩⟩)
     refine⟨.slice (some ⟨L.dx,L.base+off*L.sz,none⟩) len cap,w',φ',.inl ?_,.vec key v off len _ L fe (Nat.le_of_eq aw.symm) (fun _=>⟨_,_,rfl,fX,dg⟩) Oe,dr,aN,ep⟩;have pU:w.shape? L.dx=some (elem,arr.size):=by simp[World.shape?,hh]
     have NV:(markStringish ⟨L.dx,L.base+off*L.sz,none⟩).run P w=.ok () w':=by
      simp only[markStringish,shape,Sem.run_bind,Sem.run,pU,Result.andThen_ok,freeze,qw]
     simp[execOp,ho,bS,convert,run_underlying (fJ hd),run_underlying (tQ lu),Sem.run_bind,NV]
   ·trivial
  ·rw[←bF];exact IG P S o src dst x ho hx
 ·exact IG P S o src dst x ho hx
def Fi (P:Program) (s:TypeId) (f:Nat):Option TypeId:=
 match P.underlying s with
 |some (.struct fs)=>match fs[f]? with
  |some fl=>some fl.type
  |none=>none
 |_=>none
def fieldVR (P:Program) (s:TypeId) (x:AV) (f:Nat):dj:=
 match x with
 | .d (.agg cs)=>match uE P s f,Fi P s f with
  |some off,some e=>match (tk P e).agg,fm P e with
   |false,some 1=>.val (off<cs.length∧tk P e≠.other) (.d (D.at cs off))
   |true,some sz=>.val (off+sz≤cs.length) (.d (.agg ((cs.drop off).take sz)))
   |_,_=>.no
  |_,_=>.no
 | .agg cs=>match uE P s f,Fi P s f with
  |some off,some e=>match (tk P e).agg,fm P e,cs[off]? with
   |false,some 1,some c=>.val (tk P e≠.other) c
   |_,_,_=>.no
  |_,_=>.no
 |_=>.no
theorem C7 {P:Program} {s:TypeId} {f off:Nat} {e:TypeId} (h:uE P s f=some off) (he:Fi P s f=some e):∃fs fl,P.underlying s=some (.struct fs)∧fs[f]?=some fl∧fl.offset=off∧fl.type=e:=by
 unfold uE at h;unfold Fi at he;split at h
 ·rename_i fs pR;rw[pR]at he;simp only at he;split at h
  ·rename_i fl iH;rw[iH]at he;cases he;split at h
   ·split at h
    ·cases h
    ·cases h;exact⟨fs,fl,pR,iH,rfl,rfl⟩
   ·cases h
  ·cases h
 ·cases h
theorem Of (P:Program) (S:St) (o:Oper) (s:TypeId) (x:Operand) (f:Nat) (ho:o.op=.field s x f) (hx:(S.opd x).1=true):aF P S o (fieldVR P s (S.opd x).2 f):=by
 unfold fieldVR;split
 ·rename_i cs bF;split
  ·rename_i off e E0 mu;obtain⟨fs,fl,pR,iH,rfl,rfl⟩:=C7 E0 mu;split
   ·rename_i pS hs;refine aF.pure ?_;rintro ⟨hl,bE⟩ φ G a w hr;have h1:=hr.opd x hx;rw[bF]at h1;generalize bX:a.eval x=av at h1;cases h1 with|d _ _ h1=>
    cases h1 with|agg _ xa CZ vL oF=>
    have wE:fl.offset<xa.size:=by omega
    refine⟨xa[fl.offset],?_,.d _ _ (oF fl.offset _ _ (ju (by omega)) (by simp[wE]))⟩;have hp:=ry (P:=P) (w:=w) (t:=fl.type) (cs:=xa) (off:=fl.offset) pS bE (v:=xa[fl.offset]) (by simp[wE]);simp[execOp,ho,bX,Instr.field,run_underlying pR,iH,asAgg,hp]
   ·rename_i sz pS hs;refine aF.pure ?_;rintro hle φ G a w hr;have h1:=hr.opd x hx;rw[bF]at h1;generalize bX:a.eval x=av at h1;cases h1 with|d _ _ h1=>
    have ly:=h1;cases h1 with|agg _ xa CZ vL oF=>
    refine⟨_,?_,.d _ _ (vM ly fl.offset sz hle)⟩;have hp:=C3 (P:=P) (w:=w) (t:=fl.type) (cs:=xa) (off:=fl.offset) pS hs;simp[execOp,ho,bX,Instr.field,run_underlying pR,iH,asAgg,hp]
   ·trivial
  ·trivial
 ·rename_i cs bF;split
  ·rename_i off e E0 mu;obtain⟨fs,fl,pR,iH,rfl,rfl⟩:=C7 E0 mu;split
   ·rename_i c pS hs hc;refine aF.pure ?_;rintro bE φ G a w hr;have h1:=hr.opd x hx;rw[bF]at h1;generalize bX:a.eval x=av at h1;cases h1 with|agg _ xa CZ h1x oF=>
    have wE:fl.offset<xa.size:=by have:=(List.getElem?_eq_some_iff.1 hc).1;omega
    refine⟨xa[fl.offset],?_,oF fl.offset c _ hc (by simp[wE])⟩;have hp:=ry (P:=P) (w:=w) (t:=fl.type) (cs:=xa) (off:=fl.offset) pS bE (v:=xa[fl.offset]) (by simp[wE]);simp[execOp,ho,bX,Instr.field,run_underlying pR,iH,asAgg,hp]
   ·trivial
  ·trivial
 ·trivial
def assertR (P:Program) (x:AV) (asserted:TypeId) (ok:Bool):dj:=
 match x with
 | .gM t d=>match decide (t=asserted),ok with
  |true,true=>.val (tk P asserted≠.other∧tk P asserted≠.iface) (.aU [.d d,.d (.bool true)])
  |true,false=>.val (tk P asserted≠.other∧tk P asserted≠.iface) (.d d)
  |_,_=>.no
 |_=>.no
theorem XR {P:Program} {t:TypeId} (h:tk P t≠.other) (h2:tk P t≠.iface):∃d,P.underlying t=some d∧∀ms,d≠.interface ms:=by
 unfold tk at h h2;cases hu:P.underlying t with
 |none=>rw[hu]at h;exact absurd rfl h
 |some d=>
  refine⟨d,rfl,fun ms hd=>?_⟩;subst hd;rw[hu]at h2;exact h2 rfl
theorem AU {P:Program} {w:World} {t acI asserted:TypeId} {v:Value} {ok:Bool} (h:tk P asserted≠.other) (h2:tk P asserted≠.iface) (ht:t=asserted):
 (Instr.typeAssert (.iface t v) acI asserted ok).run P w=.ok (if ok then .tuple #[v,.bool true]else v) w:=by
 obtain⟨d,hd,hn⟩:=XR h h2;subst ht;simp only[Instr.typeAssert,Sem.run_bind,run_underlying hd,Result.andThen_ok];cases d with
 |interface ms=>exact absurd rfl (hn ms)
 |_=>simp
theorem Og (P:Program) (S:St) (o:Oper) (x:Operand) (xt asserted:TypeId) (ok:Bool) (ho:o.op=.typeAssert x xt asserted ok) (hx:(S.opd x).1=true):aF P S o (assertR P (S.opd x).2 asserted ok):=by
 unfold assertR;split
 ·rename_i t d bF;split
  ·rename_i ht;have ht:t=asserted:=by simpa using ht
   refine aF.pure ?_;rintro ⟨h1,h2⟩ φ G a w hr;have rz:=hr.opd x hx;rw[bF]at rz;generalize bX:a.eval x=av at rz;cases rz with|gM _ _ v hd=>
   refine⟨.tuple #[v,.bool true],by simp[execOp,ho,bX,AU h1 h2 ht],.aU _ _ rfl fun i c u hc hu=>?_⟩;match i,hc,hu with
   |0,hc,hu=>simp at hc hu;subst hc hu;exact .d _ _ hd
   |1,hc,hu=>simp at hc hu;subst hc hu;exact .d _ _ (.bool _)
   |i+2,hc,hu=>simp at hc
  ·rename_i ht;have ht:t=asserted:=by simpa using ht
   refine aF.pure ?_;rintro ⟨h1,h2⟩ φ G a w hr;have rz:=hr.opd x hx;rw[bF]at rz;generalize bX:a.eval x=av at rz;cases rz with|gM _ _ v hd=>
   exact⟨v,by simp[execOp,ho,bX,AU h1 h2 ht],.d _ _ hd⟩
  ·trivial
 ·trivial
def stepv (P:Program) (S:St) (o:Oper):dj:=
 match o.op with
 | .move x=>moveR P S.mem (keyOf o) o.type (S.opd x).2
 | .assign x=>moveR P S.mem (keyOf o) o.type (S.opd x).2
 | .pick c a b=>pickR (S.opd c) (S.opd a) (S.opd b)
 | .alloc t=>allocR P S.mem (keyOf o) t
 | .box _ x=>boxR S.mem (keyOf o) (S.opd x).2.solid (S.opd x).2.cells
 | .load t x=>loadR P S.mem t (S.opd x).2
 | .store t p x=>storeR P S.mem t (S.opd p).2 (S.opd x).2
 | .fieldAddr s x f=>fieldRm P S.mem s f (S.opd x).2
 | .nilCheck x=>nilCheckR S.mem (S.opd x).2
 | .indexAddr t x i=>indexR P S.mem t (S.opd x).2 (S.opd i).2
 | .index t x i=>indexVR P t (S.opd x).2 (S.opd i).2
 | .slice t x lo hi none=>sliceR P S.mem t (S.opd x).2 (lo.map fun y=>(S.opd y).2) (hi.map fun y=>(S.opd y).2)
 | .binOp op t x y _=>binOpR P S op t x y
 | .unOp op _ x=>unR op (S.opd x).2
 | .convert s d x=>convM P S.mem (keyOf o) s d (S.opd x).2
 | .makeInterface t x=>makeIfaceR P t (S.opd x).2
 | .makeFunc f first cap=>makeFuncR f (first.toList.map fun x=>(S.opd x).2) (cap.toList.map fun x=>(S.opd x).2)
 | .makeSlice t l c=>makeR P S.mem (keyOf o) t (S.opd l).2 (S.opd c).2
 | .build t ps=>buildR P t (ps.toList.map fun x=>(x.1,(S.opd x.2).2))
 | .buildSlice t len ps=>buildSliceR P S.mem (keyOf o) t len (ps.toList.map fun x=>(x.1,(S.opd x.2).2))
 | .extract x i=>extractR i (S.opd x).2
 | .field s x f=>fieldVR P s (S.opd x).2 f
 | .typeAssert x _ t ok=>assertR P (S.opd x).2 t ok
 | .call {callee:=.builtin b,args,argTypes}=>builtinR P S o b args.toList argTypes.toList
 |_=>.no
theorem Fj (P:Program) (S:St) (o:Oper) (h:opOk S o=true):aF P S o (stepv P S o):=by
 unfold opOk at h;unfold stepv;have one:∀{l:List Operand},okAll S l=true→∀x∈l,(S.opd x).1=true:=sh;split
 ·rename_i x ho;simp only[ho]at h;exact Ff P S o x (.inl ho) (one h x (by simp[Op.operands]))
 ·rename_i x ho;simp only[ho]at h;exact Ff P S o x (.inr ho) (one h x (by simp[Op.operands]))
 ·rename_i c a b ho;exact V1 P S o c a b ho
 ·rename_i t ho;exact Od P S o t ho
 ·rename_i t x ho;simp only[ho]at h;exact Xn P S o t x ho (one h x (by simp[Op.operands]))
 ·rename_i t x ho;simp only[ho]at h;exact (Ix P S o t x ho (one h x (by simp[Op.operands]))).res
 ·rename_i t p x ho;simp only[ho]at h;exact Rs P S o t p x ho (one h p (by simp[Op.operands])) (one h x (by simp[Op.operands]))
 ·rename_i s x f ho;simp only[ho]at h;exact RA P S o s x f ho (one h x (by simp[Op.operands]))
 ·rename_i x ho;simp only[ho]at h;exact H0 P S o x ho (one h x (by simp[Op.operands]))
 ·rename_i t x i ho;simp only[ho]at h;exact RB P S o t x i ho (one h x (by simp[Op.operands])) (one h i (by simp[Op.operands]))
 ·rename_i t x i ho;simp only[ho]at h;exact N7 P S o t x i ho (one h x (by simp[Op.operands])) (one h i (by simp[Op.operands]))
 ·rename_i t x lo hi ho;simp only[ho]at h;exact RE P S o t x lo hi ho (one h x (by simp[Op.operands])) (fun y hy=>one h y (by simp[Op.operands,hy])) (fun y hy=>one h y (by simp[Op.operands,hy]))
 ·rename_i op t x y t' ho;simp only[ho]at h;exact Ob P S o op t t' x y ho (one h x (by simp[Op.operands])) (one h y (by simp[Op.operands]))
 ·rename_i op t x ho;simp only[ho]at h;exact acH P S o op t x ho (one h x (by simp[Op.operands]))
 ·rename_i s d x ho;simp only[ho]at h;exact RI P S o s d x ho (one h x (by simp[Op.operands]))
 ·rename_i t x ho;simp only[ho]at h;exact E7 P S o t x ho (one h x (by simp[Op.operands]))
 ·rename_i f first cap ho;simp only[ho]at h;exact H2 P S o f first cap ho (fun x hx=>one h x (by simp[Op.operands];left;simpa using hx)) (fun x hx=>one h x (by simp[Op.operands];right;simpa using hx))
 ·rename_i t l c ho;simp only[ho]at h;exact VX P S o t l c ho (one h l (by simp[Op.operands])) (one h c (by simp[Op.operands]))
 ·rename_i t ps ho;simp only[ho]at h;exact RG P S o t ps ho (fun x hx=>one h x.2 (by simp only[Op.operands,List.toList_toArray,List.mem_map];exact⟨x,hx,rfl⟩))
 ·rename_i t len ps ho;simp only[ho]at h;exact Ed P S o t len ps ho (fun x hx=>one h x.2 (by simp only[Op.operands,List.toList_toArray,List.mem_map];exact⟨x,hx,rfl⟩))
 ·rename_i x i ho;simp only[ho]at h;exact Lk P S o x i ho (one h x (by simp[Op.operands]))
 ·rename_i s x f ho;simp only[ho]at h;exact Of P S o s x f ho (one h x (by simp[Op.operands]))
 ·rename_i x xt t ok ho;simp only[ho]at h;exact Og P S o x xt t ok ho (one h x (by simp[Op.operands]))
 ·rename_i b args ts ho;simp only[ho]at h;have ha:∀x∈args.toList,(S.opd x).1=true:=fun x hx=>one h x (by simp[Op.operands,Call.operands];simpa using hx);have si:∀{l:List Operand},args.toList=l→args=l.toArray:=fun h=>by rw[←h]
  have jw:∀{l:List TypeId},ts.toList=l→ts=l.toArray:=fun h=>by rw[←h]
  unfold builtinR;split
  ·rename_i x t h1 h2;rw[si h1,jw h2]at ho;exact XI P S o x t ho (ha x (by simp[h1]))
  ·rename_i s x t u h1 h2;rw[si h1,jw h2]at ho;exact RH <| Xz P S o s x t u ho (ha s (by simp[h1])) (ha x (by simp[h1]))
  ·rename_i s x t u h1 h2;rw[si h1,jw h2]at ho;exact VY P S o s x t u ho (ha s (by simp[h1])) (ha x (by simp[h1]))
  ·exact N9 P S o true args ts (by simpa using ho) ha
  ·exact N9 P S o false args ts (by simpa using ho) ha
  ·rename_i x t h1 h2;rw[si h1,jw h2]at ho;exact XN P S o x t ho (ha x (by simp[h1]))
  ·trivial
 ·trivial
inductive XE where
 |normal
 |exit (id:Nat)
 |ret
 |panic (t:TypeId) (x:D)
def mD (n:Nat) (φ:bI) (G:Fr) (m:Mem) (w:World) (Q:XE→St→Prop):Exit→Act→World→Prop
 | .normal,a',w'=>∃φ' S',S'.n=n∧Q .normal S'∧Rel φ' G S' a' w'∧aQ φ m w φ' S'.mem w'
 | .exit id,a',w'=>∃φ' S',S'.n=n∧Q (.exit id) S'∧Rel φ' G S' a' w'∧aQ φ m w φ' S'.mem w'
 | .ret,a',w'=>∃φ' S',S'.n=n∧Q .ret S'∧Rel φ' G S' a' w'∧aQ φ m w φ' S'.mem w'
 | .panic chain,a',w'=>∃φ' S' t x v,chain=[{v:=.iface t v,recovered:=false}]∧aH w' (Fo G φ' S'.mem) x v∧S'.n=n∧Q (.panic t x) S'∧Rel φ' G S' a' w'∧aQ φ m w φ' S'.mem w'
 |_,_,_=>False
theorem mD.weaken {n φ G m w Q φ1 m1 w1 e a' w'} (hk:aQ φ m w φ1 m1 w1) (h:mD n φ1 G m1 w1 Q e a' w'):mD n φ G m w Q e a' w':=by
 cases e with
 |normal=>obtain⟨φ',S',h0,h1,h2,h3⟩:=h;exact⟨φ',S',h0,h1,h2,hk.trans h3⟩
 |exit id=>obtain⟨φ',S',h0,h1,h2,h3⟩:=h;exact⟨φ',S',h0,h1,h2,hk.trans h3⟩
 |ret=>obtain⟨φ',S',h0,h1,h2,h3⟩:=h;exact⟨φ',S',h0,h1,h2,hk.trans h3⟩
 |panic chain=>obtain⟨φ',S',t,x,v,hc,hd,h0,h1,h2,h3⟩:=h;exact⟨φ',S',t,x,v,hc,hd,h0,h1,h2,hk.trans h3⟩
 |_=>exact h.elim
theorem mD.mono {n φ G m w Q Q' e a' w'} (hq:∀e S,Q e S→Q' e S) (h:mD n φ G m w Q e a' w'):mD n φ G m w Q' e a' w':=by
 cases e with
 |normal=>obtain⟨φ',S',h0,h1,h2⟩:=h;exact⟨φ',S',h0,hq _ _ h1,h2⟩
 |exit id=>obtain⟨φ',S',h0,h1,h2⟩:=h;exact⟨φ',S',h0,hq _ _ h1,h2⟩
 |ret=>obtain⟨φ',S',h0,h1,h2⟩:=h;exact⟨φ',S',h0,hq _ _ h1,h2⟩
 |panic chain=>obtain⟨φ',S',t,x,v,hc,hd,h0,h1,h2⟩:=h;exact⟨φ',S',t,x,v,hc,hd,h0,hq _ _ h1,h2⟩
 |_=>exact h.elim
def nu (P:Program) (c:Code) (S:St) (Q:XE→St→Prop):Prop:=
 ∀φ G a w,Rel φ G S a w→c.wp P (mD S.n φ G S.mem w Q) a w
def grd (all:List Oper) (S:St) (j:Nat):Option (Bool×AV):=
 match all[j]? with
 |some o=>match o.dst with
  |some t=>Env.lk S.env t
  |none=>none
 |none=>none
def jA (n:Nat) (ops:List Oper):Bool:=ops.all fun o=>match o.dst with|some t=>decide (t<n)|none=>true
theorem lA (S:St) (d g x):(S.put d g x).n=S.n:=by cases d<;>rfl
theorem ff (S:St) (d g x):(S.put d g x).mem=S.mem:=by cases d<;>rfl
theorem AM.step {P:Program} {o:Oper} {a:Act} {w w':World} {v:Value} {next R} (h:AM P o a w v w') (hn:next (a.put o.dst v) w'):o.wp P a w next R:=by
 unfold Oper.wp;rcases h with h|⟨h,rfl⟩<;>rw[h]<;>exact hn
theorem Rel.grow {φ G S a w w'} (h:Rel φ G S a w) (hold:∀b,b<w.heap.size→w'.heap[b]?=w.heap[b]?) (hs:w.heap.size≤w'.heap.size):Rel φ G S a w':=
 ⟨h.size,h.defers,fun t x hx=>(h.env t x hx).mono (bI.le_refl _) (fun b hb _=>hold b hb) hs (fun _ _ h=>h),h.mem.grow hold hs,h.j0.mono (fun b hb _=>hold b hb) hs (fun _ _ h=>h)⟩
theorem RJ {P:Program} {S:St} {o:Oper} {c:Bool} {x:AV} {gb:Bool} (hr:aF P S o (.val c x)) (hc:c=true) {φ G a w} (h:Rel φ G S a w) (hd:∀t,o.dst=some t→t<S.n) {next:Act→World→Prop} {R}
 (hn:∀a' w',Rel φ G (S.put o.dst gb x) a' w'→aQ φ S.mem w φ S.mem w'→next a' w'):o.wp P a w next R:=by
 obtain⟨v,w',nP,bX,hold,hs,pK,ht,fj⟩:=hr hc φ G a w h;exact nP.step (hn _ _ ((h.grow hold hs).put o.dst hd gb x v (fun _=>bX)) (aQ.grow hold hs pK ht fj))
theorem RL {P:Program} {S:St} {o:Oper} {c:Bool} {x:AV} {e:cJ} (hr:aF P S o (.cW c x e)) (hc:c=true) {φ G a w} (h:Rel φ G S a w) (hd:∀t,o.dst=some t→t<S.n) {next:Act→World→Prop} {R}
 (hn:∀φ' a' w',Rel φ' G (({S with mem:=Mem.set S.mem e}:St).put o.dst true x) a' w'→aQ φ S.mem w φ' (Mem.set S.mem e) w'→next a' w'):o.wp P a w next R:=by
 obtain⟨v,w',φ',nP,bX,hm,hk,_⟩:=hr hc φ G a w h;exact nP.step (hn φ' _ _ ((h.wc hm hk).put o.dst hd true x v (fun _=>bX)) hk)
theorem Oh {all:List Oper} {S:St} {j:Nat} {b:Bool} {φ G a w} (h:Rel φ G S a w) (hg:grd all S j=some (true,.d (.bool b))):yielded all.toArray a.tmps j=some b:=by
 unfold grd at hg;split at hg
 ·rename_i o ho;split at hg
  ·rename_i t ht;have:=qZ (h.env t _ hg);unfold yielded;simp only[List.getElem?_toArray,ho,Option.bind_some,ht];rw[Array.getD_eq_getD_getElem?]at this;cases hq:a.tmps[t]? with
   |none=>simp[hq,undef]at this
   |some v=>simp[hq]at this;simp[this]
  ·cases hg
 ·cases hg
section
variable {P:Program} {S:St} {Q:XE→St→Prop}
theorem nu.mono {c:Code} {Q':XE→St→Prop} (h:nu P c S Q) (hq:∀e S,Q e S→Q' e S):nu P c S Q':=
 fun φ G a w hr=>wp_mono (h φ G a w hr) fun _ _ _ hp=>hp.mono hq
def St.prune (S:St) (oW:List Nat):St:={S with env:=oW.filterMap fun t=>(Env.lk S.env t).map fun x=>(t,x)}
theorem rA (env:Env):∀(oW:List Nat) (t:Nat) (x:Bool×AV),Env.lk (oW.filterMap fun t=>(Env.lk env t).map fun x=>(t,x)) t=some x→Env.lk env t=some x
 |[],t,x,h=>by simp[Env.lk]at h
 |k::r,t,x,h=>by
  simp only[List.filterMap_cons]at h;cases hk:Env.lk env k with
  |none=>simp[hk]at h;exact rA env r t x h
  |some y=>
   simp only[hk,Option.map_some,Env.lk]at h;by_cases hkt:k=t
   ·subst hkt;simp at h;subst h;exact hk
   ·simp[hkt]at h;exact rA env r t x h
theorem Rel.prune {φ G a w} (h:Rel φ G S a w) (oW:List Nat):Rel φ G (S.prune oW) a w:=
 ⟨h.size,h.defers,fun t x hx=>h.env t x (rA _ _ _ _ hx),h.mem,h.j0⟩
theorem II {x y:Code} (h:nu P x S fun e S'=>match e with| .normal=>nu P y S' Q|e=>Q e S'):nu P (.seq x y) S Q:=by
 intro φ G a w hr;refine wp_seq (wp_mono (h φ G a w hr) fun e a' w' hp=>?_);cases e with
 |normal=>
  obtain⟨φ',S',hn,h1,h2,h3⟩:=hp;exact wp_mono (h1 φ' G a' w' h2) fun e a2 w2 yX=>by rw[hn]at yX;exact yX.weaken h3
 |_=>exact hp
theorem Fk {c:Operand} {x y:Code} {b:Bool} (hc:S.opd c=(true,.d (.bool b))) (ht:b=true→nu P x S Q) (hf:b=false→nu P y S Q):nu P (.cond c x y) S Q:=by
 intro φ G a w hr;have hv:=hr.opd c (by rw[hc]);rw[hc]at hv;have e:=qZ hv;cases b
 ·exact wp_cond_false e (hf rfl φ G a w hr)
 ·exact wp_cond_true e (ht rfl φ G a w hr)
theorem RN (h:Q .normal S):nu P .skip S Q:=fun φ _ _ _ hr=>wp_skip ⟨φ,S,rfl,h,hr,aQ.refl ..⟩
theorem V3 (h:Q .ret S):nu P .ret S Q:=fun φ _ _ _ hr=>wp_ret ⟨φ,S,rfl,h,hr,aQ.refl ..⟩
theorem RO {id:Nat} (h:Q (.exit id) S):nu P (.exit id) S Q:=fun φ _ _ _ hr=>wp_exit ⟨φ,S,rfl,h,hr,aQ.refl ..⟩
theorem wK {id:Nat} {c:Code} (h:nu P c S fun e S'=>match e with| .exit mw=>if mw=id then Q .normal S' else Q (.exit mw) S'|e=>Q e S'):nu P (.block id c) S Q:=by
 intro φ G a w hr;refine wp_block (wp_mono (h φ G a w hr) fun e a' w' hp=>?_);cases e with
 |exit mw=>
  obtain⟨φ',S',hn,h1,h2,h3⟩:=hp;simp only[Exit.inBlock];by_cases hid:mw=id
  ·simp only[hid,if_true]at h1⊢;exact⟨φ',S',hn,h1,h2,h3⟩
  ·simp only[hid,if_false]at h1⊢;exact⟨φ',S',hn,h1,h2,h3⟩
 |_=>exact hp
theorem RQ {c:Code} {α:Type} (I:α→St) (J:α→Prop) (μ:α→Nat) (x0:α) (hS:S=I x0) (h0:J x0)
 (round:∀x,J x→nu P c (I x) fun e S'=>match e with| .normal=>∃x',S'=I x'∧J x'∧μ x'<μ x|e=>Q e S'):nu P (.loop c) S Q:=by
 intro φ G a w hr;subst hS;intro b k cs;have key:∀n x φ1 a1 w1,μ x=n→J x→(I x).n=(I x0).n→Rel φ1 G (I x) a1 w1→aQ φ (I x0).mem w φ1 (I x).mem w1→
  ∃e a' w',mD (I x0).n φ G (I x0).mem w Q e a' w'∧Arrives P (lone (b.at a1 (.code c::.inLoop c::k)) cs w1) b k cs e a' w':=by
  intro n;induction n using Nat.strongRecOn with
  |_ n ih=>
   intro x φ1 a1 w1 hn hJ Oi rz gu;obtain⟨e,a2,w2,hp,eO⟩:=round x hJ φ1 G a1 w1 rz b (.inLoop c::k) cs;cases e with
   |normal=>
    obtain⟨φ2,S2,my,⟨x',rfl,hJ',cg⟩,iS,ck⟩:=hp;obtain⟨e3,a3,w3,hp3,acJ⟩:=ih (μ x') (by omega) x' φ2 a2 w2 rfl hJ' (my.trans Oi) iS (gu.trans ck);exact⟨e3,a3,w3,hp3,.of_steps (Steps.trans eO (.one step_inLoop)) acJ⟩
   |exit id=>exact⟨.exit id,a2,w2,by rw[Oi]at hp;exact mD.weaken (e:=.exit id) gu hp,.pass (x:=.inLoop c) rfl (fun _ _=>.inl (by simp)) eO⟩
   |goto l=>exact hp.elim
   |ret=>exact⟨.ret,a2,w2,by rw[Oi]at hp;exact mD.weaken (e:=.ret) gu hp,.pass (x:=.inLoop c) rfl (fun _ _=>.inl (by simp)) eO⟩
   |panic ch=>exact⟨.panic ch,a2,w2,by rw[Oi]at hp;exact mD.weaken (e:=.panic ch) gu hp,.pass (x:=.inLoop c) rfl (fun _ _=>.inl (by simp)) eO⟩
   |outgrown=>exact hp.elim
 obtain⟨e,a',w',hq,eO⟩:=key _ x0 φ a w rfl h0 rfl hr (aQ.refl ..);exact⟨e,a',w',hq,.of_steps (.one step_loop) eO⟩
end
inductive Out where
 |ret (x:AV)
 |panic (t:TypeId) (x:D)
def mM (φ:bI) (w:World) (F:Nat→Prop):Out→Ending→Prop
 | .ret x,.returned v=>az φ w F x v
 | .panic t x,.panicked chain=>∃v,chain=[{v:=.iface t v,recovered:=false}]∧aH w F x v
 |_,_=>False
def Ev (P:Program) (gl:List (Nat×D)) (f:FuncId) (args:List AV) (m:Mem) (K:Out→Mem→Prop):Prop:=
 ∀φ G w (vs:Array Value),bj φ G m w→eI w (Fo G φ m) gl→args.length=vs.size→(∀(i:Nat) x v,args[i]?=some x→vs[i]?=some v→az φ w (Fo G φ m) x v)→
  Calls P f vs w fun e w'=>∃φ' m' out,K out m'∧bj φ' G m' w'∧aQ φ m w φ' m' w'∧mM φ' w' (Fo G φ' m') out e
theorem Ev.mono {P gl f args m K K'} (h:Ev P gl f args m K) (hk:∀o m,K o m→K' o m):Ev P gl f args m K':=
 fun φ G w vs hm hg hl ha=>(h φ G w vs hm hg hl ha).mono fun _ _ ⟨φ',m',out,h1,h2⟩=>⟨φ',m',out,hk _ _ h1,h2⟩
def findK:List Nat→Nat→Nat→Option Nat
 |[],_,_=>none
 |a::r,k,i=>if a=k then some i else findK r k (i+1)
theorem uK:∀{ρ:List Nat} {k j i:Nat},findK ρ k j=some i→j≤i∧ρ[i-j]?=some k
 |[],k,j,i,h=>by simp[findK]at h
 |a::r,k,j,i,h=>by
  simp only[findK]at h;split at h
  ·rename_i hk;cases h;subst hk;simp
  ·obtain⟨h1,h2⟩:=uK h;refine⟨by omega,?_⟩;rw[show i-j=(i-(j+1))+1 by omega];simpa using h2
theorem jB:∀{ρ:List Nat} {k j:Nat},findK ρ k j=none↔k∉ρ
 |[],k,j=>by simp[findK]
 |a::r,k,j=>by
  simp only[findK,List.mem_cons,not_or];split
  ·rename_i hk;subst hk;simp
  ·rename_i hk;rw[jB];constructor
   ·exact fun h=>⟨fun h'=>hk h'.symm,h⟩
   ·exact fun h=>h.2
theorem Oj {ρ:List Nat} (hn:ρ.Nodup) {i k:Nat} (h:ρ[i]?=some k):findK ρ k 0=some i:=by
 cases hf:findK ρ k 0 with
 |none=>exact absurd (List.mem_of_getElem? h) (jB.1 hf)
 |some j=>
  obtain⟨_,h2⟩:=uK hf;simp only[Nat.sub_zero]at h2;obtain⟨hi,h3⟩:=List.getElem?_eq_some_iff.1 h;obtain⟨hj,h4⟩:=List.getElem?_eq_some_iff.1 h2;have:=(List.getElem_inj hn).1 (h3.trans h4.symm);rw[this]
def flats:List AV→Option (List D)
 |[]=>some []
 | .d x::r=>match x.flat,flats r with
  |true,some ys=>some (x::ys)
  |_,_=>none
 |_::_=>none
theorem C8:∀{l:List AV} {ds:List D},flats l=some ds→l=ds.map .d∧∀d∈ds,d.flat=true
 |[],ds,h=>by simp[flats]at h;subst h;simp
 |x::r,ds,h=>by
  unfold flats at h;split at h
  ·rename_i heq;cases heq
  ·rename_i y r' heq;cases heq;split at h
   ·rename_i ys hf EW;cases h;obtain⟨h1,h2⟩:=C8 EW;refine⟨by rw[h1];rfl,fun d hd=>?_⟩;rcases List.mem_cons.1 hd with rfl|hd
    ·exact hf
    ·exact h2 d hd
   ·cases h
  ·cases h
def boxD:Option (List D)→AV
 |some ds=>.d (.list ds)
 |none=>.aW
mutual
def vw (m:Mem) (ρ:List Nat) (bor:Nat→Bool) (nv:Nat→Nat→Nat):AV→AV
 | .ptr k aj off=>match Mem.get m k,findK ρ k 0 with
  |some e,some i=>if e.aj=aj then .ptr i (nv i aj) off else .aW
  |_,_=>.aW
 | .vec k aj off len=>match Mem.get m k,findK ρ k 0 with
  |some e,some i=>if e.aj=aj then .vec i (nv i aj) off len else .aW
  |some ⟨_,v,.vec _ rows⟩,none=>if bor k=true∧v=aj∧off+len≤rows.length then .d (.list ((rows.drop off).take len))else .aW
  |some ⟨_,v,.box cs⟩,none=>if bor k=true∧v=aj∧off+len≤cs.length then boxD (flats ((cs.drop off).take len))else .aW
  |_,_=>.aW
 | .cG k aj i j=>match Mem.get m k,findK ρ k 0 with
  |some e,some n=>if e.aj=aj then .cG n (nv n aj) i j else .aW
  |_,_=>.aW
 | .agg cs=>.agg (vws m ρ bor nv cs)
 | .fn f cap=>.fn f (vws m ρ bor nv cap)
 | .aU vs=>.aU (vws m ρ bor nv vs)
 | .aW=>.aW
 | .d x=>.d x
 | .dG x j=>.dG x j
 | .gM t x=>.gM t x
 | .lit v=>.lit v
 | .nn=>.nn
 | .err=>.err
def vws (m:Mem) (ρ:List Nat) (bor:Nat→Bool) (nv:Nat→Nat→Nat):List AV→List AV
 |[]=>[]
 |x::r=>vw m ρ bor nv x::vws m ρ bor nv r
end
theorem q0 (m ρ bor nv):∀(l:List AV) (i:Nat),(vws m ρ bor nv l)[i]?=(l[i]?).map (vw m ρ bor nv)
 |[],i=>by simp[vws]
 |x::r,i=>by cases i with|zero=>simp[vws]|succ i=>simp[vws,q0 m ρ bor nv r i]
theorem kA (m ρ bor nv):∀(l:List AV),(vws m ρ bor nv l).length=l.length
 |[]=>rfl
 |x::r=>by simp[vws,kA m ρ bor nv r]
def bI.hP (φ:bI) (ρ:List Nat) (nv:Nat→Nat→Nat):bI:=fun i=>
 match ρ[i]? with
 |some k=>(φ k).map fun L=>{L with aj:=nv i L.aj}
 |none=>none
def wL (φ:bI) (m:Mem) (ρ:List Nat) (b:Nat):Prop:=∃k∈ρ,∃e L,Mem.get m k=some e∧φ k=some L∧e.cont.cN L b
theorem wL.own {φ m ρ b} (h:wL φ m ρ b):iy φ m b:=by
 obtain⟨k,_,e,L,hg,hL,ho⟩:=h;obtain⟨hm,rfl⟩:=Mem.get_mem hg;exact⟨e,hm,L,hL,ho⟩
theorem AW {φ G m w} (h:bj φ G m w) {ρ:List Nat} {k:Nat} {e:cJ} {L:Loc} {b:Nat} (hg:Mem.get m k=some e) (hL:φ k=some L) (ho:e.cont.cN L b) (hk:k∉ρ):¬wL φ m ρ b:=by
 rintro ⟨k',aN,e',L',rB,bM,cx⟩;obtain⟨hm,rfl⟩:=Mem.get_mem hg;obtain⟨dr,rfl⟩:=Mem.get_mem rB;have:=h.apart e' dr e hm L' L bM hL ⟨b,cx,ho⟩;exact hk (this▸aN)
section
variable {φ:bI} {G:Fr} {m:Mem} {w:World} {ρ:List Nat} {bor:Nat→Bool} {nv:Nat→Nat→Nat} {F1:Nat→Prop}
theorem Ch {k i:Nat} {L:Loc} (hi:findK ρ k 0=some i) (hL:φ k=some L):φ.hP ρ nv i=some {L with aj:=nv i L.aj}:=by
 obtain⟨_,h2⟩:=uK hi;simp only[Nat.sub_zero]at h2;simp[bI.hP,h2,hL]
theorem XS (hm:bj φ G m w) (hF:∀b,F1 b→Fo G φ m b)
 (Lm:∀k e L b,Mem.get m k=some e→k∉ρ→bor k=true→φ k=some L→e.cont.cN L b→¬F1 b) {y v} (h:az φ w (Fo G φ m) y v):az (φ.hP ρ nv) w F1 (vw m ρ bor nv y) v:=by
 induction h with
 |aW v=>exact .aW v
 |d x v h=>exact .d x v (h.mono (fun _ _ _=>rfl) (Nat.le_refl _) (fun b _=>hF b))
 |agg cs a hl h1 _ ih=>
  refine .agg _ a (by rw[kA];exact hl) h1 (fun i c v hc hv=>?_);rw[q0]at hc;obtain⟨y,hy,rfl⟩:=Option.map_eq_some_iff.1 hc;exact ih i y v hy hv
 |ptr k aj off v L hL hv h h1=>
  unfold vw;split
  ·rename_i e i hg hi;split
   ·rename_i he;obtain⟨_,_,L',bM,aw,_⟩:=hm.get hg;rw[hL]at bM;cases bM;have e1:L.aj=aj:=by rw[aw];exact he
    refine .ptr i _ off v _ (Ch hi hL) (by simp[e1]) (fun _=>h e1.symm) h1
   ·exact .aW _
  ·exact .aW _
 |vec k aj off len v L hL hv h h1=>
  unfold vw;split
  ·rename_i e i hg hi;split
   ·rename_i he;obtain⟨_,_,L',bM,aw,_⟩:=hm.get hg;rw[hL]at bM;cases bM;have e1:L.aj=aj:=by rw[aw];exact he
    refine .vec i _ off len v _ (Ch hi hL) (by simp[e1]) (fun _=>h e1.symm) h1
   ·exact .aW _
  ·rename_i key v' sz rows hg hi;split
   ·rename_i hc;obtain⟨hb,rfl,hle⟩:=hc;obtain⟨_,_,L',bM,aw,b8⟩:=hm.get hg;rw[hL]at bM;cases bM;refine .d _ _ (zK (.vec k v' off len v L hL hv h h1) hL aw b8 hle hF (fun ho=>?_));exact Lm k _ L _ hg (jB.1 hi) hb hL ⟨ho,rfl⟩
   ·exact .aW _
  ·rename_i key v' cs hg hi;split
   ·rename_i hc;obtain⟨hb,rfl,hle⟩:=hc;obtain⟨_,_,L',bM,aw,b8⟩:=hm.get hg;rw[hL]at bM;cases bM;obtain⟨⟨z1,z2,z3⟩,arr,elem,ja,te,rp,ej⟩:=b8;cases iH:flats ((cs.drop off).take len)with
    |none=>exact .aW _
    |some ds=>
     obtain⟨ll,acK⟩:=C8 iH;obtain⟨ao,cap,rfl,fX,dg⟩:=h aw.symm;have hdl:ds.length=len:=by
      have:=congrArg List.length ll;simp at this;omega
     refine .d _ _ ?_;by_cases h0:len=0
     ·have:ds=[]:=List.eq_nil_of_length_eq_zero (by omega);subst this;subst h0;refine .nil _ _ (fun hn=>?_);cases cap with
      |zero=>rfl
      |succ c=>have:=(dg (by omega)).1;rw[hn]at this;cases this
     ·obtain⟨rfl,_⟩:=dg (by omega);rw[←hdl];have nL:∀(i:Nat) d,ds[i]?=some d→∃u,arr[off+i]?=some u∧aH w F1 d u∧cn u=true:=by
       intro i d hd;have hi:i<ds.length:=(List.getElem?_eq_some_iff.1 hd).1;have sf:cs[off+i]?=some (.d d):=by
        have:=congrArg (·[i]?) ll;simp only[List.getElem?_take,List.getElem?_drop,List.getElem?_map,hd]at this;rw[if_pos (by omega)]at this;simpa using this
       have cg:off+i<arr.size:=by omega
       have hr:=ej (off+i) _ arr[off+i] sf (by simp[cg]);cases hr with
       |d _ _ hr=>exact⟨_,by simp[cg],hr.mono (fun _ _ _=>rfl) (Nat.le_refl _) (fun b _=>hF b),rp _ (by simp)⟩
      have ahK:L.dx<w.heap.size:=ja.lt;refine .list ds _ _ cap 1 (fun i=>(arr[off+i]?).getD undef) (by omega) ahK (Lm k _ L _ hg (jB.1 hi) hb hL rfl) (fun d hd=>?_) (fun i d hd=>?_) (fun i j c lG hj=>?_)
      ·have:=acK d hd;cases d<;>simp_all [D.flat,D.size]
      ·obtain⟨u,h1,h2,_⟩:=nL i d hd;simp only[h1,Option.getD_some];exact h2
      ·obtain⟨u,h1,h2,h3⟩:=nL i ds[i] (by simp[lG]);simp only[h1,Option.getD_some,dQ h3]at hj;have Oc:j=0:=by
        have:=(Array.getElem?_eq_some_iff.1 hj).1;simpa using this
       subst Oc;simp at hj;subst hj;rw[gx ja,z1,z2];simpa using h1
   ·exact .aW _
  ·exact .aW _
 |cG k aj i j v L hL hv h h1=>
  unfold vw;split
  ·rename_i e n hg hi;split
   ·rename_i he;obtain⟨_,_,L',bM,aw,_⟩:=hm.get hg;rw[hL]at bM;cases bM;have e1:L.aj=aj:=by rw[aw];exact he
    refine .cG n _ i j v _ (Ch hi hL) (by simp[e1]) (fun _=>h e1.symm) h1
   ·exact .aW _
  ·exact .aW _
 |dG x j b off x' hb mq hx hc=>
  exact .dG x j b off x' hb (fun h=>mq (hF b h)) (hx.mono (fun _ _ _=>rfl) (Nat.le_refl _) (fun b _=>hF b)) hc
 |fn f cap a hf hl _ ih=>
  refine .fn f _ a hf (by rw[kA];exact hl) (fun i c v hc hv=>?_);rw[q0]at hc;obtain⟨y,hy,rfl⟩:=Option.map_eq_some_iff.1 hc;exact ih i y v hy hv
 |qu f cap a hl _ ih=>
  refine .qu f _ a (by rw[kA];exact hl) (fun i c v hc hv=>?_);rw[q0]at hc;obtain⟨y,hy,rfl⟩:=Option.map_eq_some_iff.1 hc;exact ih i y v hy hv
 |aU vs a hl _ ih=>
  refine .aU _ a (by rw[kA];exact hl) (fun i c v hc hv=>?_);rw[q0]at hc;obtain⟨y,hy,rfl⟩:=Option.map_eq_some_iff.1 hc;exact ih i y v hy hv
 |gM t x v h=>exact .gM t x v (h.mono (fun _ _ _=>rfl) (Nat.le_refl _) (fun b _=>hF b))
 |lit v h=>exact .lit v h
 |nn a cap=>exact .nn a cap
 |err t v=>exact .err t v
end
def mkM:Nat→List (Nat×aD)→Mem
 |_,[]=>[]
 |i,(v,c)::r=>⟨i,v,c⟩::mkM (i+1) r
theorem oX:∀(l:List (Nat×aD)) (i:Nat),(mkM i l).map (·.key)=List.range' i l.length
 |[],i=>rfl
 |(v,c)::r,i=>by simp[mkM,oX r,List.range'_succ]
theorem ke:∀{l:List (Nat×aD)} {i:Nat} {e:cJ},e∈mkM i l↔∃j v c,l[j]?=some (v,c)∧e=⟨i+j,v,c⟩
 |[],i,e=>by simp[mkM]
 |(v,c)::r,i,e=>by
  simp only[mkM,List.mem_cons,ke (l:=r)];constructor
  ·rintro (rfl|⟨j,v',c',h,rfl⟩)
   ·exact⟨0,v,c,by simp,by simp⟩
   ·exact⟨j+1,v',c',by simpa using h,by simp;omega⟩
  ·rintro ⟨j,v',c',h,rfl⟩;cases j with
   |zero=>simp at h;obtain⟨rfl,rfl⟩:=h;left;simp
   |succ j=>right;exact⟨j,v',c',by simpa using h,by simp;omega⟩
def selC (m:Mem) (ρ:List Nat) (bor:Nat→Bool) (nv:Nat→Nat→Nat):aD→aD
 | .dead=>.dead
 | .box cs=>.box (vws m ρ bor nv cs)
 | .vec sz rows=>.vec sz rows
 | .vv rows y=>.vv rows (y.map (vw m ρ bor nv))
def selE (m:Mem) (ρ:List Nat) (bor:Nat→Bool) (nv:Nat→Nat→Nat) (i:Nat):Option cJ→Nat×aD
 |some e=>(nv i e.aj,selC m ρ bor nv e.cont)
 |none=>(0,.dead)
def selL (m:Mem) (ρ:List Nat) (bor:Nat→Bool) (nv:Nat→Nat→Nat):Nat→List Nat→List (Nat×aD)
 |_,[]=>[]
 |i,k::r=>selE m ρ bor nv i (Mem.get m k)::selL m ρ bor nv (i+1) r
theorem uL (m ρ bor nv):∀(l:List Nat) (i j:Nat),(selL m ρ bor nv i l)[j]?=(l[j]?).map fun k=>selE m ρ bor nv (i+j) (Mem.get m k)
 |[],i,j=>by simp[selL]
 |k::r,i,j=>by
  cases j with
  |zero=>simp[selL]
  |succ j=>simp[selL,uL m ρ bor nv r (i+1) j,Nat.add_assoc,Nat.add_comm 1 j]
theorem pA (m ρ bor nv):∀(l:List Nat) (i:Nat),(selL m ρ bor nv i l).length=l.length
 |[],i=>rfl
 |k::r,i=>by simp[selL,pA m ρ bor nv r]
theorem sj {m ρ bor nv L c b}:(selC m ρ bor nv c).cN L b↔c.cN L b:=by cases c<;>exact Iff.rfl
theorem jN {L:Loc} {c:aD} {v b:Nat}:c.cN {L with aj:=v} b↔c.cN L b:=by cases c<;>exact Iff.rfl
section
variable {φ:bI} {G G1:Fr} {m:Mem} {w:World} {ρ:List Nat} {bor:Nat→Bool} {nv:Nat→Nat→Nat}
theorem tT (cZ:∀k∈ρ,(Mem.get m k).isSome=true) (b:Nat):iy (φ.hP ρ nv) (mkM 0 (selL m ρ bor nv 0 ρ)) b↔wL φ m ρ b:=by
 constructor
 ·rintro ⟨e,he,L,hL,ho⟩;obtain⟨j,v,c,hj,rfl⟩:=ke.1 he;rw[uL]at hj;obtain⟨k,hk,nw⟩:=Option.map_eq_some_iff.1 hj;simp only[Nat.zero_add,bI.hP,hk,Option.map_eq_some_iff]at hL;obtain⟨L0,rm,rfl⟩:=hL;have fa:=List.mem_of_getElem? hk;have:=cZ k fa;obtain⟨e0,AX⟩:=Option.isSome_iff_exists.1 this;rw[AX]at nw;simp only[selE,Prod.mk.injEq]at nw;obtain⟨rfl,rfl⟩:=nw;exact⟨k,fa,e0,L0,AX,rm,jN.1 (sj.1 ho)⟩
 ·rintro ⟨k,hk,e,L,hg,hL,ho⟩;obtain⟨j,hj,rfl⟩:=List.mem_iff_getElem.1 hk;refine⟨⟨0+j,nv j e.aj,selC m ρ bor nv e.cont⟩,ke.2 ⟨j,_,_,?_,rfl⟩,{L with aj:=nv j L.aj},?_,sj.2 (jN.2 ho)⟩
  ·rw[uL];simp[hj,hg,selE]
  ·simp[bI.hP,hj,hL]
theorem ye (hm:bj φ G m w) (hn:ρ.Nodup) (cZ:∀k∈ρ,(Mem.get m k).isSome=true) (hG:∀b,G1 b→Fo G φ m b) (hG1:∀b,wL φ m ρ b→¬G1 b)
 (Lm:∀k e L b,Mem.get m k=some e→k∉ρ→bor k=true→φ k=some L→e.cont.cN L b→¬G1 b):
 bj (φ.hP ρ nv) G1 (mkM 0 (selL m ρ bor nv 0 ρ)) w∧(∀y v,az φ w (Fo G φ m) y v→az (φ.hP ρ nv) w (Fo G1 (φ.hP ρ nv) (mkM 0 (selL m ρ bor nv 0 ρ))) (vw m ρ bor nv y) v)∧
  (∀b,Fo G1 (φ.hP ρ nv) (mkM 0 (selL m ρ bor nv 0 ρ)) b→Fo G φ m b):=by
 have fD:=tT (φ:=φ) (nv:=nv) (bor:=bor) cZ;have hF:∀b,Fo G1 (φ.hP ρ nv) (mkM 0 (selL m ρ bor nv 0 ρ)) b→Fo G φ m b:=by
  rintro b (h|h)
  ·exact hG b h
  ·exact .inr ((fD b).1 h).own
 have hb:∀k e L b,Mem.get m k=some e→k∉ρ→bor k=true→φ k=some L→e.cont.cN L b→¬Fo G1 (φ.hP ρ nv) (mkM 0 (selL m ρ bor nv 0 ρ)) b:=by
  rintro k e L b hg hk Ul hL ho (h|h)
  ·exact Lm k e L b hg hk Ul hL ho h
  ·exact AW hm hg hL ho hk ((fD _).1 h)
 have bX:∀y v,az φ w (Fo G φ m) y v→az (φ.hP ρ nv) w (Fo G1 (φ.hP ρ nv) (mkM 0 (selL m ρ bor nv 0 ρ))) (vw m ρ bor nv y) v:=fun y v h=>XS hm hF hb h;have hd:∀x v,aH w (Fo G φ m) x v→aH w (Fo G1 (φ.hP ρ nv) (mkM 0 (selL m ρ bor nv 0 ρ))) x v:=fun x v h=>h.mono (fun _ _ _=>rfl) (Nat.le_refl _) (fun b _=>hF b);have part:∀{e:cJ},e∈mkM 0 (selL m ρ bor nv 0 ρ)→∃j k e0 L0,ρ[j]?=some k∧Mem.get m k=some e0∧φ k=some L0∧L0.aj=e0.aj∧dR φ w (Fo G φ m) L0 e0.cont∧e=⟨j,nv j e0.aj,selC m ρ bor nv e0.cont⟩:=by
  intro e he;obtain⟨j,v,c,hj,rfl⟩:=ke.1 he;rw[uL]at hj;obtain⟨k,hk,nw⟩:=Option.map_eq_some_iff.1 hj;obtain⟨e0,AX⟩:=Option.isSome_iff_exists.1 (cZ k (List.mem_of_getElem? hk));rw[AX]at nw;simp only[selE,Prod.mk.injEq,Nat.zero_add]at nw;obtain⟨rfl,rfl⟩:=nw;obtain⟨_,_,L0,rm,aw,b8⟩:=hm.get AX;exact⟨j,k,e0,L0,hk,AX,rm,aw,b8,by simp⟩
 refine⟨⟨?_,?_,?_,?_,?_,?_⟩,bX,hF⟩
 ·rw[oX];exact List.nodup_range'
 ·intro i L hL;rw[oX,pA];simp only[bI.hP]at hL;split at hL
  ·rename_i k hk;have:=(List.getElem?_eq_some_iff.1 hk).1;simp[List.mem_range'];omega
  ·cases hL
 ·intro e he;obtain⟨j,k,e0,L0,hk,AX,rm,aw,b8,rfl⟩:=part he;refine⟨{L0 with aj:=nv j L0.aj},by simp[bI.hP,hk,rm],by simp[aw],?_⟩;cases hc:e0.cont with
  |dead=>trivial
  |box cs=>
   rw[hc]at b8;obtain⟨g0,arr,elem,g1,g2,g3,g4⟩:=b8;refine⟨by simpa [kA]using g0,arr,elem,g1,by simp[kA,g2],g3,fun i c v sk hv=>?_⟩;rw[q0]at sk;obtain⟨y,hy,rfl⟩:=Option.map_eq_some_iff.1 sk;exact bX y v (g4 i y v hy hv)
  |vec sz rows=>
   rw[hc]at b8;obtain⟨g1,g2,g3,g4⟩:=b8;refine⟨g1,g2,g3,fun h0=>?_⟩;obtain⟨arr,elem,f1,f2,f3,f4⟩:=g4 h0;exact⟨arr,elem,f1,f2,f3,fun i d yS=>let ⟨v,hv,hj⟩:=f4 i d yS;⟨v,hd _ _ hv,hj⟩⟩
  |vv rows y=>
   rw[hc]at b8;exact (jY.mono (vw m ρ bor nv) b8 (fun _ _ _ _ u hu=>hd _ u hu) (fun x _ v hx=>bX x v hx) (fun _ _=>rfl)).aj _
 ·intro e he e' nQ L L' hL bM gA;obtain⟨j,k,e0,L0,hk,AX,rm,aw,b8,rfl⟩:=part he;obtain⟨j',k',e0',L0',aN,ahL,XT,aqE,arM,rfl⟩:=part nQ;simp only[bI.hP,hk,rm,aN,XT,Option.map_some,Option.some.injEq]at hL bM;subst hL;subst bM;obtain⟨sl,gu⟩:=Mem.get_mem AX;obtain⟨jT,ck⟩:=Mem.get_mem ahL;have:=hm.apart e0 sl e0' jT L0 L0' (by rw[gu];exact rm) (by rw[ck];exact XT) (gA.imp fun b h=>⟨jN.1 (sj.1 h.1),jN.1 (sj.1 h.2)⟩);rw[gu,ck]at this;obtain⟨hi,h3⟩:=List.getElem?_eq_some_iff.1 hk;obtain⟨hj,h4⟩:=List.getElem?_eq_some_iff.1 aN;exact (List.getElem_inj hn).1 (h3.trans (this.trans h4.symm))
 ·exact fun b pP=>hG1 b ((fD b).1 pP)
 ·exact fun b pP=>zG hm b (hG b pP)
end
mutual
def plainD:D→Bool
 | .list (_::_)=>false
 | .list []=>true
 | .agg cs=>plainDs cs
 | .int _ _=>true
 | .bool _=>true
 | .str _=>true
 | .AI=>true
def plainDs:List D→Bool
 |[]=>true
 |x::r=>plainD x&&plainDs r
end
theorem pB:∀{l:List D},plainDs l=true→∀x∈l,plainD x=true
 |[],_,x,hx=>by simp at hx
 |y::r,h,x,hx=>by
  simp only[plainDs,Bool.and_eq_true]at h;rcases List.mem_cons.1 hx with rfl|hx
  ·exact h.1
  ·exact pB h.2 x hx
theorem aH.plain {w w':World} {F F':Nat→Prop} {d v} (h:aH w F d v) (hp:plainD d=true):aH w' F' d v:=by
 induction h with
 |int k n=>exact .int k n
 |bool b=>exact .bool b
 |AI v h=>exact .AI v h
 |str b s h=>exact .str b s h
 |agg cs a hl hf _ ih=>
  refine .agg cs a hl hf (fun i d v hd hv=>ih i d v hd hv (pB (by simpa only[plainD]using hp) d (List.mem_of_getElem? hd)))
 |nil a cap hn=>exact .nil a cap hn
 |list xs b off cap sz vs di hb hF bN hv hc _=>
  cases xs with
  |nil=>exact .nil _ _ (by simp)
  |cons=>simp[plainD]at hp
mutual
def plainAV:AV→Bool
 | .d x=>plainD x
 | .dG _ _=>false
 | .agg cs=>plainAVs cs
 | .fn _ cap=>plainAVs cap
 | .aU vs=>plainAVs vs
 | .gM _ x=>plainD x
 | .aW=>true
 | .ptr _ _ _=>true
 | .vec _ _ _ _=>true
 | .cG _ _ _ _=>true
 | .lit _=>true
 | .nn=>true
 | .err=>true
def plainAVs:List AV→Bool
 |[]=>true
 |x::r=>plainAV x&&plainAVs r
end
theorem kf:∀{l:List AV},plainAVs l=true→∀x∈l,plainAV x=true
 |[],_,x,hx=>by simp at hx
 |y::r,h,x,hx=>by
  simp only[plainAVs,Bool.and_eq_true]at h;rcases List.mem_cons.1 hx with rfl|hx
  ·exact h.1
  ·exact kf h.2 x hx
def plainC:aD→Bool
 | .dead=>true
 | .box cs=>plainAVs cs
 | .vec _ rows=>plainDs rows
 | .vv rows y=>rows.all plainDs&&(match y with|none=>true|some x=>plainAV x)
mutual
def up (ρ bs:List Nat):AV→AV
 | .ptr k aj off=>.ptr (ρ.getD k 0) (bs.getD k 0+aj) off
 | .vec k aj off len=>.vec (ρ.getD k 0) (bs.getD k 0+aj) off len
 | .cG k aj i j=>.cG (ρ.getD k 0) (bs.getD k 0+aj) i j
 | .agg cs=>.agg (ups ρ bs cs)
 | .fn f cap=>.fn f (ups ρ bs cap)
 | .aU vs=>.aU (ups ρ bs vs)
 | .aW=>.aW
 | .d x=>.d x
 | .dG x j=>.dG x j
 | .gM t x=>.gM t x
 | .lit v=>.lit v
 | .nn=>.nn
 | .err=>.err
def ups (ρ bs:List Nat):List AV→List AV
 |[]=>[]
 |x::r=>up ρ bs x::ups ρ bs r
end
theorem q8 (ρ bs):∀(l:List AV) (i:Nat),(ups ρ bs l)[i]?=(l[i]?).map (up ρ bs)
 |[],i=>by simp[ups]
 |x::r,i=>by cases i with|zero=>simp[ups]|succ i=>simp[ups,q8 ρ bs r i]
theorem kB (ρ bs):∀(l:List AV),(ups ρ bs l).length=l.length
 |[]=>rfl
 |x::r=>by simp[ups,kB ρ bs r]
def upC (ρ bs:List Nat):aD→aD
 | .dead=>.dead
 | .box cs=>.box (ups ρ bs cs)
 | .vec sz rows=>.vec sz rows
 | .vv rows y=>.vv rows (y.map (up ρ bs))
def backL (ρ bs:List Nat):Nat→List (Nat×aD)→List cJ
 |_,[]=>[]
 |i,(v,c)::r=>⟨ρ.getD i 0,bs.getD i 0+v,upC ρ bs c⟩::backL ρ bs (i+1) r
theorem pV {ρ bs:List Nat}:∀{l:List (Nat×aD)} {i:Nat} {e:cJ},e∈backL ρ bs i l↔∃j v c,l[j]?=some (v,c)∧e=⟨ρ.getD (i+j) 0,bs.getD (i+j) 0+v,upC ρ bs c⟩
 |[],i,e=>by simp[backL]
 |(v,c)::r,i,e=>by
  simp only[backL,List.mem_cons,pV (l:=r)];constructor
  ·rintro (rfl|⟨j,v',c',h,rfl⟩)
   ·exact⟨0,v,c,by simp,by simp⟩
   ·exact⟨j+1,v',c',by simpa using h,by rw[show i+(j+1)=i+1+j by omega]⟩
  ·rintro ⟨j,v',c',h,rfl⟩;cases j with
   |zero=>simp at h;obtain⟨rfl,rfl⟩:=h;left;simp
   |succ j=>right;exact⟨j,v',c',by simpa using h,by rw[show i+(j+1)=i+1+j by omega]⟩
theorem AY {ρ bs:List Nat}:∀(l:List (Nat×aD)) (i:Nat),(backL ρ bs i l).map (·.key)=(List.range' i l.length).map fun j=>ρ.getD j 0
 |[],i=>rfl
 |(v,c)::r,i=>by simp[backL,AY r,List.range'_succ]
def putAll (m:Mem):List cJ→Mem
 |[]=>m
 |e::r=>putAll (Mem.set m e) r
theorem jO:∀(es:List cJ) (m:Mem),(putAll m es).map (·.key)=m.map (·.key)
 |[],m=>rfl
 |e::r,m=>by rw[putAll,jO r,Mem.gw]
theorem AZ:∀(es:List cJ) (m:Mem),(m.map (·.key)).Nodup→(es.map (·.key)).Nodup→(∀e∈es,e.key∈m.map (·.key))→∀e,e∈putAll m es↔e∈es∨(e∈m∧e.key∉es.map (·.key))
 |[],m,_,_,_,e=>by simp[putAll]
 |x::r,m,hm,hn,hk,e=>by
  simp only[List.map_cons,List.nodup_cons]at hn;rw[putAll,AZ r (Mem.set m x) (by rw[Mem.gw];exact hm) hn.2 (fun e he=>by rw[Mem.gw];exact hk e (by simp[he])),Mem.mem_set hm];have hx:=hk x (by simp);constructor
  ·rintro (h|⟨⟨rfl,_⟩|⟨h,bE⟩,wA⟩)
   ·left;simp[h]
   ·left;simp
   ·right;exact⟨h,by simp only[List.map_cons,List.mem_cons,not_or];exact⟨bE,wA⟩⟩
  ·rintro (h|⟨h,wA⟩)
   ·rcases List.mem_cons.1 h with rfl|h
    ·right;exact⟨.inl ⟨rfl,hx⟩,hn.1⟩
    ·left;exact h
   ·simp only[List.map_cons,List.mem_cons,not_or]at wA;right;exact⟨.inr ⟨h,wA.1⟩,wA.2⟩
def base (m:Mem) (d:Nat):List Nat→List Nat
 |[]=>[]
 |k::r=>(match Mem.get m k with|some e=>e.aj+d|none=>0)::base m d r
theorem zL (m:Mem) (d:Nat):∀(l:List Nat) (i:Nat),(base m d l)[i]?=(l[i]?).map fun k=>match Mem.get m k with|some e=>e.aj+d|none=>0
 |[],i=>by simp[base]
 |k::r,i=>by cases i with|zero=>simp[base]|succ i=>simp[base,zL m d r i]
theorem pC (m:Mem) (d:Nat):∀(l:List Nat),(base m d l).length=l.length
 |[]=>rfl
 |k::r=>by simp[base,pC m d r]
def nv0:Nat→Nat→Nat:=fun _ _=>0
def kC (φ:bI) (G:Fr) (m:Mem) (ρ B:List Nat):Fr:=⟨fun b=>Fo G φ m b∧¬wL φ m ρ b∧¬wL φ m B b,[]⟩
section
variable {φ:bI} {G:Fr} {m:Mem} {w:World} {ρ B:List Nat}
theorem C9 (hm:bj φ G m w) (hn:ρ.Nodup) (cZ:∀k∈ρ,(Mem.get m k).isSome=true):
 bj (φ.hP ρ nv0) (kC φ G m ρ B) (mkM 0 (selL m ρ (fun k=>B.contains k) nv0 0 ρ)) w∧
  (∀y v,az φ w (Fo G φ m) y v→az (φ.hP ρ nv0) w (Fo (kC φ G m ρ B) (φ.hP ρ nv0) (mkM 0 (selL m ρ (fun k=>B.contains k) nv0 0 ρ))) (vw m ρ (fun k=>B.contains k) nv0 y) v)∧
  (∀b,Fo (kC φ G m ρ B) (φ.hP ρ nv0) (mkM 0 (selL m ρ (fun k=>B.contains k) nv0 0 ρ)) b→Fo G φ m b):=
 ye hm hn cZ (fun b h=>h.1) (fun b h h'=>h'.2.1 h) (fun k e L b hg _ hb hL ho h'=>h'.2.2 ⟨k,by simpa using hb,e,L,hg,hL,ho⟩)
theorem az.upR {φ φ':bI} {ρ bs:List Nat} {w F F' x v} (h:az φ w F x v) (hφ:∀i L,φ i=some L→φ' (ρ.getD i 0)=some {L with aj:=bs.getD i 0+L.aj})
 (hd:(∀b,F' b→F b)∨plainAV x=true):az φ' w F' (up ρ bs x) v:=by
 have dd:∀{d v},aH w F d v→((∀b,F' b→F b)∨plainD d=true)→aH w F' d v:=fun h hd=>by
  rcases hd with hd|hd
  ·exact h.mono (fun _ _ _=>rfl) (Nat.le_refl _) (fun b _=>hd b)
  ·exact h.plain hd
 induction h with
 |aW v=>exact .aW v
 |d x v h=>exact .d x v (dd h (hd.imp id (by simp[plainAV])))
 |agg cs a hl h1 _ ih=>
  refine .agg _ a (by rw[kB];exact hl) h1 (fun i c v hc hv=>?_);rw[q8]at hc;obtain⟨y,hy,rfl⟩:=Option.map_eq_some_iff.1 hc;exact ih i y v hy hv (hd.imp id fun hp=>kf (by simpa only[plainAV]using hp) y (List.mem_of_getElem? hy))
 |ptr k aj off v L hL hv h h1=>exact .ptr _ _ off v _ (hφ k L hL) (by simp only;omega) (fun he=>h (by simp only at he;omega)) h1
 |vec k aj off len v L hL hv h h1=>exact .vec _ _ off len v _ (hφ k L hL) (by simp only;omega) (fun he=>h (by simp only at he;omega)) h1
 |cG k aj i j v L hL hv h h1=>exact .cG _ _ i j v _ (hφ k L hL) (by simp only;omega) (fun he=>h (by simp only at he;omega)) h1
 |dG x j b off x' hb mq hx hc=>
  rcases hd with hd|hd
  ·exact .dG x j b off x' hb (fun h=>mq (hd b h)) (hx.mono (fun _ _ _=>rfl) (Nat.le_refl _) (fun b _=>hd b)) hc
  ·simp[plainAV]at hd
 |fn f cap a hf hl _ ih=>
  refine .fn f _ a hf (by rw[kB];exact hl) (fun i c v hc hv=>?_);rw[q8]at hc;obtain⟨y,hy,rfl⟩:=Option.map_eq_some_iff.1 hc;exact ih i y v hy hv (hd.imp id fun hp=>kf (by simpa only[plainAV]using hp) y (List.mem_of_getElem? hy))
 |qu f cap a hl _ ih=>
  refine .qu f _ a (by rw[kB];exact hl) (fun i c v hc hv=>?_);rw[q8]at hc;obtain⟨y,hy,rfl⟩:=Option.map_eq_some_iff.1 hc;exact ih i y v hy hv (hd.imp id fun hp=>kf (by simpa only[plainAV]using hp) y (List.mem_of_getElem? hy))
 |aU vs a hl _ ih=>
  refine .aU _ a (by rw[kB];exact hl) (fun i c v hc hv=>?_);rw[q8]at hc;obtain⟨y,hy,rfl⟩:=Option.map_eq_some_iff.1 hc;exact ih i y v hy hv (hd.imp id fun hp=>kf (by simpa only[plainAV]using hp) y (List.mem_of_getElem? hy))
 |gM t x v h=>exact .gM t x v (dd h (hd.imp id (by simp[plainAV])))
 |lit v h=>exact .lit v h
 |nn a cap=>exact .nn a cap
 |err t v=>exact .err t v
theorem oY {ρ bs L c b}:(upC ρ bs c).cN L b↔c.cN L b:=by cases c<;>exact Iff.rfl
theorem Da (h:bj φ G m w) (hn:ρ.Nodup) (cZ:∀k∈ρ,(Mem.get m k).isSome=true) {fr:List Nat} (Ok:fr.Nodup) (vQ:∀k∈fr,(Mem.get m k).isSome=true∧k∉ρ)
 {φ2:bI} {l2:List (Nat×aD)} {w2:World} (h2:bj φ2 (kC φ G m ρ B) (mkM 0 l2) w2)
 (hk:aQ (φ.hP ρ nv0) (mkM 0 (selL m ρ (fun k=>B.contains k) nv0 0 ρ)) w φ2 (mkM 0 l2) w2) (hlen:l2.length=ρ.length+fr.length)
 (dg:B=[]∨∀e∈l2,plainC e.2=true):
 ∃φ':bI,bj φ' G (putAll m (backL (ρ++fr) (base m 0 ρ++base m 1 fr) 0 l2)) w2∧aQ φ m w φ' (putAll m (backL (ρ++fr) (base m 0 ρ++base m 1 fr) 0 l2)) w2∧
  ∀x v,(B=[]∨plainAV x=true)→az φ2 w2 (Fo (kC φ G m ρ B) φ2 (mkM 0 l2)) x v→
   az φ' w2 (Fo G φ' (putAll m (backL (ρ++fr) (base m 0 ρ++base m 1 fr) 0 l2))) (up (ρ++fr) (base m 0 ρ++base m 1 fr) x) v:=by
 obtain⟨ρ',Fl⟩:∃ρ',ρ'=ρ++fr:=⟨_,rfl⟩;obtain⟨bs,oM⟩:∃bs,bs=base m 0 ρ++base m 1 fr:=⟨_,rfl⟩;rw[←Fl,←oM];have sg:ρ'.Nodup:=by
  rw[Fl,List.nodup_append];exact⟨hn,Ok,fun a ha b hb sm=>(vQ b hb).2 (sm▸ha)⟩
 have El:l2.length=ρ'.length:=by rw[Fl,List.length_append];exact hlen
 have Ol:∀k∈ρ',(Mem.get m k).isSome=true:=fun k aN=>by
  rw[Fl]at aN;rcases List.mem_append.1 aN with h1|h1
  ·exact cZ k h1
  ·exact (vQ k h1).1
 have XU:∀k∈ρ',k∈m.map (·.key):=fun k aN=>by
  obtain⟨e,he⟩:=Option.isSome_iff_exists.1 (Ol k aN);obtain⟨hm,rfl⟩:=Mem.get_mem he;exact List.mem_map_of_mem hm
 obtain⟨φ',jq⟩:∃φ':bI,φ'=fun k=>match findK ρ' k 0 with|some i=>(φ2 i).map (fun L=>{L with aj:=bs.getD i 0+L.aj})|none=>φ k:=⟨_,rfl⟩
 have gW:∀{i},i<ρ'.length→ρ'[i]?=some (ρ'.getD i 0):=fun hi=>by simp[hi]
 have ahM:∀{i},i<ρ'.length→φ' (ρ'.getD i 0)=(φ2 i).map (fun L=>{L with aj:=bs.getD i 0+L.aj}):=fun hi=>by
  simp only[jq,Oj sg (gW hi)]
 have qL:∀{k},k∉ρ'→φ' k=φ k:=fun aN=>by simp only[jq,jB.2 aN]
 have ahN:∀{i L},φ2 i=some L→i<ρ'.length:=fun hL=>by
  have:=h2.oE _ _ hL;rw[oX]at this;simp[List.mem_range']at this;omega
 have qx:∀i L,φ2 i=some L→φ' (ρ'.getD i 0)=some {L with aj:=bs.getD i 0+L.aj}:=fun i L hL=>by
  rw[ahM (ahN hL),hL];rfl
 --vK entries behind
 have fa:=AZ (backL ρ' bs 0 l2) m h.nodup;have Ul:(backL ρ' bs 0 l2).map (·.key)=ρ':=by
  rw[AY,El];apply List.ext_getElem?;intro i;by_cases hi:i<ρ'.length
  ·simp[hi]
  ·rw[List.getElem?_eq_none (by simp;omega),List.getElem?_eq_none (by omega)]
 rw[Ul]at fa;replace fa:=fa sg (fun e he=>XU e.key (by rw[←Ul];exact List.mem_map_of_mem he));have IJ:∀{e},e∈backL ρ' bs 0 l2→∃j v c L,j<ρ'.length∧l2[j]?=some (v,c)∧e=⟨ρ'.getD j 0,bs.getD j 0+v,upC ρ' bs c⟩∧φ2 j=some L∧L.aj=v∧dR φ2 w2 (Fo (kC φ G m ρ B) φ2 (mkM 0 l2)) L c:=by
  intro e he;obtain⟨j,v,c,hj,rfl⟩:=pV.1 he;have im:=(List.getElem?_eq_some_iff.1 hj).1;obtain⟨L,hL,aw,hc⟩:=h2.eZ ⟨0+j,v,c⟩ (ke.2 ⟨j,v,c,hj,rfl⟩);simp only[Nat.zero_add]at hL⊢;exact⟨j,v,c,L,by omega,hj,rfl,hL,aw,hc⟩
 have A0:=tT (φ:=φ) (nv:=nv0) (bor:=fun k=>B.contains k) cZ;have Ln:∀b,iy φ' (putAll m (backL ρ' bs 0 l2)) b↔iy φ2 (mkM 0 l2) b∨∃e∈m,e.key∉ρ'∧∃L,φ e.key=some L∧e.cont.cN L b:=by
  intro b;constructor
  ·rintro ⟨e,he,L,hL,ho⟩;rcases (fa e).1 he with he|⟨he,bE⟩
   ·obtain⟨j,v,c,L2,im,hj,rfl,dU,aw,hc⟩:=IJ he;left;simp only[qx j L2 dU,Option.some.injEq]at hL;subst hL;exact⟨⟨0+j,v,c⟩,ke.2 ⟨j,v,c,hj,rfl⟩,L2,by simpa using dU,jN.1 (oY.1 ho)⟩
   ·right;exact⟨e,he,bE,L,by rw[←qL bE];exact hL,ho⟩
  ·rintro (⟨e2,vJ,L,hL,ho⟩|⟨e,he,bE,L,hL,ho⟩)
   ·obtain⟨j,v,c,hj,rfl⟩:=ke.1 vJ;simp only[Nat.zero_add]at hL;exact⟨⟨ρ'.getD j 0,bs.getD j 0+v,upC ρ' bs c⟩,(fa _).2 (.inl (pV.2 ⟨j,v,c,hj,by simp⟩)),_,qx j L hL,oY.2 (jN.2 ho)⟩
   ·exact⟨e,(fa _).2 (.inr ⟨he,bE⟩),L,by rw[qL bE];exact hL,ho⟩
 have XV:∀{k},k∉ρ'→k∉ρ:=fun aN h1=>aN (by rw[Fl];exact List.mem_append_left _ h1)
 --an entry beside shares no block with vK ahO
 have Ci:∀e∈m,e.key∉ρ→∀L b,φ e.key=some L→e.cont.cN L b→¬wL φ m ρ b:=fun e he bE L b hL ho=>
  AW h (Mem.get_of_mem h.nodup he) hL ho bE
 have hle:φ.le φ':=by
  intro k L hL;by_cases aN:k∈ρ'
  ·obtain⟨i,hi,rfl⟩:=List.mem_iff_getElem.1 aN;have hgd:ρ'.getD i 0=ρ'[i]:=by simp[hi]
   obtain⟨e,he⟩:=Option.isSome_iff_exists.1 (Ol _ aN);obtain⟨_,_,L0,rm,aw,_⟩:=h.get he;rw[hL]at rm;cases rm;by_cases hir:i<ρ.length
   ·have gf:ρ[i]?=some ρ'[i]:=by simp only[Fl];rw[List.getElem_append_left hir];simp
    have hbi:bs.getD i 0=L.aj:=by
     rw[oM,List.getD_eq_getElem?_getD,List.getElem?_append_left (by rw[pC];exact hir),zL,gf];simp[he,aw]
    obtain⟨L',h3,h4,h5⟩:=hk.le i {L with aj:=0} (by simp[bI.hP,gf,hL,nv0]);refine⟨{L' with aj:=bs.getD i 0+L'.aj},by rw[←hgd];exact qx i L' h3,by simp only;omega,fun vJ=>?_⟩;simp only at vJ;have h6:=h5 (by simp only;omega);have g1:=congrArg Loc.aj h6;have g2:=congrArg Loc.dx h6;have g3:=congrArg Loc.sz h6;have g4:=congrArg Loc.cap h6;have g5:=congrArg Loc.base h6;simp only at g1 g2 g3 g4 g5⊢;rw[g1,g2,g3,g4,g5,hbi,Nat.add_zero]
   ·have iA:i<l2.length:=by omega
    obtain⟨L',bM,_,_⟩:=h2.eZ ⟨0+i,l2[i].1,l2[i].2⟩ (ke.2 ⟨i,_,_,by simp[iA],rfl⟩);simp only[Nat.zero_add]at bM;have gf:fr[i-ρ.length]?=some ρ'[i]:=by
     simp only[Fl]at hi⊢;rw[List.getElem_append_right (by omega)];simp
    have hbi:bs.getD i 0=L.aj+1:=by
     rw[oM,List.getD_eq_getElem?_getD,List.getElem?_append_right (by rw[pC];omega),pC,zL,gf];simp[he,aw]
    refine⟨{L' with aj:=bs.getD i 0+L'.aj},by rw[←hgd];exact qx i L' bM,by simp only;omega,fun vJ=>?_⟩;simp only at vJ;omega
  ·exact⟨L,by rw[qL aN];exact hL,Nat.le_refl _,fun _=>rfl⟩
 have Um:∀b,b<w.heap.size→iy φ' (putAll m (backL ρ' bs 0 l2)) b→iy φ m b:=by
  intro b hb IK;rcases (Ln b).1 IK with h3|⟨e,he,_,L,hL,ho⟩
  ·exact ((A0 b).1 (hk.own b hb h3)).own
  ·exact⟨e,he,L,hL,ho⟩
 have hold:∀b,b<w.heap.size→¬iy φ m b→w2.heap[b]?=w.heap[b]?:=fun b hb yY=>hk.wa b hb (fun ho=>yY ((A0 b).1 ho).own);have Un:B=[]→∀b,Fo G φ' (putAll m (backL ρ' bs 0 l2)) b→Fo (kC φ G m ρ B) φ2 (mkM 0 l2) b:=by
  rintro rfl b (hG|ho)
  ·refine .inl ⟨.inl hG,fun ho=>h.jZ b ho.own hG,?_⟩;rintro ⟨k,aN,_⟩;simp at aN
  ·rcases (Ln b).1 ho with h3|⟨e,he,bE,L,hL,ho5⟩
   ·exact .inr h3
   ·refine .inl ⟨.inr ⟨e,he,L,hL,ho5⟩,Ci e he (XV bE) L b hL ho5,?_⟩;rintro ⟨k,aN,_⟩;simp at aN
 have bX:∀x v,(B=[]∨plainAV x=true)→az φ2 w2 (Fo (kC φ G m ρ B) φ2 (mkM 0 l2)) x v→az φ' w2 (Fo G φ' (putAll m (backL ρ' bs 0 l2))) (up ρ' bs x) v:=
  fun x v hx hr=>hr.upR qx (hx.imp Un id)
 have qy:∀d v,(B=[]∨plainD d=true)→aH w2 (Fo (kC φ G m ρ B) φ2 (mkM 0 l2)) d v→aH w2 (Fo G φ' (putAll m (backL ρ' bs 0 l2))) d v:=fun d v hx hr=>by
  rcases hx with hx|hx
  ·exact hr.mono (fun _ _ _=>rfl) (Nat.le_refl _) (fun b _=>Un hx b)
  ·exact hr.plain hx
 refine⟨φ',⟨?_,?_,?_,?_,?_,?_⟩,⟨hle,hold,Um,hk.size,hk.os,hk.tape,hk.output⟩,bX⟩
 ·rw[jO];exact h.nodup
 ·intro k L hL;rw[jO];by_cases aN:k∈ρ'
  ·exact XU k aN
  ·rw[qL aN]at hL;exact h.oE k L hL
 ·intro e he;rcases (fa e).1 he with he|⟨he,bE⟩
  ·obtain⟨j,v,c,L2,im,hj,rfl,dU,aw,hc⟩:=IJ he;refine⟨_,qx j L2 dU,by simp[aw],?_⟩;have Uo:B=[]∨plainC c=true:=dg.imp id fun hp=>hp (v,c) (List.mem_of_getElem? hj);cases c with
   |dead=>trivial
   |box cs=>
    obtain⟨g0,arr,elem,g1,g2,g3,g4⟩:=hc;refine⟨by simpa [kB]using g0,arr,elem,g1,by simp[kB,g2],g3,fun i c v sk hv=>?_⟩;rw[q8]at sk;obtain⟨y,hy,rfl⟩:=Option.map_eq_some_iff.1 sk;exact bX y v (Uo.imp id fun hp=>kf (by simpa only[plainC]using hp) y (List.mem_of_getElem? hy)) (g4 i y v hy hv)
   |vec sz rows=>
    obtain⟨g1,g2,g3,g4⟩:=hc;refine⟨g1,g2,g3,fun h0=>?_⟩;obtain⟨arr,elem,f1,f2,f3,f4⟩:=g4 h0;exact⟨arr,elem,f1,f2,f3,fun i d yS=>let ⟨v,hv,hj⟩:=f4 i d yS;⟨v,qy d v (Uo.imp id fun hp=>pB (by simpa only[plainC]using hp) d (List.mem_of_getElem? yS)) hv,hj⟩⟩
   |vv rows y=>
    refine (jY.mono (up ρ' bs) hc (fun xs mO d hd u hu=>qy d u (Uo.imp id fun hp=>?_) hu) (fun x hx v hv=>bX x v (Uo.imp id fun hp=>?_) hv) (fun _ _=>rfl)).aj _
    ·simp only[plainC,Bool.and_eq_true,List.all_eq_true]at hp;exact pB (hp.1 xs mO) d hd
    ·simp only[plainC,Bool.and_eq_true,hx]at hp;exact hp.2
  ·obtain⟨L,hL,aw,hc⟩:=h.eZ e he;refine⟨L,by rw[qL bE];exact hL,aw,hc.mono hle (fun b hb yY=>hold b hb (fun ho=>yY (.inr ho))) hk.size (fun b hb=>Or.imp id (Um b hb)) (fun b ho=>?_)⟩;exact hk.wa _ (hc.lt ho) (fun h1=>Ci e he (XV bE) L b hL ho ((A0 _).1 h1))
 ·rintro e he e' nQ L L' hL bM ⟨b,ho,cx⟩;have Up:∀{j v c L2 Fm Om},l2[j]?=some (v,c)→φ2 j=some L2→c.cN L2 b→Fm∈m→Fm.key∉ρ'→φ Fm.key=some Om→Fm.cont.cN Om b→False:=by
   intro j v c L2 Fm Om hj dU hc XW bE XX XY;have cg:b<w.heap.size:=h.AJ ⟨Fm,XW,Om,XX,XY⟩;have h3:iy φ2 (mkM 0 l2) b:=⟨⟨0+j,v,c⟩,ke.2 ⟨j,v,c,hj,rfl⟩,L2,by simpa using dU,hc⟩;exact Ci Fm XW (XV bE) Om b XX XY ((A0 _).1 (hk.own _ cg h3))
  rcases (fa e).1 he with he|⟨he,bE⟩<;>rcases (fa e').1 nQ with nQ|⟨nQ,RR⟩
  ·obtain⟨j,v,c,L2,im,hj,rfl,dU,_,_⟩:=IJ he;obtain⟨j',v',c',L2',arN,oG,rfl,Cj,_,_⟩:=IJ nQ;simp only[qx j L2 dU,qx j' L2' Cj,Option.some.injEq]at hL bM;subst hL;subst bM;have:=h2.apart ⟨0+j,v,c⟩ (ke.2 ⟨j,v,c,hj,rfl⟩) ⟨0+j',v',c'⟩ (ke.2 ⟨j',v',c',oG,rfl⟩) L2 L2' (by simpa using dU) (by simpa using Cj) ⟨b,jN.1 (oY.1 ho),jN.1 (oY.1 cx)⟩;simp only[Nat.zero_add]at this;rw[this]
  ·obtain⟨j,v,c,L2,im,hj,rfl,dU,_,_⟩:=IJ he;simp only[qx j L2 dU,Option.some.injEq]at hL;subst hL;exact (Up hj dU (jN.1 (oY.1 ho)) nQ RR (by rw[←qL RR];exact bM) cx).elim
  ·obtain⟨j,v,c,L2,im,hj,rfl,dU,_,_⟩:=IJ nQ;simp only[qx j L2 dU,Option.some.injEq]at bM;subst bM;exact (Up hj dU (jN.1 (oY.1 cx)) he bE (by rw[←qL bE];exact hL) ho).elim
  ·exact h.apart e he e' nQ L L' (by rw[←qL bE];exact hL) (by rw[←qL RR];exact bM) ⟨b,ho,cx⟩
 ·intro b IK hG;rcases (Ln b).1 IK with h3|⟨e,he,_,L,hL,ho⟩
  ·exact h.jZ b ((A0 b).1 (hk.own b (h.bound b hG) h3)).own hG
  ·exact h.jZ _ ⟨e,he,L,hL,ho⟩ hG
 ·exact fun b hG=>Nat.lt_of_lt_of_le (h.bound b hG) hk.size
end
def dV (S S':St):Prop:=S'.n=S.n∧S'.gl=S.gl∧∀φ G a w,Rel φ G S a w→∃φ',Rel φ' G S' a w∧aQ φ S.mem w φ' S'.mem w
theorem dV.refl (S:St):dV S S:=⟨rfl,rfl,fun φ _ _ _ h=>⟨φ,h,aQ.refl ..⟩⟩
theorem dV.trans {S S' Fp:St} (h:dV S S') (k:dV S' Fp):dV S Fp:=
 ⟨k.1.trans h.1,k.2.1.trans h.2.1,fun φ G a w hr=>by
  obtain⟨φ1,h1,h2⟩:=h.2.2 φ G a w hr;obtain⟨φ2,h3,h4⟩:=k.2.2 φ1 G a w h1;exact⟨φ2,h3,h2.trans h4⟩⟩
theorem Lo (S:St) (oW:List Nat):dV S (S.prune oW):=⟨rfl,rfl,fun φ _ _ _ h=>⟨φ,h.prune oW,aQ.refl ..⟩⟩
theorem Fq {w:World} {φ φ':bI} {m m':Mem} (h:∀b,iy φ' m' b→iy φ m b) (hle:φ.le φ'):aQ φ m w φ' m' w:=
 ⟨hle,fun _ _ _=>rfl,fun b _ ho=>h b ho,Nat.le_refl _,rfl,rfl,rfl⟩
def mapC (τ:AV→AV):aD→aD
 | .box cs=>.box (cs.map τ)
 | .dead=>.dead
 | .vec sz rows=>.vec sz rows
 | .vv rows y=>.vv rows (y.map τ)
def mapM (τ:AV→AV) (e':cJ):Mem→Mem
 |[]=>[]
 |e::r=>(if e.key=e'.key then e' else ⟨e.key,e.aj,mapC τ e.cont⟩)::mapM τ e' r
def mapEnv (τ:AV→AV):Env→Env
 |[]=>[]
 |(t,g,x)::r=>(t,g,τ x)::mapEnv τ r
theorem wO (τ:AV→AV):∀(env:Env) (t:Nat) (g:Bool) (y:AV),Env.lk (mapEnv τ env) t=some (g,y)→∃x,Env.lk env t=some (g,x)∧y=τ x
 |[],t,g,y,h=>by simp[mapEnv,Env.lk]at h
 |(t',g',x')::r,t,g,y,h=>by
  simp only[mapEnv,Env.lk]at h⊢;by_cases ht:t'=t
  ·subst ht;simp at h⊢;obtain⟨rfl,rfl⟩:=h;simp
  ·simp only[ht,if_false]at h⊢;exact wO τ r t g y h
theorem wP (τ:AV→AV) (e':cJ):∀m:Mem,(mapM τ e' m).map (·.key)=m.map (·.key)
 |[]=>rfl
 |e::r=>by
  simp only[mapM,List.map_cons,wP τ e' r];congr 1;split
  ·rename_i h;exact h.symm
  ·rfl
theorem mapM_mem {τ:AV→AV} {e':cJ}:∀{m:Mem} {x:cJ},x∈mapM τ e' m↔∃e∈m,x=if e.key=e'.key then e' else ⟨e.key,e.aj,mapC τ e.cont⟩
 |[],x=>by simp[mapM]
 |e::r,x=>by simp[mapM,mapM_mem (m:=r)]
theorem ku {τ L c b}:(mapC τ c).cN L b↔c.cN L b:=by cases c<;>exact Iff.rfl
def St.mapAll (S:St) (τ:AV→AV) (e':cJ):St:={S with env:=mapEnv τ S.env,mem:=mapM τ e' S.mem}
theorem Fs {φ:bI} {G S a w} (h:Rel φ G S a w) (τ:AV→AV) {e e':cJ} (he:e∈S.mem) {L L':Loc} (hL:φ e.key=some L) (iZ:e'.key=e.key)
 (hv:L.aj<L'.aj) (r5:L'.aj=e'.aj) (fD:∀b,e'.cont.cN L' b→e.cont.cN L b)
 (hτ:∀(φ':bI) (F':Nat→Prop),φ' e.key=some L'→(∀k,k≠e.key→φ' k=φ k)→(∀b,F' b→Fo G φ S.mem b)→(∀b,¬e'.cont.cN L' b→e.cont.cN L b→¬F' b)→∀x v,az φ w (Fo G φ S.mem) x v→az φ' w F' (τ x) v)
 (hc:∀(φ':bI) (F':Nat→Prop),(∀b,F' b→Fo G φ S.mem b)→dR φ' w F' L' e'.cont):
 ∃φ',Rel φ' G (S.mapAll τ e') a w∧aQ φ S.mem w φ' (S.mapAll τ e').mem w:=by
 have hm:=h.mem;obtain⟨φ',jq⟩:∃φ':bI,φ'=fun k=>if k=e.key then some L' else φ k:=⟨_,rfl⟩
 have fe:φ' e.key=some L':=by simp[jq]
 have ep:∀k,k≠e.key→φ' k=φ k:=fun k hk=>by simp[jq,hk]
 have hle:φ.le φ':=by
  intro k L0 h0;by_cases hk:k=e.key
  ·subst hk;rw[hL]at h0;cases h0;exact⟨L',fe,by omega,fun hh=>by omega⟩
  ·exact⟨L0,by rw[ep k hk];exact h0,Nat.le_refl _,fun _=>rfl⟩
 have Lp:∀b,iy φ' (mapM τ e' S.mem) b→iy φ S.mem b:=by
  rintro b ⟨x,hx,Lx,eo,iz⟩;obtain⟨y,hy,rfl⟩:=mapM_mem.1 hx;by_cases hk:y.key=e'.key
  ·simp only[hk,if_true]at eo iz;rw[iZ,fe]at eo;cases eo;exact⟨e,he,L,hL,fD b iz⟩
  ·simp only[hk,if_false]at eo iz;rw[iZ]at hk;rw[ep _ hk]at eo;exact⟨y,hy,Lx,eo,ku.1 iz⟩
 have hF:∀b,Fo G φ' (mapM τ e' S.mem) b→Fo G φ S.mem b:=fun b=>Or.imp id (Lp b);have Lq:∀b,¬e'.cont.cN L' b→e.cont.cN L b→¬Fo G φ' (mapM τ e' S.mem) b:=by
  rintro b yY ho (hG|⟨x,hx,Lx,eo,iz⟩)
  ·exact hm.jZ _ ⟨e,he,L,hL,ho⟩ hG
  ·obtain⟨y,hy,rfl⟩:=mapM_mem.1 hx;by_cases hk:y.key=e'.key
   ·simp only[hk,if_true]at eo iz;rw[iZ,fe]at eo;cases eo;exact yY iz
   ·simp only[hk,if_false]at eo iz;rw[iZ]at hk;rw[ep _ hk]at eo;exact hk (hm.apart y hy e he Lx L eo hL ⟨b,ku.1 iz,ho⟩)
 have bX:=hτ φ' (Fo G φ' (mapM τ e' S.mem)) fe ep hF Lq;refine⟨φ',⟨h.size,h.defers,?_,⟨?_,?_,?_,?_,?_,?_⟩,h.j0.mono (fun _ _ _=>rfl) (Nat.le_refl _) (fun b _=>hF b)⟩,Fq Lp hle⟩
 ·intro t x hx;obtain⟨y,hy,rfl⟩:=wO τ S.env t true x hx;exact bX _ _ (h.env t y hy)
 ·show ((mapM τ e' S.mem).map (·.key)).Nodup;rw[wP];exact hm.nodup
 ·intro k L0 h0;show k∈(mapM τ e' S.mem).map (·.key);rw[wP];by_cases hk:k=e.key
  ·subst hk;exact List.mem_map_of_mem he
  ·rw[ep k hk]at h0;exact hm.oE k L0 h0
 ·intro x hx;obtain⟨y,hy,rfl⟩:=mapM_mem.1 hx;by_cases hk:y.key=e'.key
  ·simp only[hk,if_true];exact⟨L',by rw[iZ];exact fe,r5,hc _ _ hF⟩
  ·simp only[hk,if_false];obtain⟨Ly,dA,On,kL⟩:=hm.eZ y hy;refine⟨Ly,by rw[ep _ (by rw[←iZ];exact hk)];exact dA,On,?_⟩;cases mP:y.cont with
   |dead=>trivial
   |box cs=>
    rw[mP]at kL;obtain⟨g0,arr,elem,g1,g2,g3,g4⟩:=kL;refine⟨by simpa using g0,arr,elem,g1,by simp[g2],g3,fun i c v sk hv=>?_⟩;rw[List.getElem?_map]at sk;obtain⟨z,hz,rfl⟩:=Option.map_eq_some_iff.1 sk;exact bX z v (g4 i z v hz hv)
   |vec sz rows=>
    rw[mP]at kL;obtain⟨g1,g2,g3,g4⟩:=kL;refine⟨g1,g2,g3,fun h0=>?_⟩;obtain⟨arr,elem,f1,f2,f3,f4⟩:=g4 h0;exact⟨arr,elem,f1,f2,f3,fun i d yS=>let ⟨v,hv,hj⟩:=f4 i d yS;⟨v,hv.mono (fun _ _ _=>rfl) (Nat.le_refl _) (fun b _=>hF b),hj⟩⟩
   |vv rows y=>
    rw[mP]at kL;exact jY.mono τ kL (fun _ _ _ _ u hu=>hu.mono (fun _ _ _=>rfl) (Nat.le_refl _) (fun b _=>hF b)) (fun x _ v hx=>bX x v hx) (fun _ _=>rfl)
 ·rintro x hx x' nr Lx Lx' eo K4 ⟨b,ho,cx⟩;obtain⟨y,hy,rfl⟩:=mapM_mem.1 hx;obtain⟨y',mH,rfl⟩:=mapM_mem.1 nr;have pull:∀{z:cJ} {Lz:Loc},z∈S.mem→φ' (if z.key=e'.key then e' else ⟨z.key,z.aj,mapC τ z.cont⟩:cJ).key=some Lz→(if z.key=e'.key then e' else ⟨z.key,z.aj,mapC τ z.cont⟩:cJ).cont.cN Lz b→
   ∃z0∈S.mem,∃L0,φ z0.key=some L0∧z0.cont.cN L0 b∧(if z.key=e'.key then e' else ⟨z.key,z.aj,mapC τ z.cont⟩:cJ).key=z0.key:=by
   intro z Lz hz iI nx;by_cases hk:z.key=e'.key
   ·simp only[hk,if_true]at iI nx⊢;rw[iZ,fe]at iI;cases iI;exact⟨e,he,L,hL,fD b nx,iZ⟩
   ·simp only[hk,if_false]at iI nx⊢;rw[iZ]at hk;rw[ep _ hk]at iI;exact⟨z,hz,Lz,iI,ku.1 nx,rfl⟩
  obtain⟨z,hz,Lz,iI,nx,hkz⟩:=pull hy eo ho;obtain⟨z',qz,Lz',ahP,ahQ,ahR⟩:=pull mH K4 cx;rw[hkz,ahR];exact hm.apart z hz z' qz Lz Lz' iI ahP ⟨b,nx,ahQ⟩
 ·exact fun b hb=>hm.jZ b (Lp b hb)
 ·exact hm.bound
mutual
def trAV (k v off len:Nat):AV→AV
 | .vec k' v' o l=>if k'=k∧v'=v∧off≤o∧o+l≤off+len then .vec k (v+1) (o-off) l else .vec k' v' o l
 | .cG k' v' i j=>if k'=k∧v'=v∧off≤i then .cG k (v+1) (i-off) j else .cG k' v' i j
 | .agg cs=>.agg (trAVs k v off len cs)
 | .fn f cap=>.fn f (trAVs k v off len cap)
 | .aU vs=>.aU (trAVs k v off len vs)
 | .aW=>.aW
 | .d x=>.d x
 | .ptr a b c=>.ptr a b c
 | .dG x j=>.dG x j
 | .gM t x=>.gM t x
 | .lit v=>.lit v
 | .nn=>.nn
 | .err=>.err
def trAVs (k v off len:Nat):List AV→List AV
 |[]=>[]
 |x::r=>trAV k v off len x::trAVs k v off len r
end
theorem pW (k v off len):∀(l:List AV) (i:Nat),(trAVs k v off len l)[i]?=(l[i]?).map (trAV k v off len)
 |[],i=>by simp[trAVs]
 |x::r,i=>by cases i with|zero=>simp[trAVs]|succ i=>simp[trAVs,pW k v off len r i]
theorem lJ (k v off len):∀(l:List AV),(trAVs k v off len l).length=l.length
 |[]=>rfl
 |x::r=>by simp[trAVs,lJ k v off len r]
def St.trim (S:St) (k off len:Nat):St:=
 match Mem.get S.mem k with
 |some ⟨_,v,.vec sz rows⟩=>if off+len≤rows.length then S.mapAll (trAV k v off len) ⟨k,v+1,.vec sz ((rows.drop off).take len)⟩else S
 |_=>S
theorem Db (S:St) (k off len:Nat):dV S (S.trim k off len):=by
 unfold St.trim;split
 ·rename_i key v sz rows hg;split
  ·rename_i hle;refine⟨rfl,rfl,fun φ G a w hr=>?_⟩;obtain⟨hm,hk,L,hL,aw,b8⟩:=hr.mem.get hg;simp only at hk aw b8;subst hk;obtain⟨g1,g2,g3,g4⟩:=b8;refine Fs hr (trAV key v off len) (e:=⟨key,v,.vec sz rows⟩) (e':=⟨key,v+1,.vec sz ((rows.drop off).take len)⟩) hm hL rfl (L':=⟨v+1,L.dx,L.sz,L.cap-off,L.base+off*L.sz,[]⟩)
    (by simp only;omega) rfl (fun b ho=>⟨by have:=ho.1;simp only at this;omega,ho.2⟩) ?_ ?_
   ·intro φ' F' fe ep hF _ x u hx;induction hx with
    |aW v=>exact .aW v
    |d x v h=>exact .d x v (h.mono (fun _ _ _=>rfl) (Nat.le_refl _) (fun b _=>hF b))
    |agg cs a hl h1 _ ih=>
     refine .agg _ a (by rw[lJ];exact hl) h1 (fun i c v hc hv=>?_);rw[pW]at hc;obtain⟨y,hy,rfl⟩:=Option.map_eq_some_iff.1 hc;exact ih i y v hy hv
    |ptr k2 aj o v2 L2 dU rj h h1=>
     unfold trAV;by_cases ck:k2=key
     ·subst ck;rw[hL]at dU;cases dU;exact .ptr _ aj o v2 _ fe (by simp only;omega) (fun he=>by simp only at he;omega) h1
     ·exact .ptr k2 aj o v2 L2 (by rw[ep _ ck];exact dU) rj h h1
    |vec k2 aj o l v2 L2 dU rj h h1=>
     unfold trAV;split
     ·rename_i hc;obtain⟨rfl,rfl,ho,pQ⟩:=hc;rw[hL]at dU;cases dU;refine .vec _ _ _ l v2 _ fe (Nat.le_refl _) (fun _=>?_) h1;obtain⟨a0,cap,rfl,fX,dg⟩:=h aw.symm;refine⟨a0,cap,rfl,fX,fun gQ=>?_⟩;obtain⟨rfl,di⟩:=dg gQ;refine⟨?_,by simp only;omega⟩;congr 2;show L.base+o*L.sz=L.base+off*L.sz+(o-off)*L.sz;rw[Nat.add_assoc,←Nat.add_mul];congr 2;omega
     ·by_cases ck:k2=key
      ·subst ck;rw[hL]at dU;cases dU;exact .vec _ aj o l v2 _ fe (by simp only;omega) (fun he=>by simp only at he;omega) h1
      ·exact .vec k2 aj o l v2 L2 (by rw[ep _ ck];exact dU) rj h h1
    |cG k2 aj i j v2 L2 dU rj h h1=>
     unfold trAV;split
     ·rename_i hc;obtain⟨rfl,rfl,ho⟩:=hc;rw[hL]at dU;cases dU;refine .cG _ _ _ j v2 _ fe (Nat.le_refl _) (fun _=>?_) h1;rw[h aw.symm];congr 3;show L.base+i*L.sz+j=L.base+off*L.sz+(i-off)*L.sz+j;rw[Nat.add_assoc L.base (off*L.sz),←Nat.add_mul];congr 3;omega
     ·by_cases ck:k2=key
      ·subst ck;rw[hL]at dU;cases dU;exact .cG _ aj i j v2 _ fe (by simp only;omega) (fun he=>by simp only at he;omega) h1
      ·exact .cG k2 aj i j v2 L2 (by rw[ep _ ck];exact dU) rj h h1
    |dG x j b o x' hb mq hx hc=>exact .dG x j b o x' hb (fun h=>mq (hF b h)) (hx.mono (fun _ _ _=>rfl) (Nat.le_refl _) (fun b _=>hF b)) hc
    |fn f cap a hf hl _ ih=>
     refine .fn f _ a hf (by rw[lJ];exact hl) (fun i c v hc hv=>?_);rw[pW]at hc;obtain⟨y,hy,rfl⟩:=Option.map_eq_some_iff.1 hc;exact ih i y v hy hv
    |qu f cap a hl _ ih=>
     refine .qu f _ a (by rw[lJ];exact hl) (fun i c v hc hv=>?_);rw[pW]at hc;obtain⟨y,hy,rfl⟩:=Option.map_eq_some_iff.1 hc;exact ih i y v hy hv
    |aU vs a hl _ ih=>
     refine .aU _ a (by rw[lJ];exact hl) (fun i c v hc hv=>?_);rw[pW]at hc;obtain⟨y,hy,rfl⟩:=Option.map_eq_some_iff.1 hc;exact ih i y v hy hv
    |gM t x v h=>exact .gM t x v (h.mono (fun _ _ _=>rfl) (Nat.le_refl _) (fun b _=>hF b))
    |lit v h=>exact .lit v h
    |nn a cap=>exact .nn a cap
    |err t v=>exact .err t v
   ·intro φ' F' hF;refine⟨g1,by simp only[List.length_take,List.length_drop];omega,fun d hd=>g3 d (List.mem_of_mem_drop (List.mem_of_mem_take hd)),fun h0=>?_⟩;simp only at h0;obtain⟨arr,elem,f1,f2,f3,f4⟩:=g4 (by omega);refine⟨arr,elem,f1,?_,f3,fun i d hd=>?_⟩
    ·rw[f2];show L.base+L.cap*L.sz=L.base+off*L.sz+(L.cap-off)*L.sz;rw[Nat.add_assoc,←Nat.add_mul];congr 2;omega
    ·rw[List.getElem?_take]at hd;split at hd
     ·rw[List.getElem?_drop]at hd;obtain⟨v,hv,hj⟩:=f4 _ d hd;refine⟨v,hv.mono (fun _ _ _=>rfl) (Nat.le_refl _) (fun b _=>hF b),fun j c hjc=>?_⟩;have:=hj j c hjc;rw[Nat.add_mul]at this;rw[←Nat.add_assoc L.base]at this;exact this
     ·cases hd
  ·exact dV.refl S
 ·exact dV.refl S
mutual
def fzAV (k v:Nat) (rows:List D):AV→AV
 | .vec k' v' o l=>if k'=k∧v'=v∧o+l≤rows.length then .d (.list ((rows.drop o).take l))else .vec k' v' o l
 | .agg cs=>.agg (fzAVs k v rows cs)
 | .fn f cap=>.fn f (fzAVs k v rows cap)
 | .aU vs=>.aU (fzAVs k v rows vs)
 | .cG a b c d=>.cG a b c d
 | .aW=>.aW
 | .d x=>.d x
 | .ptr a b c=>.ptr a b c
 | .dG x j=>.dG x j
 | .gM t x=>.gM t x
 | .lit v=>.lit v
 | .nn=>.nn
 | .err=>.err
def fzAVs (k v:Nat) (rows:List D):List AV→List AV
 |[]=>[]
 |x::r=>fzAV k v rows x::fzAVs k v rows r
end
theorem pX (k v rows):∀(l:List AV) (i:Nat),(fzAVs k v rows l)[i]?=(l[i]?).map (fzAV k v rows)
 |[],i=>by simp[fzAVs]
 |x::r,i=>by cases i with|zero=>simp[fzAVs]|succ i=>simp[fzAVs,pX k v rows r i]
theorem lK (k v rows):∀(l:List AV),(fzAVs k v rows l).length=l.length
 |[]=>rfl
 |x::r=>by simp[fzAVs,lK k v rows r]
def St.freeze (S:St) (k:Nat):St:=
 match Mem.get S.mem k with
 |some ⟨_,v,.vec _ rows⟩=>S.mapAll (fzAV k v rows) ⟨k,v+1,.dead⟩
 |_=>S
theorem H6 (S:St) (k:Nat):dV S (S.freeze k):=by
 unfold St.freeze;split
 ·rename_i key v sz rows hg;refine⟨rfl,rfl,fun φ G a w hr=>?_⟩;obtain⟨hm,hk,L,hL,aw,b8⟩:=hr.mem.get hg;simp only at hk aw b8;subst hk;refine Fs hr (fzAV key v rows) (e:=⟨key,v,.vec sz rows⟩) (e':=⟨key,v+1,.dead⟩) hm hL rfl (L':={L with aj:=v+1})
   (by simp only;omega) rfl (fun _ ho=>ho.elim) ?_ (fun _ _ _=>trivial)
  intro φ' F' fe ep hF Lq x u hx;induction hx with
  |aW v=>exact .aW v
  |d x v h=>exact .d x v (h.mono (fun _ _ _=>rfl) (Nat.le_refl _) (fun b _=>hF b))
  |agg cs a hl h1 _ ih=>
   refine .agg _ a (by rw[lK];exact hl) h1 (fun i c v hc hv=>?_);rw[pX]at hc;obtain⟨y,hy,rfl⟩:=Option.map_eq_some_iff.1 hc;exact ih i y v hy hv
  |ptr k2 aj o v2 L2 dU rj h h1=>
   unfold fzAV;by_cases ck:k2=key
   ·subst ck;rw[hL]at dU;cases dU;exact .ptr _ aj o v2 _ fe (by simp only;omega) (fun he=>by simp only at he;omega) h1
   ·exact .ptr k2 aj o v2 L2 (by rw[ep _ ck];exact dU) rj h h1
  |vec k2 aj o l v2 L2 dU rj h h1=>
   unfold fzAV;split
   ·rename_i hc;obtain⟨rfl,rfl,pQ⟩:=hc;rw[hL]at dU;cases dU;exact .d _ _ (zK (.vec _ _ o l v2 L hL rj h h1) hL aw b8 pQ hF (fun ho=>Lq _ (fun hh=>hh) ⟨ho,rfl⟩))
   ·by_cases ck:k2=key
    ·subst ck;rw[hL]at dU;cases dU;exact .vec _ aj o l v2 _ fe (by simp only;omega) (fun he=>by simp only at he;omega) h1
    ·exact .vec k2 aj o l v2 L2 (by rw[ep _ ck];exact dU) rj h h1
  |cG k2 aj i j v2 L2 dU rj h h1=>
   unfold fzAV;by_cases ck:k2=key
   ·subst ck;rw[hL]at dU;cases dU;exact .cG _ aj i j v2 _ fe (by simp only;omega) (fun he=>by simp only at he;omega) h1
   ·exact .cG k2 aj i j v2 L2 (by rw[ep _ ck];exact dU) rj h h1
  |dG x j b o x' hb mq hx hc=>exact .dG x j b o x' hb (fun h=>mq (hF b h)) (hx.mono (fun _ _ _=>rfl) (Nat.le_refl _) (fun b _=>hF b)) hc
  |fn f cap a hf hl _ ih=>
   refine .fn f _ a hf (by rw[lK];exact hl) (fun i c v hc hv=>?_);rw[pX]at hc;obtain⟨y,hy,rfl⟩:=Option.map_eq_some_iff.1 hc;exact ih i y v hy hv
  |qu f cap a hl _ ih=>
   refine .qu f _ a (by rw[lK];exact hl) (fun i c v hc hv=>?_);rw[pX]at hc;obtain⟨y,hy,rfl⟩:=Option.map_eq_some_iff.1 hc;exact ih i y v hy hv
  |aU vs a hl _ ih=>
   refine .aU _ a (by rw[lK];exact hl) (fun i c v hc hv=>?_);rw[pX]at hc;obtain⟨y,hy,rfl⟩:=Option.map_eq_some_iff.1 hc;exact ih i y v hy hv
  |gM t x v h=>exact .gM t x v (h.mono (fun _ _ _=>rfl) (Nat.le_refl _) (fun b _=>hF b))
  |lit v h=>exact .lit v h
  |nn a cap=>exact .nn a cap
  |err t v=>exact .err t v
 ·exact dV.refl S
def resOne (P:Program) (S:St):ResultVar→dj
 | .tmp t=>.val (S.opd (.tmp t)).1 (S.opd (.tmp t)).2
 | .cell p t=>match loadR P S.mem t (S.opd (.tmp p)).2 with
  | .val c x=>.val ((S.opd (.tmp p)).1&&c) x
  |_=>.no
def resAll (P:Program) (S:St):List ResultVar→Option (Bool×List AV)
 |[]=>some (true,[])
 |r::rs=>match resOne P S r with
  | .val c x=>match resAll P S rs with
   |some (c',xs)=>some (c&&c',x::xs)
   |none=>none
  |_=>none
def oneOf:List AV→AV
 |[x]=>x
 |xs=>.aU xs
def wQ (tmps:Array Value):ResultVar→Sem Value
 | .tmp t=>pure (tmps.getD t undef)
 | .cell a t=>do loadVar t (←asAddr (tmps.getD a undef))
theorem Lr {P:Program} {S:St} {r:ResultVar} {c:Bool} {x:AV} (h:resOne P S r=.val c x) (hc:c=true) {φ G a w} (hr:Rel φ G S a w):
 ∃v,(wQ a.tmps r).run P w=.ok v w∧az φ w (Fo G φ S.mem) x v:=by
 unfold resOne at h;split at h
 ·rename_i t;simp only[dj.val.injEq]at h;obtain⟨rfl,rfl⟩:=h;exact⟨_,rfl,hr.opd (.tmp t) hc⟩
 ·rename_i p t;split at h
  ·rename_i c' x' hl;simp only[dj.val.injEq]at h;obtain⟨rfl,rfl⟩:=h;simp only[Bool.and_eq_true]at hc;have:=Ix P S {dst:=none,op:=.load t (.tmp p),type:=0,pos:= "",after:=#[],guard:=none} t (.tmp p) rfl hc.1;rw[hl]at this;obtain⟨v,nP,bX⟩:=this hc.2 φ G a w hr;have bS:a.eval (.tmp p)=a.tmps.getD p undef:=rfl;simp only[execOp,Instr.loadAt,bS]at nP;cases yQ:a.tmps.getD p undef with
   |pointer ad=>
    rw[yQ]at nP;cases ad with
    |none=>simp[Instr.sureAddr,stuck]at nP
    |some ad=>
     simp only[Instr.sureAddr,Sem.run_bind,Sem.run_pure,Result.andThen_ok]at nP;generalize hq:(loadVar t ad).run P w=q at nP;cases q with
     |halt _ _=>simp at nP
     |ok v2 w2=>
      simp at nP;obtain⟨rfl,rfl⟩:=nP;refine⟨v2,?_,bX⟩;simp only[wQ,yQ,asAddr,Sem.run_bind,Sem.run_pure,Result.andThen_ok,hq]
   |_=>rw[yQ]at nP;simp[Instr.sureAddr,stuck]at nP
  ·cases h
theorem uM {P:Program} {S:St} {φ G a w} (hr:Rel φ G S a w):∀(rs:List ResultVar) (c:Bool) (xs:List AV),resAll P S rs=some (c,xs)→c=true→
 ∃vs:List Value,(rs.mapM (wQ a.tmps)).run P w=.ok vs w∧xs.length=vs.length∧
  ∀(i:Nat) x v,xs[i]?=some x→vs[i]?=some v→az φ w (Fo G φ S.mem) x v
 |[],c,xs,h,_=>by
  simp only[resAll,Option.some.injEq,Prod.mk.injEq]at h;obtain⟨_,rfl⟩:=h;exact⟨[],by simp,rfl,by simp⟩
 |r::rs,c,xs,h,hc=>by
  simp only[resAll]at h;split at h
  ·rename_i c1 x hx;split at h
   ·rename_i c2 AQ mO;simp only[Option.some.injEq,Prod.mk.injEq]at h;obtain⟨rfl,rfl⟩:=h;simp only[Bool.and_eq_true]at hc;obtain⟨v,h1,h2⟩:=Lr hx hc.1 hr;obtain⟨vs,h3,h4,h5⟩:=uM (P:=P) hr rs c2 AQ mO hc.2;refine⟨v::vs,?_,by simp[h4],fun i x v h h'=>?_⟩
    ·rw[List.mapM_cons];simp only[Sem.run_bind,h1,Result.andThen_ok,h3,Sem.run_pure]
    ·cases i with
     |zero=>simp at h h';subst h;subst h';exact h2
     |succ i=>exact h5 i x v (by simpa using h) (by simpa using h')
   ·cases h
  ·cases h
mutual
def refAV (k v:Nat):AV→Option (Nat×Nat)
 | .vec k' v' o l=>if k'=k∧v'=v then some (o,l)else none
 | .agg cs=>refAVs k v cs
 | .fn _ cap=>refAVs k v cap
 | .aU vs=>refAVs k v vs
 | .cG _ _ _ _=>none
 | .aW=>none
 | .d _=>none
 | .ptr _ _ _=>none
 | .dG _ _=>none
 | .gM _ _=>none
 | .lit _=>none
 | .nn=>none
 | .err=>none
def refAVs (k v:Nat):List AV→Option (Nat×Nat)
 |[]=>none
 |x::r=>match refAV k v x with
  |some p=>some p
  |none=>refAVs k v r
end
def refMem (k v:Nat):Mem→Option (Nat×Nat)
 |[]=>none
 |⟨_,_,.box cs⟩::r=>match refAVs k v cs with
  |some p=>some p
  |none=>refMem k v r
 |_::r=>refMem k v r
def refEnv (k v:Nat):Env→Option (Nat×Nat)
 |[]=>none
 |(_,_,x)::r=>match refAV k v x with
  |some p=>some p
  |none=>refEnv k v r
def St.trim1 (S:St) (k:Nat):St:=
 match Mem.get S.mem k with
 |some ⟨_,v,.vec _ _⟩=>match refMem k v S.mem with
  |some (o,l)=>S.trim k o l
  |none=>match refEnv k v S.env with
   |some (o,l)=>S.trim k o l
   |none=>S
 |_=>S
theorem A1 (S:St) (k:Nat):dV S (S.trim1 k):=by
 unfold St.trim1;split
 ·split
  ·exact Db ..
  ·split
   ·exact Db ..
   ·exact dV.refl S
 ·exact dV.refl S
def St.trims (S:St):List Nat→St
 |[]=>S
 |k::r=>(S.trim1 k).trims r
theorem A2:∀(l:List Nat) (S:St),dV S (S.trims l)
 |[],S=>dV.refl S
 |k::r,S=>(A1 S k).trans (A2 r _)
mutual
def avKeys:AV→List Nat
 | .ptr k _ _=>[k]
 | .vec k _ _ _=>[k]
 | .cG k _ _ _=>[k]
 | .agg cs=>avsKeys cs
 | .fn _ cap=>avsKeys cap
 | .aU vs=>avsKeys vs
 | .aW=>[]
 | .d _=>[]
 | .dG _ _=>[]
 | .gM _ _=>[]
 | .lit _=>[]
 | .nn=>[]
 | .err=>[]
def avsKeys:List AV→List Nat
 |[]=>[]
 |x::r=>avKeys x++avsKeys r
end
def contKeys:Option cJ→List Nat
 |some ⟨_,_,.box cs⟩=>avsKeys cs
 |some ⟨_,_,.vv _ (some x)⟩=>avKeys x
 |_=>[]
def collect (m:Mem):Nat→List Nat→List Nat→List Nat
 |0,_,acc=>acc
 |_+1,[],acc=>acc
 |n+1,k::todo,acc=>match acc.contains k||(Mem.get m k).isNone with
  |true=>collect m n todo acc
  |false=>collect m n (todo++contKeys (Mem.get m k)) (acc++[k])
theorem nR (m:Mem):∀(n:Nat) (todo acc:List Nat),acc.Nodup→(∀k∈acc,(Mem.get m k).isSome=true)→(collect m n todo acc).Nodup∧∀k∈collect m n todo acc,(Mem.get m k).isSome=true
 |0,todo,acc,h,hs=>⟨h,hs⟩
 |n+1,[],acc,h,hs=>⟨h,hs⟩
 |n+1,k::todo,acc,h,hs=>by
  simp only[collect];split
  ·exact nR m n todo acc h hs
  ·rename_i hc;simp only[Bool.or_eq_false_iff,List.contains_eq_mem,decide_eq_false_iff_not,Option.isNone_eq_false_iff]at hc;refine nR m n _ _ ?_ ?_
   ·rw[List.nodup_append];exact⟨h,by simp,fun a ha b hb sm=>by simp at hb;subst hb;subst sm;exact hc.1 ha⟩
   ·intro x hx;rcases List.mem_append.1 hx with hx|hx
    ·exact hs x hx
    ·simp at hx;subst hx;exact hc.2
def dead (k:Nat):cJ:=⟨k,0,.dead⟩
def bI.add (φ:bI) (ks:List Nat):bI:=fun k=>if k∈ks then some ⟨0,0,0,0,0,[]⟩else φ k
theorem yf {φ:bI} {m:Mem} {ks:List Nat} (hd:∀k∈ks,k∉m.map (·.key)) (b:Nat):iy (φ.add ks) (m++ks.map dead) b↔iy φ m b:=by
 constructor
 ·rintro ⟨e,he,L,hL,ho⟩;rcases List.mem_append.1 he with he|he
  ·have:e.key∉ks:=fun h=>hd _ h (List.mem_map_of_mem he);simp only[bI.add,this,if_false]at hL;exact⟨e,he,L,hL,ho⟩
  ·simp only[List.mem_map]at he;obtain⟨k,_,rfl⟩:=he;exact ho.elim
 ·rintro ⟨e,he,L,hL,ho⟩;have:e.key∉ks:=fun h=>hd _ h (List.mem_map_of_mem he);exact⟨e,List.mem_append_left _ he,L,by simp[bI.add,this,hL],ho⟩
theorem XZ {φ:bI} {G} {m:Mem} {ks:List Nat} (hd:∀k∈ks,k∉m.map (·.key)):Fo G (φ.add ks) (m++ks.map dead)=Fo G φ m:=by
 funext b;simp only[Fo,yf hd b]
theorem Ft {φ:bI} {G m w} (h:bj φ G m w) {ks:List Nat} (hd:∀k∈ks,k∉m.map (·.key)):φ.le (φ.add ks):=by
 intro k L hL;have:k∉ks:=fun hk=>hd k hk (h.oE k L hL);exact⟨L,by simp[bI.add,this,hL],Nat.le_refl _,fun _=>rfl⟩
theorem bj.add {φ G m w} (h:bj φ G m w) {ks:List Nat} (hn:ks.Nodup) (hd:∀k∈ks,k∉m.map (·.key)):bj (φ.add ks) G (m++ks.map dead) w:=by
 have hle:=Ft h hd;have hF:=XZ (φ:=φ) (G:=G) hd;refine⟨?_,?_,?_,?_,?_,h.bound⟩
 ·rw[List.map_append,List.nodup_append];have e:(ks.map dead).map (·.key)=ks:=by simp[Function.comp_def,dead]
  rw[e];exact⟨h.nodup,hn,fun a ha b hb sm=>hd b hb (sm▸ha)⟩
 ·intro k L hL;simp only[bI.add]at hL;split at hL
  ·rename_i hk;rw[List.map_append];refine List.mem_append_right _ ?_;rw[List.map_map];exact List.mem_map.2 ⟨k,hk,rfl⟩
  ·rw[List.map_append];exact List.mem_append_left _ (h.oE k L hL)
 ·intro e he;rw[hF];rcases List.mem_append.1 he with he|he
  ·obtain⟨L,hL,hv,hc⟩:=h.eZ e he;have:e.key∉ks:=fun h=>hd _ h (List.mem_map_of_mem he);exact⟨L,by simp[bI.add,this,hL],hv,hc.mono hle (fun _ _ _=>rfl) (Nat.le_refl _) (fun _ _ h=>h) (fun _ _=>rfl)⟩
  ·simp only[List.mem_map]at he;obtain⟨k,hk,rfl⟩:=he;exact⟨⟨0,0,0,0,0,[]⟩,by simp[bI.add,dead,hk],rfl,trivial⟩
 ·rintro e he e' nQ L L' hL bM ⟨b,ho,cx⟩;rcases List.mem_append.1 he with he|he
  ·rcases List.mem_append.1 nQ with nQ|nQ
   ·have h1:e.key∉ks:=fun h=>hd _ h (List.mem_map_of_mem he);have h2:e'.key∉ks:=fun h=>hd _ h (List.mem_map_of_mem nQ);simp only[bI.add,h1,h2,if_false]at hL bM;exact h.apart e he e' nQ L L' hL bM ⟨b,ho,cx⟩
   ·simp only[List.mem_map]at nQ;obtain⟨k,_,rfl⟩:=nQ;exact cx.elim
  ·simp only[List.mem_map]at he;obtain⟨k,_,rfl⟩:=he;exact ho.elim
 ·intro b hb hG;exact h.jZ b ((yf hd b).1 hb) hG
def entryEnv:Nat→List AV→Env
 |_,[]=>[]
 |i,x::r=>(i,true,x)::entryEnv (i+1) r
theorem uN:∀(i:Nat) (xs:List AV) (t:Nat) (y:Bool×AV),Env.lk (entryEnv i xs) t=some y→∃j,t=i+j∧xs[j]?=some y.2
 |i,[],t,y,h=>by simp[entryEnv,Env.lk]at h
 |i,x::r,t,y,h=>by
  simp only[entryEnv,Env.lk]at h;by_cases ht:i=t
  ·subst ht;simp at h;subst h;exact⟨0,rfl,rfl⟩
  ·simp only[ht,if_false]at h;obtain⟨j,rfl,hj⟩:=uN (i+1) r t y h;exact⟨j+1,by omega,by simpa using hj⟩
def inM:Nat→List aD→Mem
 |_,[]=>[]
 |i,c::r=>⟨i,0,c⟩::inM (i+1) r
theorem Fu:∀(cs:List aD) (i:Nat),inM i cs=mkM i (cs.map fun c=>(0,c))
 |[],i=>rfl
 |c::r,i=>by simp[inM,mkM,Fu r]
def entry (n:Nat) (gl:List (Nat×D)) (args:List AV) (cs:List aD) (sites:List Nat):St:={n,gl,env:=entryEnv 0 args,mem:=inM 0 cs++sites.map dead}
def nvX (n0:Nat) (i v:Nat):Nat:=if i<n0 then (if v=0 then 0 else 1)else 0
structure aM where
 ahS:List Nat
 exp:Bool
 sites:List Nat
 uO:List Nat
 split:Bool
def finKeys (p:aM) (n0:Nat) (m:Mem) (xs:List AV):List Nat:=
 match p.exp with
 |true=>List.range n0++(collect m 64 (avsKeys xs++List.range n0) []).filter (fun k=>!decide (k<n0))
 |false=>List.range n0
def envVals:Env→List AV
 |[]=>[]
 |(_,_,x)::r=>x::envVals r
def nrm:Bool→AV→AV
 |true,x=>x
 |false,x=>x.norm
theorem az.nrm {b:Bool} {φ w F x v} (h:az φ w F x v):az φ w F (nrm b x) v:=by
 cases b
 ·exact h.norm
 ·exact h
def finOut (b:Bool) (K:List Nat) (n0:Nat) (S:St) (one:List AV→Out):Option (Out×List (Nat×aD)):=
 if K.all (fun k=>(Mem.get S.mem k).isSome)then some (one ((envVals S.env).map fun x=>nrm b (vw S.mem K (fun _=>true) (nvX n0) x)),selL S.mem K (fun _=>true) (nvX n0) 0 K)else none
def finTrim (p:aM) (K:List Nat) (S:St):St:=S.trims (K.filter fun k=>!p.ahS.contains k)
def finVals (p:aM) (n0:Nat) (S:St) (xs:List AV) (one:List AV→Out):Option (Out×List (Nat×aD)):=
 let K:=finKeys p n0 S.mem xs
 finOut (p.uO.contains 1000) K n0 (finTrim p K {S with n:=xs.length,env:=entryEnv 0 xs}) one
def finish (P:Program) (p:aM) (n0:Nat) (rs:List ResultVar) (S:St):Option (Out×List (Nat×aD)):=
 match resAll P S rs with
 |some (c,xs)=>if c=true then finVals p n0 S xs (fun ys=>.ret (oneOf ys))else none
 |none=>none
def finPanic (p:aM) (n0:Nat) (t:TypeId) (x:D) (S:St):Option (Out×List (Nat×aD)):=finVals p n0 S [] (fun _=>.panic t x)
def fT:Env→List (Nat×Bool)
 |[]=>[]
 |(t,g,_)::r=>(t,g)::fT r
theorem yZ (τ:AV→AV):∀env:Env,fT (mapEnv τ env)=fT env
 |[]=>rfl
 |(t,g,x)::r=>by simp[mapEnv,fT,yZ τ r]
theorem Dc (S:St) (k o l:Nat):fT (S.trim k o l).env=fT S.env:=by
 unfold St.trim;split
 ·split
  ·exact yZ _ _
  ·rfl
 ·rfl
theorem Ls (S:St) (k:Nat):fT (S.trim1 k).env=fT S.env:=by
 unfold St.trim1;split
 ·split
  ·exact Dc ..
  ·split
   ·exact Dc ..
   ·rfl
 ·rfl
theorem A3:∀(l:List Nat) (S:St),fT (S.trims l).env=fT S.env
 |[],S=>rfl
 |k::r,S=>by rw[St.trims,A3 r,Ls]
theorem A4:∀(i:Nat) (xs:List AV),fT (entryEnv i xs)=(List.range' i xs.length).map fun j=>(j,true)
 |i,[]=>rfl
 |i,x::r=>by simp[entryEnv,fT,A4 (i+1) r,List.range'_succ]
theorem IL:∀(env:Env) (i n j:Nat),fT env=(List.range' i n).map (fun j=>(j,true))→∀x,(envVals env)[j]?=some x→Env.lk env (i+j)=some (true,x)
 |[],i,n,j,_,x,hx=>by simp[envVals]at hx
 |(t,g,y)::r,i,n,j,h,x,hx=>by
  cases n with
  |zero=>simp[fT]at h
  |succ n=>
   simp only[fT,List.range'_succ,List.map_cons,List.cons.injEq,Prod.mk.injEq]at h;obtain⟨⟨rfl,rfl⟩,h⟩:=h;cases j with
   |zero=>simp[envVals]at hx;subst hx;simp[Env.lk]
   |succ j=>
    have:=IL r (t+1) n j h x (by simpa [envVals]using hx);simp only[Env.lk];rw[if_neg (by omega),show t+(j+1)=t+1+j by omega];exact this
theorem tU:∀env:Env,(envVals env).length=(fT env).length
 |[]=>rfl
 |(_,_,_)::r=>by simp[envVals,fT,tU r]
theorem Ee (p:aM) (n0:Nat) (m:Mem) (xs:List AV):(finKeys p n0 m xs).Nodup:=by
 unfold finKeys;split
 ·rw[List.nodup_append];refine⟨List.nodup_range,((nR m 64 _ [] List.nodup_nil (by simp)).1).filter _,fun a ha b hb sm=>?_⟩;simp only[List.mem_range]at ha;simp only[List.mem_filter,Bool.not_eq_true',decide_eq_false_iff_not]at hb;omega
 ·exact List.nodup_range
theorem H7 (p:aM) (n0:Nat) (m:Mem) (xs:List AV) {k:Nat} (hk:k<n0):(finKeys p n0 m xs)[k]?=some k:=by
 unfold finKeys;split
 ·rw[List.getElem?_append_left (by simpa using hk)];simp[hk]
 ·simp[hk]
theorem qM {p:aM} {n0:Nat} {S:St} {xs:List AV} {one:List AV→Out} {out:Out} {l:List (Nat×aD)} (h:finVals p n0 S xs one=some (out,l))
 {φ:bI} {G:Fr} {w:World} (hm:bj φ G S.mem w) (hg:eI w (Fo G φ S.mem) S.gl) {vs:List Value} (hl:xs.length=vs.length)
 (hx:∀(i:Nat) x v,xs[i]?=some x→vs[i]?=some v→az φ w (Fo G φ S.mem) x v) {φ0:bI} {m0:Mem} {w0:World} (hk:aQ φ0 m0 w0 φ S.mem w) (oZ:∀k L,φ0 k=some L→k<n0∧L.aj=0):
 ∃φ' ys,out=one ys∧bj φ' G (mkM 0 l) w∧aQ φ0 m0 w0 φ' (mkM 0 l) w∧ys.length=vs.length∧(∀(i:Nat) y v,ys[i]?=some y→vs[i]?=some v→az φ' w (Fo G φ' (mkM 0 l)) y v)∧
  ∀b,Fo G φ' (mkM 0 l) b→Fo G φ S.mem b:=by
 unfold finVals at h;obtain⟨K,hK⟩:∃K,K=finKeys p n0 S.mem xs:=⟨_,rfl⟩;have hKn:K.Nodup:=by rw[hK];exact Ee ..
 have hKl:∀k,k<n0→K[k]?=some k:=fun k h=>by rw[hK];exact H7 _ _ _ _ h
 simp only[←hK]at h;clear hK;have rz:Rel φ G {S with n:=xs.length,env:=entryEnv 0 xs} {tmps:=vs.toArray,defers:=G.dv} w:=by
  refine⟨by simp[hl],rfl,fun t x ht=>?_,hm,hg⟩;obtain⟨j,rfl,hj⟩:=uN 0 xs t _ ht;have im:j<vs.length:=by rw[←hl];exact (List.getElem?_eq_some_iff.1 hj).1
  have e:vs.toArray.getD (0+j) undef=vs[j]:=by simp[im]
  simp only[e];exact hx j x _ hj (by simp[im])
 obtain⟨S2,Uq⟩:∃S2,S2=finTrim p K {S with n:=xs.length,env:=entryEnv 0 xs}:=⟨_,rfl⟩;have ht:dV {S with n:=xs.length,env:=entryEnv 0 xs} S2:=by rw[Uq];exact A2 ..
 have Ur:fT S2.env=(List.range' 0 xs.length).map fun j=>(j,true):=by
  rw[Uq,finTrim,A3];exact A4 0 xs
 rw[←Uq]at h;clear Uq;obtain⟨φ2,iS,ck⟩:=ht.2.2 φ G _ w rz;unfold finOut at h;split at h
 ·rename_i cZ;simp only[Option.some.injEq,Prod.mk.injEq]at h;obtain⟨rfl,rfl⟩:=h;have jT:=iS.mem;have Us:∀k∈K,(Mem.get S2.mem k).isSome=true:=by simpa using cZ
  obtain⟨s1,s2,s3⟩:=ye (G1:=G) (ρ:=K) (bor:=fun _=>true) (nv:=nvX n0) jT hKn Us (fun b h=>.inl h) (fun b h=>jT.jZ b h.own)
   (fun k e L b hg _ _ hL ho=>jT.jZ _ ⟨e,(Mem.get_mem hg).1,L,by rw[(Mem.get_mem hg).2];exact hL,ho⟩)
  have zM:=hk.trans ck;refine⟨φ2.hP K (nvX n0),_,rfl,s1,⟨?_,zM.wa,?_,zM.size,zM.os,zM.tape,zM.output⟩,?_,?_,?_⟩
  ·intro k L hL;obtain⟨X0,aw⟩:=oZ k L hL;obtain⟨L2,h1,h2,h3⟩:=zM.le k L hL;refine⟨{L2 with aj:=nvX n0 k L2.aj},by simp[bI.hP,hKl k X0,h1],by simp[aw],fun he=>?_⟩;simp only[nvX,X0,if_true,aw]at he;split at he
   ·rename_i h0;have h4:=h3 (by rw[aw];exact h0);have g1:=congrArg Loc.aj h4;have g2:=congrArg Loc.dx h4;have g3:=congrArg Loc.sz h4;have g4:=congrArg Loc.cap h4;have g5:=congrArg Loc.base h4;simp only at g1 g2 g3 g4 g5⊢;rw[g1,g2,g3,g4,g5];simp only[nvX,X0,if_true,aw]
   ·simp at he
  ·intro b hb ho;exact zM.own b hb ((tT (φ:=φ2) (nv:=nvX n0) (bor:=fun _=>true) Us b).1 ho).own
  ·rw[List.length_map,tU,Ur];simp[hl]
  ·intro i y v hy hv;rw[List.getElem?_map]at hy;obtain⟨x,X1,rfl⟩:=Option.map_eq_some_iff.1 hy;have h5:=IL S2.env 0 xs.length i Ur x X1;rw[Nat.zero_add]at h5;have h6:=iS.env i x h5;have e:vs.toArray.getD i undef=v:=by simp[hv]
   simp only[e]at h6;exact (s2 x v h6).nrm
  ·intro b hb;have h7:=s3 b hb;rcases h7 with h7|h7
   ·exact .inl h7
   ·rcases Nat.lt_or_ge b w.heap.size with h8|h8
    ·exact .inr (ck.own b h8 h7)
    ·exact absurd (jT.AJ h7) (by omega)
 ·cases h
def keyTop:AV→List Nat
 | .ptr k _ _=>[k]
 | .vec k _ _ _=>[k]
 | .cG k _ _ _=>[k]
 |_=>[]
def keysTop (S:St):List Operand→List Nat
 |[]=>[]
 |x::r=>keyTop (S.opd x).2++keysTop S r
def topsOf (S:St):Op→List Nat
 | .move _=>[]
 | .assign _=>[]
 |op=>keysTop S op.operands.toList
def touch (S:St) (o:Oper):List Nat:=keyOf o::topsOf S o.op
theorem y9 {S:St}:∀{l:List Operand} {x:Operand},x∈l→∀k∈keyTop (S.opd x).2,k∈keysTop S l
 |[],x,h,_,_=>by simp at h
 |y::r,x,h,k,hk=>by
  simp only[keysTop,List.mem_append];rcases List.mem_cons.1 h with rfl|h
  ·exact .inl hk
  ·exact .inr (y9 h k hk)
section
variable {P:Program} {m m':Mem}
theorem Oo {t p} (h:∀k∈keyTop p,Mem.get m' k=Mem.get m k):loadR P m' t p=loadR P m t p:=by
 cases p<;>simp_all [loadR,keyTop]
theorem tg {sz x} (h:∀k∈keyTop x,Mem.get m' k=Mem.get m k):srcRows m' sz x=srcRows m sz x:=by
 cases x with
 |vec k aj off len=>simp only[srcRows,h k (by simp[keyTop])]
 |d x=>cases x<;>rfl
 |lit v=>unfold srcRows;split<;>simp_all
 |_=>rfl
theorem Lt {t p x} (h:∀k∈keyTop p,Mem.get m' k=Mem.get m k):storeR P m' t p x=storeR P m t p x:=by
 cases p<;>simp_all [storeR,keyTop]
theorem Lu {s f p} (h:∀k∈keyTop p,Mem.get m' k=Mem.get m k):fieldRm P m' s f p=fieldRm P m s f p:=by
 cases p<;>simp_all [fieldRm,keyTop]
theorem Ef {p} (h:∀k∈keyTop p,Mem.get m' k=Mem.get m k):nilCheckR m' p=nilCheckR m p:=by
 cases p<;>simp_all [nilCheckR,keyTop]
theorem Lv {t p i} (h:∀k∈keyTop p,Mem.get m' k=Mem.get m k):indexR P m' t p i=indexR P m t p i:=by
 cases p with
 |vec k aj off len=>simp only[indexR,h k (by simp[keyTop])]
 |ptr k aj off=>simp only[indexR,h k (by simp[keyTop])]
 |cG k aj i j=>simp only[indexR,h k (by simp[keyTop])]
 |d x=>cases x<;>rfl
 |_=>rfl
theorem Lw {t p lo hi} (h:∀k∈keyTop p,Mem.get m' k=Mem.get m k):sliceR P m' t p lo hi=sliceR P m t p lo hi:=by
 cases p with
 |cG k aj i j=>simp only[sliceR,h k (by simp[keyTop])]
 |vec k aj off len=>simp only[sliceR,h k (by simp[keyTop])]
 |ptr k aj off=>simp only[sliceR,h k (by simp[keyTop])]
 |d x=>cases x<;>rfl
 |_=>rfl
theorem RS {k c cs} (h:Mem.get m' k=Mem.get m k):boxR m' k c cs=boxR m k c cs:=by simp only[boxR,h]
theorem LA {k t} (h:Mem.get m' k=Mem.get m k):allocR P m' k t=allocR P m k t:=by simp only[allocR,arrR,boxR,h]
theorem Oq {k s d x} (h:Mem.get m' k=Mem.get m k) (hx:∀k∈keyTop x,Mem.get m' k=Mem.get m k):convR P m' k s d x=convR P m k s d x:=by
 have e:=tg (m:=m) (m':=m') (sz:=1) hx;cases htd:tk P d<;>cases x with
 |d x=>cases x<;>simp only[convR,htd,e,h]
 |_=>simp only[convR,htd,e]
theorem Ot {k s d x} (h:Mem.get m' k=Mem.get m k) (hx:∀k∈keyTop x,Mem.get m' k=Mem.get m k):convM P m' k s d x=convM P m k s d x:=by
 have e:=Oq (P:=P) (s:=s) (d:=d) h hx;cases x with
 |vec k1 aj off len=>simp only[convM,e,hx k1 (by simp[keyTop])]
 |_=>simp only[convM,e]
theorem Ou {k t l c} (h:Mem.get m' k=Mem.get m k):makeR P m' k t l c=makeR P m k t l c:=by simp only[makeR,h]
theorem A5 {k t n ps} (h:Mem.get m' k=Mem.get m k):buildSliceR P m' k t n ps=buildSliceR P m k t n ps:=by simp only[buildSliceR,buildSlice0,h]
theorem RU {t x} (h:∀k∈keyTop x,Mem.get m' k=Mem.get m k):lenRm P m' t x=lenRm P m t x:=by
 cases x with
 |vec k aj off len=>simp only[lenRm,h k (by simp[keyTop])]
 |d x=>cases x<;>rfl
 |lit v=>unfold lenRm;split<;>simp_all
 |_=>rfl
theorem RV {u sz il zd s x} (hs:∀k∈keyTop s,Mem.get m' k=Mem.get m k) (hx:∀k∈keyTop x,Mem.get m' k=Mem.get m k):appV P m' u sz il zd s x=appV P m u sz il zd s x:=by
 cases s with
 |vec k aj off len=>
  cases x with
  |vec kx vx ox lx=>
   match ox,lx with
   |0,1=>simp only[appV,hs k (by simp[keyTop]),hx kx (by simp[keyTop])]
   |0,0=>rfl
   |0,_+2=>rfl
   |_+1,_=>rfl
  |_=>rfl
 |_=>rfl
theorem RW {P:Program} {m:Mem} {u:TypeId} {sz il:Nat} {zd:D} {s x:AV} {c:Bool} {k v off n:Nat} {e:cJ} (h:appV P m u sz il zd s x=.cW c (.vec k v off n) e):k∈keyTop s:=by
 unfold appV at h;split at h
 ·split at h
  ·cases h;simp[keyTop]
  ·cases h
 ·cases h
theorem RX {k t u s x} (h:Mem.get m' k=Mem.get m k) (hs:∀k∈keyTop s,Mem.get m' k=Mem.get m k) (hx:∀k∈keyTop x,Mem.get m' k=Mem.get m k):appR P m' k t u s x=appR P m k t u s x:=by
 unfold appR appSrc;simp only[tg hx,h,RV hs hx];cases s with
 |vec k aj off len=>simp only[hs k (by simp[keyTop])]
 |lit v=>
  cases v with
  |slice ao n c=>cases ao<;>cases n<;>cases c<;>simp only
  |_=>rfl
 |_=>rfl
theorem RY {P:Program} {m:Mem} {k0:Nat} {t u:TypeId} {s x:AV} {c:Bool} {k v off n:Nat} {e:cJ} (h:appR P m k0 t u s x=.cW c (.vec k v off n) e):k=k0∨k∈keyTop s:=by
 unfold appR at h;split at h
 ·split at h
  ·split at h
   ·split at h
    ·split at h
     ·cases h;right;simp[keyTop]
     ·cases h
    ·split at h
     ·cases h;left;rfl
     ·cases h
    ·cases h
   ·exact .inr (RW h)
  ·cases h
 ·cases h
theorem Ov {P:Program} {m m':Mem} {k t u s x} (h:Mem.get m' k=Mem.get m k) (hs:∀k∈keyTop s,Mem.get m' k=Mem.get m k) (hx:∀k∈keyTop x,Mem.get m' k=Mem.get m k):
 fzRes m' (Mem.get m' k).isSome k (appR P m' k t u s x)=fzRes m (Mem.get m k).isSome k (appR P m k t u s x):=by
 rw[RX h hs hx,h];unfold fzRes;generalize hr:appR P m k t u s x=r;split
 ·rename_i c k1 v n k' v' sz rows;have hk:Mem.get m' k1=Mem.get m k1:=by
   rcases RY hr with rfl|hk
   ·exact h
   ·exact hs _ hk
  rw[hk]
 ·rfl
theorem Dd {k t x} (h:Mem.get m' k=Mem.get m k):moveR P m' k t x=moveR P m k t x:=by
 unfold moveR;simp only[h]
theorem RZ {neg t x v} (h:∀k∈keyTop x,Mem.get m' k=Mem.get m k):nilR P m' neg t x v=nilR P m neg t x v:=by
 cases x with
 |vec k aj off len=>unfold nilR;simp only[h k (by simp[keyTop])]
 |ptr k aj off=>unfold nilR;simp only[h k (by simp[keyTop])]
 |d x=>unfold nilR;cases x with
  |list xs=>cases xs<;>rfl
  |_=>rfl
 |lit u=>unfold nilR;cases u with
  |slice ao n c=>cases ao<;>cases n<;>cases c<;>rfl
  |pointer a=>cases a<;>rfl
  |_=>rfl
 |_=>rfl
theorem Ow {t s x} (hs:∀k∈keyTop s,Mem.get m' k=Mem.get m k) (hx:∀k∈keyTop x,Mem.get m' k=Mem.get m k):copyR P m' t s x=copyR P m t s x:=by
 unfold copyR;simp only[tg hx];cases s with
 |vec k aj off len=>simp only[hs k (by simp[keyTop])]
 |_=>rfl
end
theorem De {P:Program} {S S':St} {o:Oper} (hx:∀x∈o.op.operands.toList,S'.opd x=S.opd x) (hk:∀k∈touch S o,Mem.get S'.mem k=Mem.get S.mem k):stepv P S' o=stepv P S o:=by
 have ny:Mem.get S'.mem (keyOf o)=Mem.get S.mem (keyOf o):=hk _ (by simp[touch]);have tP:match o.op with
  | .move _=>True
  | .assign _=>True
  |op=>∀x∈op.operands.toList,∀k∈keyTop (S.opd x).2,Mem.get S'.mem k=Mem.get S.mem k:=by
  unfold touch at hk;generalize o.op=op at hk;cases op<;>first|trivial|exact fun x gr k nw=>hk k (List.mem_cons_of_mem _ (y9 gr k nw))
 have R0:∀(l:List Operand),(∀x∈l,S'.opd x=S.opd x)→l.map (fun x=>(S'.opd x).2)=l.map (fun x=>(S.opd x).2):=fun l hl=>List.map_congr_left (fun x gr=>by rw[hl x gr]);have Ut:∀(l:List (Nat×Operand)),(∀x∈l,S'.opd x.2=S.opd x.2)→l.map (fun x=>(x.1,(S'.opd x.2).2))=l.map (fun x=>(x.1,(S.opd x.2).2)):=fun l hl=>List.map_congr_left (fun x gr=>by rw[hl x gr]);unfold stepv;generalize cR:o.op=op at hx tP;cases op with
 |move x=>simp only[hx x (by simp[Op.operands]),Dd ny]
 |assign x=>simp only[hx x (by simp[Op.operands]),Dd ny]
 |pick c a b=>simp only[hx c (by simp[Op.operands]),hx a (by simp[Op.operands]),hx b (by simp[Op.operands])]
 |alloc t=>simp only[LA ny]
 |box t x=>simp only[hx x (by simp[Op.operands]),RS ny]
 |load t x=>simp only[hx x (by simp[Op.operands]),Oo (tP x (by simp[Op.operands]))]
 |store t p x=>simp only[hx x (by simp[Op.operands]),hx p (by simp[Op.operands]),Lt (tP p (by simp[Op.operands]))]
 |fieldAddr s x f=>simp only[hx x (by simp[Op.operands]),Lu (tP x (by simp[Op.operands]))]
 |nilCheck x=>simp only[hx x (by simp[Op.operands]),Ef (tP x (by simp[Op.operands]))]
 |indexAddr t x i=>simp only[hx x (by simp[Op.operands]),hx i (by simp[Op.operands]),Lv (tP x (by simp[Op.operands]))]
 |index t x i=>simp only[hx x (by simp[Op.operands]),hx i (by simp[Op.operands])]
 |slice t x lo hi mx=>
  cases mx with
  |none=>
   have dc:lo.map (fun y=>(S'.opd y).2)=lo.map (fun y=>(S.opd y).2):=by cases lo with|none=>rfl|some y=>simp[hx y (by simp[Op.operands])]
   have nt:hi.map (fun y=>(S'.opd y).2)=hi.map (fun y=>(S.opd y).2):=by cases hi with|none=>rfl|some y=>simp[hx y (by simp[Op.operands])]
   simp only[hx x (by simp[Op.operands]),dc,nt,Lw (tP x (by simp[Op.operands]))]
  |some _=>rfl
 |binOp op t x y t'=>
  have e1:=hx x (by simp[Op.operands]);have e2:=hx y (by simp[Op.operands]);have nw:=tP x (by simp[Op.operands]);simp only
  unfold binOpR;cases y with
  |const v=>simp only[e1,RZ nw];rfl
  |_=>simp only[e1,e2]
 |unOp op t x=>simp only[hx x (by simp[Op.operands])]
 |convert s d x=>simp only[hx x (by simp[Op.operands]),Ot ny (tP x (by simp[Op.operands]))]
 |makeInterface t x=>simp only[hx x (by simp[Op.operands])]
 |makeFunc f first cap=>simp only[R0 cap.toList (fun x gr=>hx x (by simp[Op.operands];right;simpa using gr)),R0 first.toList (fun x gr=>hx x (by simp[Op.operands];left;simpa using gr))]
 |makeSlice t l c=>simp only[hx l (by simp[Op.operands]),hx c (by simp[Op.operands]),Ou ny]
 |build t ps=>simp only[Ut ps.toList (fun x gr=>hx x.2 (by simp only[Op.operands,List.toList_toArray,List.mem_map];exact⟨x,gr,rfl⟩))]
 |buildSlice t n ps=>simp only[Ut ps.toList (fun x gr=>hx x.2 (by simp only[Op.operands,List.toList_toArray,List.mem_map];exact⟨x,gr,rfl⟩)),A5 ny]
 |extract x i=>simp only[hx x (by simp[Op.operands])]
 |field s x f=>simp only[hx x (by simp[Op.operands])]
 |typeAssert x xt t ok=>simp only[hx x (by simp[Op.operands])]
 |call c=>
  obtain⟨callee,args,hU⟩:=c;cases callee with
  |builtin b=>
   have ha:∀x∈args.toList,S'.opd x=S.opd x:=fun x gr=>hx x (by simp[Op.operands,Call.operands];simpa using gr);have Df:∀x∈args.toList,∀k∈keyTop (S.opd x).2,Mem.get S'.mem k=Mem.get S.mem k:=fun x gr=>tP x (by simp[Op.operands,Call.operands];simpa using gr);simp only
   unfold builtinR;have em:=R0 args.toList ha;generalize args.toList=al at ha Df em;generalize hU.toList=tl;split
   ·rename_i x t;simp only[ha x (by simp),RU (Df x (by simp))]
   ·rename_i s x t u;simp only[ha x (by simp),ha s (by simp),Ov ny (Df s (by simp)) (Df x (by simp))]
   ·rename_i s x t u;simp only[ha x (by simp),ha s (by simp),Ow (Df s (by simp)) (Df x (by simp))]
   ·simp only[em]
   ·simp only[em]
   ·rename_i x t;simp only[ha x (by simp)]
   ·rfl
  |_=>rfl
 |_=>rfl
structure aR where
 ks:List Nat
 es:List cJ
 g:Bool
 x:AV
def aR.app (p:aR) (o:Oper) (S:St):St:=({S with mem:=putAll S.mem p.es}:St).put o.dst p.g p.x
def Uu (all:List Oper) (j:Nat):List Nat:=
 match all[j]? with
 |some o=>match o.dst with|some t=>[t]|none=>[]
 |none=>[]
def looks (all:List Oper) (o:Oper):List Nat:=
 (o.op.operands.toList.filterMap fun| .tmp t=>some t|_=>none)++(match o.guard with|some (j,_)=>Uu all j|none=>[])
structure jW (all:List Oper) (o:Oper) (ks:List Nat) (S' S:St):Prop where
 n:S'.n=S.n
 gl:S'.gl=S.gl
 keys:S'.mem.map (·.key)=S.mem.map (·.key)
 env:∀t∈looks all o,Env.lk S'.env t=Env.lk S.env t
 mem:∀k∈ks,Mem.get S'.mem k=Mem.get S.mem k
def jX (P:Program) (all:List Oper) (S:St) (o:Oper) (p:aR):Prop:=
 ∀S',jW all o p.ks S' S→∀φ G a w,Rel φ G S' a w→∀(next:Act→World→Prop) (R:Exit→Act→World→Prop),
  (∀φ' a' w',Rel φ' G (p.app o S') a' w'→aQ φ S'.mem w φ' (p.app o S').mem w'→next a' w')→
  if Region.wanted o (yielded all.toArray a.tmps)then o.wp P a w next R else next (a.put o.dst undef) w
def qN (P:Program) (I:Mem→Prop) (all:List Oper) (S:St) (o:Oper) (p:aR):Prop:=
 ∀S',jW all o p.ks S' S→I S'.mem→∀φ G a w,Rel φ G S' a w→∀(next:Act→World→Prop) (R:Exit→Act→World→Prop),
  (∀φ' a' w',Rel φ' G (p.app o S') a' w'→aQ φ S'.mem w φ' (p.app o S').mem w'→next a' w')→
  if Region.wanted o (yielded all.toArray a.tmps)then o.wp P a w next R else next (a.put o.dst undef) w
theorem jX.toI {P:Program} {I:Mem→Prop} {all:List Oper} {S:St} {o:Oper} {p:aR} (h:jX P all S o p):qN P I all S o p:=fun S' ha _=>h S' ha
inductive Cert (P:Program) (I:Mem→Prop) (all:List Oper):List Oper→St→List aR→St→Prop
 |nil (S):Cert P I all [] S [] S
 |cons (o rest S p ps S1) (hk:∀e∈p.es,e.key∈p.ks) (hI:∀m,I m→I (putAll m p.es)) (h:qN P I all S o p) (hr:Cert P I all rest (p.app o S) ps S1):Cert P I all (o::rest) S (p::ps) S1
def eD (o:Oper):List Nat:=(o.after.toList.filter (Region.binds .any)).map (·.on)
def gC:List Oper→List (List Nat)→List (List Nat)
 |[],acc=>acc
 |o::r,acc=>gC r (acc++[((eD o).flatMap fun p=>p::acc.getD p []).eraseDups])
def disj (l r:List Nat):Bool:=l.all fun x=>!r.contains x
def wR (all:List Oper) (o o':Oper) (p p':aR):Bool:=
 disj o.dst.toList (looks all o')&&disj o'.dst.toList (looks all o)&&disj o.dst.toList o'.dst.toList&&disj (p.es.map (·.key)) p'.ks&&disj (p'.es.map (·.key)) p.ks
def Em (all:List Oper) (ps:List aR) (an:List (List Nat)) (j:Nat):Bool:=
 match all[j]?,ps[j]? with
 |some o,some p=>(eD o).all (fun i=>decide (i<j))&&(List.range j).all fun i=>(an.getD j []).contains i||(match all[i]?,ps[i]? with
  |some o',some p'=>wR all o' o p' p
  |_,_=>false)
 |_,_=>false
def mg (all:List Oper) (ps:List aR):Bool:=(List.range all.length).all (Em all ps (gC all []))
theorem za:∀(l:List Oper) (acc:List (List Nat)),∃r,gC l acc=acc++r∧r.length=l.length
 |[],acc=>⟨[],by simp[gC]⟩
 |o::l,acc=>by
  obtain⟨r,h1,h2⟩:=za l (acc++[((eD o).flatMap fun p=>p::acc.getD p []).eraseDups]);exact⟨((eD o).flatMap fun p=>p::acc.getD p []).eraseDups::r,by rw[gC,h1,List.append_assoc,List.singleton_append],by simp[h2]⟩
theorem mem_eraseDups {l:List Nat} {x:Nat}:x∈l.eraseDups↔x∈l:=List.mem_eraseDups
theorem Dg:∀(l:List Oper) (acc:List (List Nat)) (j:Nat) (o:Oper),l[j]?=some o→(∀p∈eD o,p<acc.length+j)→
 ∀i,i∈(gC l acc).getD (acc.length+j) []↔∃p∈eD o,i=p∨i∈(gC l acc).getD p []
 |[],acc,j,o,h,_=>by simp at h
 |x::l,acc,j,o,h,hp=>by
  simp only[gC];cases j with
  |zero=>
   simp at h;subst h;obtain⟨r,h1,_⟩:=za l (acc++[((eD x).flatMap fun p=>p::acc.getD p []).eraseDups]);rw[h1];intro i;have e1:(acc++[((eD x).flatMap fun p=>p::acc.getD p []).eraseDups]++r).getD (acc.length+0) []=((eD x).flatMap fun p=>p::acc.getD p []).eraseDups:=by
    simp[List.getD_eq_getElem?_getD,List.append_assoc]
   rw[e1,mem_eraseDups,List.mem_flatMap];constructor
   ·rintro ⟨p,rC,hi⟩;refine⟨p,rC,?_⟩;have cg:=hp p rC;rcases List.mem_cons.1 hi with rfl|hi
    ·exact .inl rfl
    ·right;rw[List.getD_eq_getElem?_getD]at hi⊢;rw[List.append_assoc,List.getElem?_append_left (by omega)];exact hi
   ·rintro ⟨p,rC,hi⟩;refine⟨p,rC,?_⟩;have cg:=hp p rC;rcases hi with rfl|hi
    ·simp
    ·rw[List.getD_eq_getElem?_getD,List.append_assoc,List.getElem?_append_left (by omega),←List.getD_eq_getElem?_getD]at hi;exact List.mem_cons_of_mem _ hi
  |succ j=>
   have:=Dg l (acc++[((eD x).flatMap fun p=>p::acc.getD p []).eraseDups]) j o (by simpa using h) (fun p rC=>by have:=hp p rC;simp;omega);simp only[List.length_append,List.length_cons,List.length_nil]at this;rw[show acc.length+(j+1)=acc.length+(0+1)+j by omega];exact this
theorem jC {all:List Oper} {L:Nat→Prop} (hp:∀j o,all[j]?=some o→∀p∈eD o,p<j) (hL:∀j o,all[j]?=some o→L j→∀p∈eD o,L p):
 ∀j,(∃o,all[j]?=some o)→∀i,i∈(gC all []).getD j []→i<j∧((∀o,all[j]?=some o→∀p∈eD o,L p)→L i):=by
 intro j;induction j using Nat.strongRecOn with
 |_ j ih=>
  rintro ⟨o,ho⟩ i hi;have hs:=(Dg all [] j o ho (fun p rC=>by simpa using hp j o ho p rC) i);simp only[List.length_nil,Nat.zero_add]at hs;obtain⟨p,rC,h⟩:=hs.1 hi;have pY:=hp j o ho p rC;rcases h with rfl|h
  ·exact⟨pY,fun hh=>hh o ho i rC⟩
  ·have im:j<all.length:=(List.getElem?_eq_some_iff.1 ho).1;obtain⟨op,cR⟩:∃op,all[p]?=some op:=⟨all[p],by simp[show p<all.length by omega]⟩;obtain⟨h1,h2⟩:=ih p pY ⟨op,cR⟩ i h;exact⟨by omega,fun hh=>h2 (fun o' cx q hq=>hL p o' cx (hh o ho p rC) q hq)⟩
def aE (all:List Oper) (ps:List aR) (S:St) (l:List Nat):St:=
 l.foldl (fun S i=>match all[i]?,ps[i]? with|some o,some p=>p.app o S|_,_=>S) S
theorem sn (p:aR) (o:Oper) (S:St):(p.app o S).n=S.n:=by simp[aR.app,lA]
theorem pZ (p:aR) (o:Oper) (S:St):(p.app o S).gl=S.gl:=by cases h:o.dst<;>simp[aR.app,h,St.put]
theorem zN (p:aR) (o:Oper) (S:St):(p.app o S).mem.map (·.key)=S.mem.map (·.key):=by simp[aR.app,ff,jO]
theorem rD (p:aR) (o:Oper) (S:St) (t:Nat):Env.lk (p.app o S).env t=if o.dst=some t then some (p.g,p.x)else Env.lk S.env t:=by
 cases hd:o.dst with
 |none=>simp[aR.app,St.put,hd]
 |some d=>
  by_cases h:d=t
  ·subst h;simp[aR.app,St.put,hd,Env.lk]
  ·simp[aR.app,St.put,hd,Env.lk,h]
theorem vS:∀(es:List cJ) (m:Mem) (k:Nat),k∉es.map (·.key)→Mem.get (putAll m es) k=Mem.get m k
 |[],m,k,_=>rfl
 |e::r,m,k,h=>by
  simp only[List.map_cons,List.mem_cons,not_or]at h;rw[putAll,vS r _ k h.2,Mem.nK (fun he=>h.1 he.symm)]
theorem mZ:∀(es:List cJ) (m m':Mem) (k:Nat),m.map (·.key)=m'.map (·.key)→(k∈es.map (·.key)∨Mem.get m k=Mem.get m' k)→Mem.get (putAll m es) k=Mem.get (putAll m' es) k
 |[],m,m',k,_,h=>by simpa [putAll]using h
 |e::r,m,m',k,hk,h=>by
  simp only[putAll];refine mZ r _ _ k (by rw[Mem.gw,Mem.gw,hk]) ?_;by_cases he:e.key=k
  ·right;subst he;by_cases de:e.key∈m.map (·.key)
   ·rw[Mem.nJ de,Mem.nJ (hk▸de)]
   ·have IM:∀(m:Mem),e.key∉m.map (·.key)→Mem.get (Mem.set m e) e.key=none:=by
     intro m hm;cases hg:Mem.get (Mem.set m e) e.key with
     |none=>rfl
     |some y=>
      obtain⟨h1,h2⟩:=Mem.get_mem hg;have:y.key∈(Mem.set m e).map (·.key):=List.mem_map_of_mem h1;rw[Mem.gw,h2]at this;exact absurd this hm
    rw[IM m de,IM m' (hk▸de)]
  ·rw[Mem.nK he,Mem.nK he];rcases h with h|h
   ·simp only[List.map_cons,List.mem_cons]at h;rcases h with h|h
    ·exact absurd h.symm he
    ·exact .inl h
   ·exact .inr h
theorem A6 (p:aR) (o:Oper) (S:St) (k:Nat) (h:k∉p.es.map (·.key)):Mem.get (p.app o S).mem k=Mem.get S.mem k:=by
 simp only[aR.app,ff];exact vS _ _ _ h
section
variable {all:List Oper} {ps:List aR} {S:St}
theorem m9 (l:List Nat):∀(S:St),(aE all ps S l).n=S.n:=by
 induction l with
 |nil=>exact fun _=>rfl
 |cons i l ih=>
  intro S;have e1:aE all ps S (i::l)=aE all ps (aE all ps S [i]) l:=by simp[aE]
  rw[e1,ih];simp only[aE,List.foldl_cons,List.foldl_nil];split
  ·exact sn ..
  ·rfl
theorem lL (l:List Nat):∀(S:St),(aE all ps S l).gl=S.gl:=by
 induction l with
 |nil=>exact fun _=>rfl
 |cons i l ih=>
  intro S;have e1:aE all ps S (i::l)=aE all ps (aE all ps S [i]) l:=by simp[aE]
  rw[e1,ih];simp only[aE,List.foldl_cons,List.foldl_nil];split
  ·exact pZ ..
  ·rfl
theorem eE (l:List Nat):∀(S:St),(aE all ps S l).mem.map (·.key)=S.mem.map (·.key):=by
 induction l with
 |nil=>exact fun _=>rfl
 |cons i l ih=>
  intro S;have e1:aE all ps S (i::l)=aE all ps (aE all ps S [i]) l:=by simp[aE]
  rw[e1,ih];simp only[aE,List.foldl_cons,List.foldl_nil];split
  ·exact zN ..
  ·rfl
theorem m4 (l l':List Nat) (S:St):aE all ps S (l++l')=aE all ps (aE all ps S l) l':=by simp[aE]
theorem so (t:Nat) (q:Nat→Bool) (l:List Nat):∀(S S':St),(∀i∈l,∀o,all[i]?=some o→o.dst=some t→q i=true)→Env.lk S.env t=Env.lk S'.env t→Env.lk (aE all ps S l).env t=Env.lk (aE all ps S' (l.filter q)).env t:=by
 induction l with
 |nil=>intro S S' _ h;exact h
 |cons i l ih=>
  intro S S' hq h;have e1:aE all ps S (i::l)=aE all ps (aE all ps S [i]) l:=by simp[aE]
  have oL:∀i'∈l,∀o,all[i']?=some o→o.dst=some t→q i'=true:=fun i' lG=>hq i' (List.mem_cons_of_mem _ lG);rw[e1];by_cases kg:q i=true
  ·rw[List.filter_cons_of_pos kg];have e2:aE all ps S' (i::l.filter q)=aE all ps (aE all ps S' [i]) (l.filter q):=by simp[aE]
   rw[e2];refine ih _ _ oL ?_;simp only[aE,List.foldl_cons,List.foldl_nil];split
   ·rw[rD,rD,h]
   ·exact h
  ·rw[List.filter_cons_of_neg kg];refine ih _ _ oL ?_;simp only[aE,List.foldl_cons,List.foldl_nil];split
   ·rename_i o p ho hp;rw[rD,if_neg (fun hd=>kg (hq i (by simp) o ho hd)),h]
   ·exact h
theorem mh (k:Nat) (q:Nat→Bool) (l:List Nat):∀(S S':St),(∀i∈l,∀p,ps[i]?=some p→k∈p.es.map (·.key)→q i=true)→S.mem.map (·.key)=S'.mem.map (·.key)→Mem.get S.mem k=Mem.get S'.mem k→Mem.get (aE all ps S l).mem k=Mem.get (aE all ps S' (l.filter q)).mem k:=by
 induction l with
 |nil=>intro S S' _ _ h;exact h
 |cons i l ih=>
  intro S S' hq hk h;have e1:aE all ps S (i::l)=aE all ps (aE all ps S [i]) l:=by simp[aE]
  have oL:∀i'∈l,∀p,ps[i']?=some p→k∈p.es.map (·.key)→q i'=true:=fun i' lG=>hq i' (List.mem_cons_of_mem _ lG);rw[e1];by_cases kg:q i=true
  ·rw[List.filter_cons_of_pos kg];have e2:aE all ps S' (i::l.filter q)=aE all ps (aE all ps S' [i]) (l.filter q):=by simp[aE]
   rw[e2];refine ih _ _ oL (by rw[eE,eE,hk]) ?_;simp only[aE,List.foldl_cons,List.foldl_nil];split
   ·simp only[aR.app,ff];exact mZ _ _ _ k hk (.inr h)
   ·exact h
  ·rw[List.filter_cons_of_neg kg];refine ih _ _ oL (by rw[eE,hk]) ?_;simp only[aE,List.foldl_cons,List.foldl_nil];split
   ·rename_i o p ho hp;rw[A6 _ _ _ _ (fun hd=>kg (hq i (by simp) p hp hd)),h]
   ·exact h
end
structure gD (S' S:St):Prop where
 n:S'.n=S.n
 gl:S'.gl=S.gl
 mem:S'.mem=S.mem
 env:∀t,Env.lk S'.env t=Env.lk S.env t
theorem Rel.eqv {φ G S S' a w} (h:Rel φ G S' a w) (he:gD S' S):Rel φ G S a w:=
 ⟨by rw[←he.n];exact h.size,h.defers,fun t x hx=>by rw[←he.mem];exact h.env t x (by rw[he.env];exact hx),by rw[←he.mem];exact h.mem,by rw[←he.gl,←he.mem];exact h.j0⟩
theorem Mem.ext {m m':Mem} (hn:(m.map (·.key)).Nodup) (hk:m.map (·.key)=m'.map (·.key)) (h:∀k,Mem.get m k=Mem.get m' k):m=m':=by
 induction m generalizing m' with
 |nil=>cases m' with|nil=>rfl|cons _ _=>simp at hk
 |cons e r ih=>
  cases m' with
  |nil=>simp at hk
  |cons e' r'=>
   simp only[List.map_cons,List.cons.injEq]at hk;simp only[List.map_cons,List.nodup_cons]at hn;have h0:=h e.key;simp only[Mem.get,if_true,hk.1]at h0;cases h0;congr 1;refine ih hn.2 hk.2 fun k=>?_;have:=h k;simp only[Mem.get]at this;by_cases he:e.key=k
   ·subst he;have nn:∀{r:Mem},e.key∉r.map (·.key)→Mem.get r e.key=none:=by
     intro r hr;cases hg:Mem.get r e.key with
     |none=>rfl
     |some y=>obtain⟨h1,h2⟩:=Mem.get_mem hg;exact absurd (h2▸List.mem_map_of_mem h1) hr
    rw[nn hn.1,nn (by rw[←hk.2];exact hn.1)]
   ·simpa [he]using this
def hY (n:Nat) (f:Nat→Bool):List Nat:=(List.range n).filter f
theorem zb {j n:Nat} (h:j<n):List.range n=List.range j++j::List.range' (j+1) (n-j-1):=by
 have h2:(j::List.range' (j+1) (n-j-1))=List.range' j (n-j):=by
  rw[show n-j=(n-j-1)+1 by omega,List.range'_succ];simp
 rw[h2,List.range_eq_range',List.range_eq_range'];rw[show List.range' 0 n=List.range' 0 (j+(n-j)) by rw[show j+(n-j)=n by omega]];rw[←List.range'_append_1];simp
theorem wS {j n:Nat} {f:Nat→Bool} (h:j<n) (hf:f j=false):hY n f=(List.range j).filter f++(List.range' (j+1) (n-j-1)).filter f:=by
 rw[hY,zb h,List.filter_append,List.filter_cons_of_neg (by simp[hf])]
theorem LB {j n:Nat} {f g:Nat→Bool} (h:j<n) (hg:g j=true) (bE:∀i,i≠j→g i=f i):hY n g=(List.range j).filter f++j::(List.range' (j+1) (n-j-1)).filter f:=by
 rw[hY,zb h,List.filter_append,List.filter_cons_of_pos hg];congr 1
 ·exact List.filter_congr fun i hi=>bE i (by have:=List.mem_range.1 hi;omega)
 ·congr 1;exact List.filter_congr fun i hi=>bE i (by have:=List.mem_range'_1.1 hi;omega)
theorem p1 {l r:List Nat} (h:disj l r=true) {x:Nat} (hl:x∈l) (hr:x∈r):False:=by
 have:=List.all_eq_true.1 h x hl;simp at this;exact this hr
structure A7 (all:List Oper) (o o':Oper) (p p':aR):Prop where
 a:∀t,o.dst=some t→t∉looks all o'
 b:∀t,o'.dst=some t→t∉looks all o
 c:∀t,o.dst=some t→o'.dst≠some t
 d:∀k∈p.es.map (·.key),k∉p'.ks
 e:∀k∈p'.es.map (·.key),k∉p.ks
theorem H8 {all o o' p p'} (h:wR all o o' p p'=true):A7 all o o' p p':=by
 simp only[wR,Bool.and_eq_true]at h;obtain⟨⟨⟨⟨h1,h2⟩,h3⟩,h4⟩,h5⟩:=h;exact⟨fun t ht hl=>p1 h1 (by simp[ht]) hl,fun t ht hl=>p1 h2 (by simp[ht]) hl,fun t ht hl=>p1 h3 (x:=t) (by simp[ht]) (by simp[hl]),fun k hk hl=>p1 h4 hk hl,fun k hk hl=>p1 h5 hk hl⟩
section
variable {all:List Oper} {ps:List aR}
theorem ek (h:mg all ps=true) {j:Nat} {o:Oper} (ho:all[j]?=some o):∃p,ps[j]?=some p∧(∀i∈eD o,i<j)∧
 ∀i,i<j→i∈(gC all []).getD j []∨∃o' p',all[i]?=some o'∧ps[i]?=some p'∧A7 all o' o p' p:=by
 have hj:j<all.length:=(List.getElem?_eq_some_iff.1 ho).1;have h1:=List.all_eq_true.1 h j (List.mem_range.2 hj);unfold Em at h1;rw[ho]at h1;cases hp:ps[j]? with
 |none=>rw[hp]at h1;simp at h1
 |some p=>
  rw[hp]at h1;simp only[Bool.and_eq_true,List.all_eq_true,decide_eq_true_eq,Bool.or_eq_true,List.mem_range]at h1;refine⟨p,rfl,h1.1,fun i hi=>?_⟩;rcases h1.2 i hi with h2|h2
  ·exact .inl (by simpa using h2)
  ·right;split at h2
   ·rename_i o' p' cx lB;exact⟨o',p',cx,lB,H8 h2⟩
   ·cases h2
theorem Cert.at {P:Program} {I:Mem→Prop} {rest:List Oper} {S0 S:St} {qs:List aR} {S1:St} (h:Cert P I all rest S qs S1):∀(pre:List Oper) (pp:List aR),pre.length=pp.length→all=pre++rest→ps=pp++qs→aE all ps S0 (List.range pre.length)=S→
 aE all ps S0 (List.range all.length)=S1∧ps.length=all.length∧∀j o p,pre.length≤j→all[j]?=some o→ps[j]?=some p→(∀e∈p.es,e.key∈p.ks)∧(∀m,I m→I (putAll m p.es))∧qN P I all (aE all ps S0 (List.range j)) o p:=by
 induction h with
 |nil S=>
  intro pre pp hl ha jS hS;simp only[List.append_nil]at ha jS;subst ha jS;refine⟨hS,hl.symm,fun j o p hj ho _=>?_⟩;rw[List.getElem?_eq_none (by omega)]at ho;cases ho
 |cons o rest S p qs S1 hk hI eB hr ih=>
  intro pre pp hl ha jS hS;have e1:all[pre.length]?=some o:=by rw[ha];simp
  have e2:ps[pre.length]?=some p:=by rw[jS,hl];simp
  obtain⟨h1,h2,h3⟩:=ih (pre++[o]) (pp++[p]) (by simp[hl]) (by rw[ha];simp) (by rw[jS];simp) (by
   rw[List.length_append,List.length_singleton,List.range_succ,m4,hS];simp[aE,e1,e2])
  refine⟨h1,h2,fun j o' p' hj cx lB=>?_⟩;rcases Nat.eq_or_lt_of_le hj with rfl|hj
  ·rw[e1]at cx;rw[e2]at lB;cases cx;cases lB;exact⟨hk,hI,by rw[hS];exact eB⟩
  ·exact h3 j o' p' (by simp;omega) cx lB
variable {S:St} {f:Nat→Bool}
def nS (all:List Oper) (f:Nat→Bool):Prop:=∀j o,all[j]?=some o→f j=true→∀p∈eD o,f p=true
theorem pD (hlen:ps.length=all.length) (cI:mg all ps=true) (aP:nS all f) {j:Nat} {o:Oper} {p:aR} (ho:all[j]?=some o) (hp:ps[j]?=some p) (hj:f j=false) (jM:∀i∈eD o,f i=true):
 jW all o p.ks (aE all ps S (hY all.length f)) (aE all ps S (List.range j)):=by
 have cg:j<all.length:=(List.getElem?_eq_some_iff.1 ho).1;have dg:∀j o,all[j]?=some o→∀p∈eD o,p<j:=fun j o ho=>(ek cI ho).choose_spec.2.1;obtain⟨p0,Fv,_,Uv⟩:=ek cI ho;rw[hp]at Fv;cases Fv
 --ahT an2 ahead of j is listed
 have Fw:∀i∈(gC all []).getD j [],i<j∧f i=true:=fun i hi=>by
  obtain⟨h1,h2⟩:=jC (L:=fun i=>f i=true) dg (fun j o ho hf=>aP j o ho hf) j ⟨o,ho⟩ i hi;exact⟨h1,h2 fun o' cx=>by rw[ho]at cx;cases cx;exact jM⟩
 let q:Nat→Bool:=fun i=>(gC all []).getD j [] |>.contains i
 have hq:∀i,q i=true↔i∈(gC all []).getD j []:=fun i=>by simp[q]
 --any other listed one,and any other ahead in vK text,is apart
 have tM:∀i,(i<j∨(j<i∧f i=true))→q i=false→∀oi pi,all[i]?=some oi→ps[i]?=some pi→A7 all oi o pi p∨A7 all o oi p pi:=by
  rintro i (hi|⟨hi,jy⟩) kg oi pi hZ jD
  ·rcases Uv i hi with h|⟨o',p',cx,lB,h⟩
   ·rw[(hq i).2 h]at kg;cases kg
   ·rw[hZ]at cx;rw[jD]at lB;cases cx;cases lB;exact .inl h
  ·obtain⟨pi',Fx,_,R3⟩:=ek cI hZ;rw[jD]at Fx;cases Fx;rcases R3 j hi with h|⟨o',p',cx,lB,h⟩
   ·have:=(jC (L:=fun i=>f i=true) dg (fun j o ho hf=>aP j o ho hf) i ⟨oi,hZ⟩ j h).2 (fun o' cx=>by rw[hZ]at cx;cases cx;exact aP i oi hZ jy);simp[hj]at this
   ·rw[ho]at cx;rw[hp]at lB;cases cx;cases lB;exact .inr h
 have yg:(hY all.length f).filter q=(List.range j).filter q:=by
  rw[wS cg hj,List.filter_append,List.filter_filter,List.filter_filter];have:(List.range' (j+1) (all.length-j-1)).filter (fun a=>q a&&f a)=[]:=by
   rw[List.filter_eq_nil_iff];intro i hi;have:=(List.mem_range'_1.1 hi).1;simp only[Bool.and_eq_true,not_and];intro kg;have:=(Fw i ((hq i).1 kg)).1;omega
  rw[this,List.append_nil];refine List.filter_congr fun i hi=>?_;cases kg:q i with
  |false=>rfl
  |true=>simp[(Fw i ((hq i).1 kg)).2]
 have hl:∀i∈hY all.length f,i<j∨(j<i∧f i=true):=fun i hi=>by
  have jy:=(List.mem_filter.1 hi).2;rcases Nat.lt_trichotomy i j with h|h|h
  ·exact .inl h
  ·subst h;simp[hj]at jy
  ·exact .inr ⟨h,jy⟩
 have hr:∀i∈List.range j,i<j∨(j<i∧f i=true):=fun i hi=>.inl (List.mem_range.1 hi);refine⟨by rw[m9,m9],by rw[lL,lL],by rw[eE,eE],fun t ht=>?_,fun k hk=>?_⟩
 ·have key:∀l:List Nat,(∀i∈l,i<j∨(j<i∧f i=true))→∀i∈l,∀oi,all[i]?=some oi→oi.dst=some t→q i=true:=by
   intro l hl i hi oi hZ hd;cases kg:q i with
   |true=>rfl
   |false=>
    obtain⟨pi,jD,_⟩:=ek cI hZ;rcases tM i (hl i hi) kg oi pi hZ jD with h|h
    ·exact absurd ht (h.a t hd)
    ·exact absurd ht (h.b t hd)
  rw[so t q _ S S (key _ hl) rfl,so t q (List.range j) S S (key _ hr) rfl,yg]
 ·have key:∀l:List Nat,(∀i∈l,i<j∨(j<i∧f i=true))→∀i∈l,∀pi,ps[i]?=some pi→k∈pi.es.map (·.key)→q i=true:=by
   intro l hl i hi pi jD hd;cases kg:q i with
   |true=>rfl
   |false=>
    have iA:i<ps.length:=(List.getElem?_eq_some_iff.1 jD).1;cases hZ:all[i]? with
    |none=>
     rw[List.getElem?_eq_none_iff]at hZ;omega
    |some oi=>
     rcases tM i (hl i hi) kg oi pi hZ jD with h|h
     ·exact absurd hk (h.d k hd)
     ·exact absurd hk (h.e k hd)
  rw[mh k q _ S S (key _ hl) rfl rfl,mh k q (List.range j) S S (key _ hr) rfl rfl,yg]
theorem uP (hlen:ps.length=all.length) (cI:mg all ps=true) (aP:nS all f) (gZ:∀(j:Nat) (p:aR),ps[j]?=some p→∀e∈p.es,e.key∈p.ks) (wT:(S.mem.map (·.key)).Nodup) {j:Nat} {o:Oper} {p:aR} (ho:all[j]?=some o) (hp:ps[j]?=some p) (hj:f j=false) {g:Nat→Bool} (hg:g j=true) (Ox:∀i,i≠j→g i=f i):
 gD (p.app o (aE all ps S (hY all.length f))) (aE all ps S (hY all.length g)):=by
 have cg:j<all.length:=(List.getElem?_eq_some_iff.1 ho).1;have dg:∀j o,all[j]?=some o→∀p∈eD o,p<j:=fun j o ho=>(ek cI ho).choose_spec.2.1;have LC:∀i∈(List.range' (j+1) (all.length-j-1)).filter f,∀oi pi,all[i]?=some oi→ps[i]?=some pi→A7 all o oi p pi:=by
  intro i hi oi pi hZ jD;obtain⟨hi,jy⟩:=List.mem_filter.1 hi;have p4:=(List.mem_range'_1.1 hi).1;obtain⟨pi',Fx,_,R3⟩:=ek cI hZ;rw[jD]at Fx;cases Fx;rcases R3 j (by omega)with h|⟨o',p',cx,lB,h⟩
  ·have:=(jC (L:=fun i=>f i=true) dg (fun j o ho hf=>aP j o ho hf) i ⟨oi,hZ⟩ j h).2 (fun o' cx=>by rw[hZ]at cx;cases cx;exact aP i oi hZ jy);simp[hj]at this
  ·rw[ho]at cx;rw[hp]at lB;cases cx;cases lB;exact h
 rw[LB cg hg Ox,wS cg hj];generalize Oy:(List.range j).filter f=L1;generalize dU:(List.range' (j+1) (all.length-j-1)).filter f=L2 at LC;have ahU:∀i∈L1++L2,i≠j:=by
  intro i hi;rw[←Oy,←dU]at hi;rcases List.mem_append.1 hi with h|h
  ·have:=List.mem_range.1 (List.mem_filter.1 h).1;omega
  ·have:=(List.mem_range'_1.1 (List.mem_filter.1 h).1).1;omega
 have X7:∀{i pi},ps[i]?=some pi→∃oi,all[i]?=some oi:=fun {i pi} h=>by
  have:=(List.getElem?_eq_some_iff.1 h).1;exact⟨all[i]'(by omega),List.getElem?_eq_getElem _⟩
 let q:Nat→Bool:=fun i=>i != j
 have hf1:(L1++j::L2).filter q=L1++L2:=by
  rw[List.filter_append,List.filter_cons_of_neg (by simp[q]),←List.filter_append,List.filter_eq_self];intro i hi;simpa [q]using ahU i hi
 have kD:∀S,aE all ps S (L1++j::L2)=aE all ps (p.app o (aE all ps S L1)) L2:=fun S=>by
  rw[m4];simp[aE,ho,hp]
 have mi:(p.app o (aE all ps S (L1++L2))).mem.map (·.key)=(aE all ps S (L1++j::L2)).mem.map (·.key):=by
  rw[zN,eE,eE]
 refine⟨by rw[sn,m9,m9],by rw[pZ,lL,lL],Mem.ext (by rw[zN,eE];exact wT) mi fun k=>?_,fun t=>?_⟩
 ·by_cases hk:k∈p.es.map (·.key)
  ·have h1:Mem.get (p.app o (aE all ps S (L1++L2))).mem k=Mem.get (p.app o (aE all ps S L1)).mem k:=by
    simp only[aR.app,ff];exact mZ _ _ _ k (by rw[eE,eE]) (.inl hk)
   rw[h1,kD];rw[mh k (fun _=>false) L2 _ (p.app o (aE all ps S L1)) ?_ rfl rfl]
   ·rw[List.filter_eq_nil_iff.2 (by simp)];rfl
   ·intro i hi pi jD kh;obtain⟨oi,hZ⟩:=X7 jD;have:=(LC i hi oi pi hZ jD).e k kh;obtain⟨e,he,rfl⟩:=List.mem_map.1 hk;exact absurd (gZ j p hp e he) this
  ·rw[A6 _ _ _ _ hk,mh k q (L1++j::L2) S S ?_ rfl rfl,hf1];intro i hi pi jD kh;by_cases ka:i=j
   ·subst ka;rw[hp]at jD;cases jD;exact absurd kh hk
   ·simpa [q]using ka
 ·rw[rD];by_cases hd:o.dst=some t
  ·rw[if_pos hd,kD];rw[so t (fun _=>false) L2 _ (p.app o (aE all ps S L1)) ?_ rfl]
   ·rw[List.filter_eq_nil_iff.2 (by simp)];simp[aE,rD,hd]
   ·intro i hi oi hZ X8;obtain⟨pi,jD,_⟩:=ek cI hZ;exact absurd X8 ((LC i hi oi pi hZ jD).c t hd)
  ·rw[if_neg hd,so t q (L1++j::L2) S S ?_ rfl,hf1];intro i hi oi hZ X8;by_cases ka:i=j
   ·subst ka;rw[ho]at hZ;cases hZ;exact absurd X8 hd
   ·simpa [q]using ka
theorem LD {P:Program} {S0 S1:St} {φ0:bI} {G:Fr} {w0:World} {Q:Exit→Act→World→Prop} {I:Mem→Prop} (Fy:I S0.mem) (hc:Cert P I all all S0 ps S1) (cI:mg all ps=true) (wT:(S0.mem.map (·.key)).Nodup)
 (hQ:∀φ' a' w',Rel φ' G S1 a' w'→aQ φ0 S0.mem w0 φ' S1.mem w'→Q .normal a' w'):
 ∀(fuel:Nat) (listed:Array Bool) φ a w,listed.size=all.length→nS all (fun i=>listed.getD i false)→Rel φ G (aE all ps S0 (hY all.length fun i=>listed.getD i false)) a w→aQ φ0 S0.mem w0 φ (aE all ps S0 (hY all.length fun i=>listed.getD i false)).mem w→
  ((List.range all.length).filter fun i=>!listed.getD i false).length≤fuel→wpAny P .any all.toArray Q fuel listed a w:=by
 obtain⟨eW,hlen,eB⟩:=Cert.at (ps:=ps) (S0:=S0) hc [] [] rfl rfl rfl rfl;have gZ:∀(j:Nat) (p:aR),ps[j]?=some p→∀e∈p.es,e.key∈p.ks:=fun j p hp=>by
  have im:j<ps.length:=(List.getElem?_eq_some_iff.1 hp).1;exact (eB j (all[j]'(by omega)) p (by simp) (by simp) hp).1
 have X9:∀l:List Nat,I (aE all ps S0 l).mem:=by
  have key:∀(l:List Nat) (S:St),I S.mem→I (aE all ps S l).mem:=by
   intro l;induction l with
   |nil=>exact fun _ h=>h
   |cons i l ih=>
    intro S h;have e1:aE all ps S (i::l)=aE all ps (aE all ps S [i]) l:=by simp[aE]
    rw[e1];refine ih _ ?_;simp only[aE,List.foldl_cons,List.foldl_nil];split
    ·rename_i o p ho hp;simp only[aR.app,ff];exact (eB i o p (by simp) ho hp).2.1 _ h
    ·exact h
  exact fun l=>key l S0 Fy
 --vK first arO aqF listed is ready
 have first:∀(f:Nat→Bool) (n:Nat),n≤all.length→(∀i,i<n→f i=true)∨∃i,i<n∧f i=false∧∀i',i'<i→f i'=true:=by
  intro f n;induction n with
  |zero=>exact fun _=>.inl (fun i hi=>by omega)
  |succ n ih=>
   intro hn;rcases ih (by omega)with h|⟨i,h1,h2,h3⟩
   ·cases hf:f n with
    |true=>
     refine .inl fun i hi=>?_;rcases Nat.lt_succ_iff_lt_or_eq.1 hi with h'|h'
     ·exact h i h'
     ·rw[h'];exact hf
    |false=>exact .inr ⟨n,by omega,hf,h⟩
   ·exact .inr ⟨i,by omega,h2,h3⟩
 have done:∀(listed:Array Bool) φ a w,listed.size=all.length→Rel φ G (aE all ps S0 (hY all.length fun i=>listed.getD i false)) a w→aQ φ0 S0.mem w0 φ (aE all ps S0 (hY all.length fun i=>listed.getD i false)).mem w→Region.ready .any all.toArray listed=[]→Q .normal a w:=by
  intro listed φ a w bN hr hk o6;have cZ:∀i,i<all.length→listed.getD i false=true:=by
   rcases first (fun i=>listed.getD i false) all.length (Nat.le_refl _)with h|⟨i,h1,h2,h3⟩
   ·exact h
   ·exfalso;have:i∈Region.ready .any all.toArray listed:=by
     rw[mem_ready];refine⟨?_,all[i],by simp[h1],fun e he hb=>?_⟩
     ·have:i<listed.size:=by omega
      simp only[Array.getD_eq_getD_getElem?,Array.getElem?_eq_getElem this,Option.getD_some]at h2⊢;exact h2
     ·obtain⟨p,_,hp,_⟩:=ek cI (show all[i]?=some all[i] by simp[h1]);exact h3 e.on (hp e.on (by
       simp only[eD,List.mem_map,List.mem_filter];exact⟨e,⟨by simpa using he,hb⟩,rfl⟩))
    rw[o6]at this;cases this
  have hl:(hY all.length fun i=>listed.getD i false)=List.range all.length:=by
   rw[hY,List.filter_eq_self];intro i hi;exact cZ i (List.mem_range.1 hi)
  rw[hl,eW]at hr hk;exact hQ φ a w hr hk
 intro fuel;induction fuel with
 |zero=>
  intro listed φ a w bN aP hr hk hf;have o6:Region.ready .any all.toArray listed=[]:=by
   cases h:Region.ready .any all.toArray listed with
   |nil=>rfl
   |cons i r=>
    exfalso;have hi:i∈Region.ready .any all.toArray listed:=by rw[h];simp
    rw[mem_ready]at hi;obtain⟨h0,o,ho,_⟩:=hi;have iA:i<all.length:=by
     have:=(Array.getElem?_eq_some_iff.1 ho).1;simpa using this
    have lM:listed.getD i false=false:=by
     have:i<listed.size:=by omega
     simp only[Array.getD_eq_getD_getElem?,Array.getElem?_eq_getElem this,Option.getD_some]at h0⊢;exact h0
    have:i∈(List.range all.length).filter fun i=>!listed.getD i false:=List.mem_filter.2 ⟨List.mem_range.2 iA,by simp[lM]⟩;have:=List.length_pos_of_mem this;omega
  exact⟨o6,done listed φ a w bN hr hk o6⟩
 |succ fuel ih=>
  intro listed φ a w bN aP hr hk hf;refine⟨done listed φ a w bN hr hk,fun i hi=>?_⟩;rw[mem_ready]at hi;obtain⟨h0,o,ho,wU⟩:=hi;have cx:all[i]?=some o:=by simpa using ho
  have iA:i<all.length:=(List.getElem?_eq_some_iff.1 cx).1;have wV:i<listed.size:=by omega
  have lM:listed.getD i false=false:=by
   simp only[Array.getD_eq_getD_getElem?,Array.getElem?_eq_getElem wV,Option.getD_some]at h0⊢;exact h0
  have jM:∀k∈eD o,listed.getD k false=true:=by
   intro k aN;simp only[eD,List.mem_map,List.mem_filter]at aN;obtain⟨e,⟨he,hb⟩,rfl⟩:=aN;exact wU e (by simpa using he) hb
  obtain⟨p,hp,_⟩:=ek cI cx;obtain⟨hke,_,A8⟩:=eB i o p (by simp) cx hp;have pS:=pD (S:=S0) hlen cI aP cx hp lM jM;have jd:(listed.setIfInBounds i true).getD i false=true:=by simp[wV]
  have lN:∀k,k≠i→(listed.setIfInBounds i true).getD k false=listed.getD k false:=fun k aN=>getD_set_ne false (Ne.symm aN);have heq:=uP (S:=S0) (f:=fun i=>listed.getD i false) (g:=fun k=>(listed.setIfInBounds i true).getD k false) hlen cI aP gZ wT cx hp lM jd lN;have Fz:nS all (fun k=>(listed.setIfInBounds i true).getD k false):=by
   intro k ok dt Oz x hx;by_cases Dh:x=i
   ·subst Dh;exact jd
   ·show (listed.setIfInBounds i true).getD x false=true;rw[lN x Dh];by_cases kh:k=i
    ·subst kh;rw[cx]at dt;cases dt;exact jM x hx
    ·exact aP k ok dt ((lN k kh).symm.trans Oz) x hx
  have wW:((List.range all.length).filter fun k=>!(listed.setIfInBounds i true).getD k false).length≤fuel:=by
   have h1:(List.range all.length).filter (fun k=>!(listed.setIfInBounds i true).getD k false)=((List.range all.length).filter fun k=>!listed.getD k false).filter (fun k=>k != i):=by
    rw[List.filter_filter];refine List.filter_congr fun k _=>?_;by_cases kh:k=i
    ·subst kh;rw[jd];simp
    ·rw[lN k kh];simp[kh]
   have fa:i∈(List.range all.length).filter fun k=>!listed.getD k false:=List.mem_filter.2 ⟨List.mem_range.2 iA,by simp[lM]⟩;rw[h1];have:(((List.range all.length).filter fun k=>!listed.getD k false).filter (fun k=>k != i)).length<((List.range all.length).filter fun k=>!listed.getD k false).length:=by
    rw[List.length_filter_lt_length_iff_exists];exact⟨i,fa,by simp⟩
   omega
  have hs:=A8 _ pS (X9 _) φ G a w hr (wpAny P .any all.toArray Q fuel (listed.setIfInBounds i true)) Q (fun φ' a' w' b7 aN=>
   ih _ φ' a' w' (by simpa using bN) Fz (b7.eqv heq) (by rw[←heq.mem];exact hk.trans aN) wW)
  unfold wpOp;rw[ho];simp only
  split at hs
  ·rename_i hw;rw[if_pos hw];exact .inl hs
  ·rename_i hw;rw[if_neg hw];exact hs
end
theorem H9 {P:Program} {S S1:St} {id:Nat} {ops:List Oper} {ps:List aR} {I:Mem→Prop} (Fy:I S.mem) (hm:P.follows .mixedOrders=true) (hc:Cert P I ops ops S ps S1) (cI:mg ops ps=true) {φ G a w} (hr:Rel φ G S a w) {Q:Exit→Act→World→Prop}
 (hQ:∀φ' a' w',Rel φ' G S1 a' w'→aQ φ S.mem w φ' S1.mem w'→Q .normal a' w'):(Code.region id ops.toArray true).wp P Q a w:=by
 refine wp_region_any hm ?_;have jb:Rel φ G S a {w with drawn:=w.drawn+1}:=hr.grow (fun _ _=>rfl) (Nat.le_refl _);have cw:(hY ops.length fun i=>(Array.replicate ops.length false).getD i false)=[]:=by
  rw[hY,List.filter_eq_nil_iff];intro i hi;simp[Array.getD_eq_getD_getElem?,List.mem_range.1 hi]
 refine LD (S0:=S) (φ0:=φ) (w0:=w) (G:=G) Fy hc cI hr.mem.nodup (fun φ' a' w' b7 aN=>hQ φ' a' w' b7 aN) _ _ φ a _ (by simp) ?_ ?_ ?_ ?_
 ·intro j o _ hj;exfalso;simp only[Array.getD_eq_getD_getElem?]at hj;by_cases h:j<ops.length
  ·simp[h]at hj
  ·simp[h]at hj
 ·simp only[List.size_toArray];rw[cw];exact jb
 ·simp only[List.size_toArray];rw[cw];exact aQ.grow (fun _ _=>rfl) (Nat.le_refl _) rfl rfl rfl
 ·simp only[List.size_toArray];exact Nat.le_trans (List.length_filter_le _ _) (by simp)
theorem Ya {P:Program} {I:Mem→Prop} {ops:List Oper} {S S1:St} {ps:List aR} (hc:Cert P I ops ops S ps S1):S1.n=S.n∧S1.gl=S.gl:=by
 obtain⟨eW,_,_⟩:=Cert.at (ps:=ps) (S0:=S) hc [] [] rfl rfl rfl rfl;rw[←eW];exact⟨m9 ..,lL ..⟩
def zO (all:List Oper) (o o':Oper):Bool:=disj o.dst.toList (looks all o')&&disj o'.dst.toList (looks all o)&&disj o.dst.toList o'.dst.toList
def wX (all:List Oper) (nd:List (List Nat)) (an:List (List Nat)) (j:Nat):Bool:=
 match all[j]? with
 |some o=>(eD o).all (fun i=>decide (i<j))&&(List.range j).all fun i=>(an.getD j []).contains i||(match all[i]? with
  |some o'=>zO all o' o&&((nd.getD i []).contains j&&(nd.getD j []).contains i)
  |none=>false)
 |none=>false
def zP (all:List Oper) (nd:List (List Nat)):Bool:=(List.range all.length).all (wX all nd (gC all []))
def ordK (ps:List aR) (es:List cJ):List Nat→Bool
 |[]=>true
 |j::r=>(match ps[j]? with|some q=>disj (es.map (·.key)) q.ks|none=>false)&&ordK ps es r
def ordE (ps:List aR) (js:List Nat):List cJ→Bool
 |[]=>true
 |e::es=>ordK ps (e::es) js
def ordL (ps:List aR):List (List Nat)→List aR→Bool
 |_,[]=>true
 |[],p::r=>ordE ps [] p.es&&ordL ps [] r
 |js::nd,p::r=>ordE ps js p.es&&ordL ps nd r
def ordD (nd:List (List Nat)) (ps:List aR):Bool:=ordL ps nd ps
theorem o7 {ps:List aR}:∀{nd:List (List Nat)} {l:List aR},ordL ps nd l=true→∀i p,l[i]?=some p→ordE ps (nd.getD i []) p.es=true
 |_,[],_,i,p,hp=>by simp at hp
 |[],q::r,h,i,p,hp=>by
  simp only[ordL,Bool.and_eq_true]at h;cases i with
  |zero=>simp at hp;subst hp;simpa using h.1
  |succ i=>have:=o7 h.2 i p (by simpa using hp);simpa using this
 |js::nd,q::r,h,i,p,hp=>by
  simp only[ordL,Bool.and_eq_true]at h;cases i with
  |zero=>simp at hp;subst hp;simpa using h.1
  |succ i=>have:=o7 h.2 i p (by simpa using hp);simpa using this
theorem FA {ps:List aR} {es:List cJ}:∀{js:List Nat},ordK ps es js=true→∀j∈js,∀q,ps[j]?=some q→disj (es.map (·.key)) q.ks=true
 |[],_,j,hj,_,_=>by simp at hj
 |k::r,h,j,hj,q,hq=>by
  simp only[ordK,Bool.and_eq_true]at h;rcases List.mem_cons.1 hj with rfl|hj
  ·have:=h.1;rw[hq]at this;exact this
  ·exact FA h.2 j hj q hq
theorem uQ {ps:List aR} {js:List Nat}:∀{es:List cJ},ordE ps js es=true→∀j∈js,∀q,ps[j]?=some q→disj (es.map (·.key)) q.ks=true
 |[],_,_,_,_,_=>rfl
 |_::_,h,j,hj,q,hq=>FA h j hj q hq
theorem OA {all:List Oper} {nd:List (List Nat)} {ps:List aR} (hs:zP all nd=true) (hd:ordD nd ps=true) (hl:ps.length=all.length):mg all ps=true:=by
 unfold mg;refine List.all_eq_true.2 fun j hj=>?_;have h1:=List.all_eq_true.1 hs j hj;have oG:j<all.length:=List.mem_range.1 hj;unfold wX at h1;unfold Em;have pY:ps[j]?=some (ps[j]'(by omega)):=by simp[hl,oG]
 rw[pY];cases ho:all[j]? with
 |none=>rw[ho]at h1;cases h1
 |some o=>
  rw[ho]at h1;simp only[Bool.and_eq_true,List.all_eq_true,decide_eq_true_eq,Bool.or_eq_true,List.mem_range]at h1⊢;refine⟨h1.1,fun i hi=>?_⟩;rcases h1.2 i hi with h2|h2
  ·exact .inl h2
  ·right;have jD:ps[i]?=some (ps[i]'(by omega)):=by simp[show i<ps.length by omega]
   cases hZ:all[i]? with
   |none=>rw[hZ]at h2;cases h2
   |some o'=>
    rw[hZ]at h2;rw[jD];simp only[Bool.and_eq_true]at h2;simp only[wR];have e1:=uQ (o7 hd i _ jD) j (by simpa using h2.2.1) _ pY;have e2:=uQ (o7 hd j _ pY) i (by simpa using h2.2.2) _ jD;have e3:=h2.1;simp only[zO,Bool.and_eq_true]at e3;simp only[Bool.and_eq_true];exact⟨⟨e3,e1⟩,e2⟩
def zQ (all:List Oper):Prop:=∀i,i+1<all.length→i∈(gC all []).getD (all.length-1) []
theorem zc {all:List Oper} {nd:List (List Nat)} (hs:zP all nd=true) (hn:nd.getD (all.length-1) []=[]):zQ all:=by
 intro i hi;have h1:=List.all_eq_true.1 hs (all.length-1) (List.mem_range.2 (by omega));unfold wX at h1;rw[List.getElem?_eq_getElem (by omega)]at h1;simp only[Bool.and_eq_true,List.all_eq_true,Bool.or_eq_true,List.mem_range]at h1;rcases h1.2 i (by omega)with h2|h2
 ·simpa using h2
 ·rw[List.getElem?_eq_getElem (by omega)]at h2;simp only[Bool.and_eq_true]at h2;have:=h2.2.2;rw[hn]at this;cases this
def ze:aR:=⟨[],[],false,.aW⟩
section
variable {all:List Oper} {ps:List aR}
theorem Cert.at2 {P:Program} {I:Mem→Prop} {rest:List Oper} {S0 S:St} {qs:List aR} {S1:St} (h:Cert P I all rest S qs S1):∀(pre:List Oper) (pp:List aR) (tl:List Oper) (tq:List aR),pre.length=pp.length→all=pre++rest++tl→ps=pp++qs++tq→aE all ps S0 (List.range pre.length)=S→
 aE all ps S0 (List.range (pre.length+rest.length))=S1∧qs.length=rest.length∧∀j o p,pre.length≤j→j<pre.length+rest.length→all[j]?=some o→ps[j]?=some p→(∀e∈p.es,e.key∈p.ks)∧(∀m,I m→I (putAll m p.es))∧qN P I all (aE all ps S0 (List.range j)) o p:=by
 induction h with
 |nil S=>
  intro pre pp tl tq hl ha jS hS;exact⟨by simpa using hS,rfl,fun j o p hj zh _=>by simp at zh;omega⟩
 |cons o rest S p qs S1 hk hI eB hr ih=>
  intro pre pp tl tq hl ha jS hS;have e1:all[pre.length]?=some o:=by rw[ha];simp
  have e2:ps[pre.length]?=some p:=by rw[jS,hl];simp
  obtain⟨h1,h2,h3⟩:=ih (pre++[o]) (pp++[p]) tl tq (by simp[hl]) (by rw[ha];simp) (by rw[jS];simp) (by
   rw[List.length_append,List.length_singleton,List.range_succ,m4,hS];simp[aE,e1,e2])
  refine⟨by rw[←h1];simp;congr 2;omega,by simp[h2],fun j o' p' hj zh cx lB=>?_⟩;rcases Nat.eq_or_lt_of_le hj with rfl|hj
  ·rw[e1]at cx;rw[e2]at lB;cases cx;cases lB;exact⟨hk,hI,by rw[hS];exact eB⟩
  ·exact h3 j o' p' (by simp;omega) (by simp at zh⊢;omega) cx lB
theorem LF {P:Program} {S0 S1:St} {φ0:bI} {G:Fr} {w0:World} {Q:Exit→Act→World→Prop} {I:Mem→Prop} {init:List Oper} {ol:Oper} (cZ:all=init++[ol]) (wY:zQ all) (Fy:I S0.mem) {qs:List aR} (hc:Cert P I all init S0 qs S1) (jS:ps=qs++[ze]) (cI:mg all ps=true) (wT:(S0.mem.map (·.key)).Nodup)
 (gn:∀φ a w,Rel φ G S1 a w→aQ φ0 S0.mem w0 φ S1.mem w→∀next:Act→World→Prop,(∀a' w',Q .normal a' w'→next a' w')→if Region.wanted ol (yielded all.toArray a.tmps)then ol.wp P a w next Q else next (a.put ol.dst undef) w):
 ∀(fuel:Nat) (listed:Array Bool) φ a w,listed.size=all.length→listed.getD init.length false=false→nS all (fun i=>listed.getD i false)→Rel φ G (aE all ps S0 (hY all.length fun i=>listed.getD i false)) a w→aQ φ0 S0.mem w0 φ (aE all ps S0 (hY all.length fun i=>listed.getD i false)).mem w→
  ((List.range all.length).filter fun i=>!listed.getD i false).length≤fuel→wpAny P .any all.toArray Q fuel listed a w:=by
 obtain⟨eW,hlq,eB⟩:=Cert.at2 (ps:=ps) (S0:=S0) hc [] [] [ol] [ze] rfl (by simp[cZ]) (by simp[jS]) rfl;have bm:all.length=init.length+1:=by rw[cZ];simp
 have oN:ps.length=all.length:=by rw[jS,bm];simp[hlq]
 have Yb:all[init.length]?=some ol:=by rw[cZ];simp
 have hpL:ps[init.length]?=some ze:=by rw[jS,←hlq];simp
 have gZ:∀(j:Nat) (p:aR),ps[j]?=some p→∀e∈p.es,e.key∈p.ks:=fun j p hp=>by
  have im:j<ps.length:=(List.getElem?_eq_some_iff.1 hp).1;by_cases hj:j<init.length
  ·exact (eB j (all[j]'(by omega)) p (by simp) (by simpa using hj) (by simp) hp).1
  ·have:j=init.length:=by omega
   subst this;rw[hpL]at hp;cases hp;simp[ze]
 have dg:∀j o,all[j]?=some o→∀p∈eD o,p<j:=fun j o ho=>(ek cI ho).choose_spec.2.1;have X9:∀l:List Nat,I (aE all ps S0 l).mem:=by
  have key:∀(l:List Nat) (S:St),I S.mem→I (aE all ps S l).mem:=by
   intro l;induction l with
   |nil=>exact fun _ h=>h
   |cons i l ih=>
    intro S h;have e1:aE all ps S (i::l)=aE all ps (aE all ps S [i]) l:=by simp[aE]
    rw[e1];refine ih _ ?_;simp only[aE,List.foldl_cons,List.foldl_nil];split
    ·rename_i o p ho hp;simp only[aR.app,ff];have iA:i<all.length:=(List.getElem?_eq_some_iff.1 ho).1;by_cases hi:i<init.length
     ·exact (eB i o p (by simp) (by simpa using hi) ho hp).2.1 _ h
     ·have:i=init.length:=by omega
      subst this;rw[hpL]at hp;cases hp;exact h
    ·exact h
  exact fun l=>key l S0 Fy
 have first:∀(f:Nat→Bool) (n:Nat),n≤all.length→(∀i,i<n→f i=true)∨∃i,i<n∧f i=false∧∀i',i'<i→f i'=true:=by
  intro f n;induction n with
  |zero=>exact fun _=>.inl (fun i hi=>by omega)
  |succ n ih=>
   intro hn;rcases ih (by omega)with h|⟨i,h1,h2,h3⟩
   ·cases hf:f n with
    |true=>
     refine .inl fun i hi=>?_;rcases Nat.lt_succ_iff_lt_or_eq.1 hi with h'|h'
     ·exact h i h'
     ·rw[h'];exact hf
    |false=>exact .inr ⟨n,by omega,hf,h⟩
   ·exact .inr ⟨i,by omega,h2,h3⟩
 have rdy:∀(listed:Array Bool),listed.size=all.length→Region.ready .any all.toArray listed=[]→∀i,i<all.length→listed.getD i false=true:=by
  intro listed bN o6;rcases first (fun i=>listed.getD i false) all.length (Nat.le_refl _)with h|⟨i,h1,h2,h3⟩
  ·exact h
  ·exfalso;have:i∈Region.ready .any all.toArray listed:=by
    rw[mem_ready];refine⟨?_,all[i],by simp[h1],fun e he hb=>?_⟩
    ·have:i<listed.size:=by omega
     simp only[Array.getD_eq_getD_getElem?,Array.getElem?_eq_getElem this,Option.getD_some]at h2⊢;exact h2
    ·obtain⟨p,_,hp,_⟩:=ek cI (show all[i]?=some all[i] by simp[h1]);exact h3 e.on (hp e.on (by
      simp only[eD,List.mem_map,List.mem_filter];exact⟨e,⟨by simpa using he,hb⟩,rfl⟩))
   rw[o6]at this;cases this
 have ahV:∀(listed:Array Bool),listed.size=all.length→(∀i,i<all.length→listed.getD i false=true)→Region.ready .any all.toArray listed=[]:=by
  intro listed bN acL;cases h:Region.ready .any all.toArray listed with
  |nil=>rfl
  |cons i r=>
   exfalso;have hi:i∈Region.ready .any all.toArray listed:=by rw[h];simp
   rw[mem_ready]at hi;obtain⟨h0,o,ho,_⟩:=hi;have iA:i<all.length:=by
    have:=(Array.getElem?_eq_some_iff.1 ho).1;simpa using this
   have:=acL i iA;have h2:i<listed.size:=by omega
   simp only[Array.getD_eq_getD_getElem?,Array.getElem?_eq_getElem h2,Option.getD_some]at h0 this;rw[h0]at this;cases this
 intro fuel;induction fuel with
 |zero=>
  intro listed φ a w bN vT aP hr hk hf;exfalso;have:init.length∈(List.range all.length).filter fun i=>!listed.getD i false:=List.mem_filter.2 ⟨List.mem_range.2 (by omega),by simp only[vT];rfl⟩;have:=List.length_pos_of_mem this;omega
 |succ fuel ih=>
  intro listed φ a w bN vT aP hr hk hf;refine⟨fun o6=>?_,fun i hi=>?_⟩
  ·have:=rdy listed bN o6 init.length (by omega);rw[vT]at this;cases this
  rw[mem_ready]at hi;obtain⟨h0,o,ho,wU⟩:=hi;have cx:all[i]?=some o:=by simpa using ho
  have iA:i<all.length:=(List.getElem?_eq_some_iff.1 cx).1;have wV:i<listed.size:=by omega
  have lM:listed.getD i false=false:=by
   simp only[Array.getD_eq_getD_getElem?,Array.getElem?_eq_getElem wV,Option.getD_some]at h0⊢;exact h0
  have jM:∀k∈eD o,listed.getD k false=true:=by
   intro k aN;simp only[eD,List.mem_map,List.mem_filter]at aN;obtain⟨e,⟨he,hb⟩,rfl⟩:=aN;exact wU e (by simpa using he) hb
  have jd:(listed.setIfInBounds i true).getD i false=true:=by simp[wV]
  have lN:∀k,k≠i→(listed.setIfInBounds i true).getD k false=listed.getD k false:=fun k aN=>getD_set_ne false (Ne.symm aN);by_cases OB:i=init.length
  ·subst OB;rw[Yb]at cx;cases cx;have o8:∀k,k<init.length→listed.getD k false=true:=by
    intro k gu;have Df:k∈(gC all []).getD init.length []:=by
     have:=wY k (by omega);rw[bm]at this;simpa using this
    exact (jC (L:=fun i=>listed.getD i false=true) dg (fun j o ho hf=>aP j o ho hf) init.length ⟨ol,Yb⟩ k Df).2 (fun o' A9=>by rw[Yb]at A9;cases A9;exact jM)
   have hl:(hY all.length fun i=>listed.getD i false)=List.range init.length:=by
    rw[hY,bm,List.range_succ,List.filter_append];have e1:(List.range init.length).filter (fun i=>listed.getD i false)=List.range init.length:=by
     rw[List.filter_eq_self];intro k gu;exact o8 k (List.mem_range.1 gu)
    rw[e1];simp only[List.filter_cons,List.filter_nil];rw[lM];simp
   have acM:aE all ps S0 (List.range init.length)=S1:=by simpa using eW
   rw[hl,acM]at hr hk;have hs:=gn φ a w hr hk (wpAny P .any all.toArray Q fuel (listed.setIfInBounds init.length true)) (fun a' w' hq=>by
    have o6:=ahV (listed.setIfInBounds init.length true) (by simpa using bN) (fun k gu=>by
     by_cases kh:k=init.length
     ·subst kh;exact jd
     ·rw[lN k kh];exact o8 k (by omega))
    cases fuel with
    |zero=>exact⟨o6,hq⟩
    |succ fuel=>exact⟨fun _=>hq,fun i hi=>by rw[o6]at hi;cases hi⟩)
   unfold wpOp;rw[ho];simp only
   split at hs
   ·rename_i hw;rw[if_pos hw];exact .inl hs
   ·rename_i hw;rw[if_neg hw];exact hs
  ·have Ue:i<init.length:=by omega
   obtain⟨p,hp,_⟩:=ek cI cx;obtain⟨hke,_,A8⟩:=eB i o p (by simp) (by simpa using Ue) cx hp;have pS:=pD (S:=S0) oN cI aP cx hp lM jM;have heq:=uP (S:=S0) (f:=fun i=>listed.getD i false) (g:=fun k=>(listed.setIfInBounds i true).getD k false) oN cI aP gZ wT cx hp lM jd lN;have Fz:nS all (fun k=>(listed.setIfInBounds i true).getD k false):=by
    intro k ok dt Oz x hx;by_cases Dh:x=i
    ·subst Dh;exact jd
    ·show (listed.setIfInBounds i true).getD x false=true;rw[lN x Dh];by_cases kh:k=i
     ·subst kh;rw[cx]at dt;cases dt;exact jM x hx
     ·exact aP k ok dt ((lN k kh).symm.trans Oz) x hx
   have wW:((List.range all.length).filter fun k=>!(listed.setIfInBounds i true).getD k false).length≤fuel:=by
    have h1:(List.range all.length).filter (fun k=>!(listed.setIfInBounds i true).getD k false)=((List.range all.length).filter fun k=>!listed.getD k false).filter (fun k=>k != i):=by
     rw[List.filter_filter];refine List.filter_congr fun k _=>?_;by_cases kh:k=i
     ·subst kh;rw[jd];simp
     ·rw[lN k kh];simp[kh]
    have fa:i∈(List.range all.length).filter fun k=>!listed.getD k false:=List.mem_filter.2 ⟨List.mem_range.2 iA,by simp[lM]⟩;rw[h1];have:(((List.range all.length).filter fun k=>!listed.getD k false).filter (fun k=>k != i)).length<((List.range all.length).filter fun k=>!listed.getD k false).length:=by
     rw[List.length_filter_lt_length_iff_exists];exact⟨i,fa,by simp⟩
    omega
   have hs:=A8 _ pS (X9 _) φ G a w hr (wpAny P .any all.toArray Q fuel (listed.setIfInBounds i true)) Q (fun φ' a' w' b7 aN=>
    ih _ φ' a' w' (by simpa using bN) (by rw[lN _ (Ne.symm OB)];exact vT) Fz (b7.eqv heq) (by rw[←heq.mem];exact hk.trans aN) wW)
   unfold wpOp;rw[ho];simp only
   split at hs
   ·rename_i hw;rw[if_pos hw];exact .inl hs
   ·rename_i hw;rw[if_neg hw];exact hs
end
theorem Ia {P:Program} {S S1:St} {id:Nat} {ops init:List Oper} {ol:Oper} {qs:List aR} {I:Mem→Prop} (cZ:ops=init++[ol]) (wY:zQ ops) (Fy:I S.mem) (hm:P.follows .mixedOrders=true) (hc:Cert P I ops init S qs S1) (cI:mg ops (qs++[ze])=true) {φ G a w} (hr:Rel φ G S a w) {Q:Exit→Act→World→Prop}
 (gn:∀φ' a' w',Rel φ' G S1 a' w'→aQ φ S.mem w φ' S1.mem w'→∀next:Act→World→Prop,(∀a' w',Q .normal a' w'→next a' w')→if Region.wanted ol (yielded ops.toArray a'.tmps)then ol.wp P a' w' next Q else next (a'.put ol.dst undef) w'):(Code.region id ops.toArray true).wp P Q a w:=by
 refine wp_region_any hm ?_;have jb:Rel φ G S a {w with drawn:=w.drawn+1}:=hr.grow (fun _ _=>rfl) (Nat.le_refl _);have cw:(hY ops.length fun i=>(Array.replicate ops.length false).getD i false)=[]:=by
  rw[hY,List.filter_eq_nil_iff];intro i hi;simp[Array.getD_eq_getD_getElem?,List.mem_range.1 hi]
 refine LF (S0:=S) (φ0:=φ) (w0:=w) (G:=G) cZ wY Fy hc rfl cI hr.mem.nodup gn _ _ φ a _ (by simp) ?_ ?_ ?_ ?_ ?_
 ·simp only[Array.getD_eq_getD_getElem?];rw[cZ];simp
 ·intro j o _ hj;exfalso;simp only[Array.getD_eq_getD_getElem?]at hj;by_cases h:j<ops.length
  ·simp[h]at hj
  ·simp[h]at hj
 ·simp only[List.size_toArray];rw[cw];exact jb
 ·simp only[List.size_toArray];rw[cw];exact aQ.grow (fun _ _=>rfl) (Nat.le_refl _) rfl rfl rfl
 ·simp only[List.size_toArray];exact Nat.le_trans (List.length_filter_le _ _) (by simp)
def verSum:Mem→Nat
 |[]=>0
 |e::r=>e.aj+verSum r
def verSums:List aR→Nat
 |[]=>0
 |p::r=>verSum p.es+verSums r
def killM (N:Nat):Mem→Mem
 |[]=>[]
 |e::r=>(match decide (100≤e.key)with|true=>⟨e.key,N,.dead⟩|false=>e)::killM N r
def St.kill (S:St) (N:Nat):St:={S with env:=[],mem:=killM N S.mem}
def farE:List cJ→Bool
 |[]=>true
 |e::r=>decide (100≤e.key)&&farE r
def farJ (ps:List aR):List Nat→Bool
 |[]=>true
 |i::r=>(match ps[i]? with|some p=>farE p.es|none=>false)&&farJ ps r
theorem wZ:∀{m:Mem} {e:cJ},e∈m→e.aj≤verSum m
 |_::r,e,h=>by
  rcases List.mem_cons.1 h with rfl|h
  ·simp only[verSum];omega
  ·have:=wZ (m:=r) h;simp only[verSum];omega
theorem Ba:∀{ps:List aR} {p:aR},p∈ps→verSum p.es≤verSums ps
 |_::r,p,h=>by
  rcases List.mem_cons.1 h with rfl|h
  ·simp only[verSums];omega
  ·have:=Ba (ps:=r) h;simp only[verSums];omega
theorem nU (N:Nat):∀m:Mem,(killM N m).map (·.key)=m.map (·.key)
 |[]=>rfl
 |e::r=>by
  simp only[killM,List.map_cons,nU N r];split<;>rfl
theorem p5 {N:Nat}:∀{m:Mem} {e:cJ},e∈killM N m→(∃e0∈m,100≤e0.key∧e=⟨e0.key,N,.dead⟩)∨(e∈m∧e.key<100)
 |e0::r,e,h=>by
  simp only[killM,List.mem_cons]at h;rcases h with h|h
  ·by_cases hk:100≤e0.key
   ·simp only[hk,decide_true]at h;exact .inl ⟨e0,by simp,hk,h⟩
   ·simp only[hk,decide_false]at h;subst h;exact .inr ⟨by simp,by omega⟩
  ·rcases p5 h with ⟨e1,h1,h2,h3⟩|⟨h1,h2⟩
   ·exact .inl ⟨e1,List.mem_cons_of_mem _ h1,h2,h3⟩
   ·exact .inr ⟨List.mem_cons_of_mem _ h1,h2⟩
theorem xb (N:Nat) (k:Nat):∀m:Mem,Mem.get (killM N m) k=(Mem.get m k).map fun e=>match decide (100≤e.key)with|true=>⟨e.key,N,.dead⟩|false=>e
 |[]=>rfl
 |e::r=>by
  have e1:(match decide (100≤e.key)with|true=>(⟨e.key,N,.dead⟩:cJ)|false=>e).key=e.key:=by split<;>rfl
  simp only[killM,Mem.get,e1];split
  ·rfl
  ·exact xb N k r
def nV (φ:bI) (N:Nat):bI:=fun k=>match φ k with
 |some L=>some (match decide (100≤k)with|true=>{L with aj:=N}|false=>L)
 |none=>none
theorem nW {φ:bI} {N k:Nat} (h:k<100):nV φ N k=φ k:=by
 unfold nV;have:decide (100≤k)=false:=by simp;omega
 rw[this];cases φ k<;>rfl
theorem Di {φ:bI} {N k:Nat} {L:Loc} (h:100≤k) (hL:φ k=some L):nV φ N k=some {L with aj:=N}:=by
 unfold nV;have:decide (100≤k)=true:=by simp;omega
 rw[this,hL]
theorem V4 {φ:bI} {G:Fr} {S:St} {a:Act} {w:World} {N:Nat} (h:Rel φ G S a w) (hv:∀e∈S.mem,e.aj<N):
 Rel (nV φ N) G (S.kill N) a w∧aQ φ S.mem w (nV φ N) (S.kill N).mem w:=by
 have hle:φ.le (nV φ N):=by
  intro k L hL;by_cases hk:100≤k
  ·obtain⟨e,he,rfl⟩:=List.mem_map.1 (h.mem.oE k L hL);obtain⟨L',bM,hve,_⟩:=h.mem.eZ e he;rw[hL]at bM;cases bM;have:=hv e he;exact⟨_,Di hk hL,by simp only;omega,fun hh=>by simp only at hh;omega⟩
  ·exact⟨L,by rw[nW (by omega)];exact hL,Nat.le_refl _,fun _=>rfl⟩
 have fD:∀b,iy (nV φ N) (killM N S.mem) b→iy φ S.mem b:=by
  rintro b ⟨e,he,L,hL,ho⟩;rcases p5 he with ⟨e0,h0,h1,rfl⟩|⟨h0,h1⟩
  ·exact ho.elim
  ·rw[nW h1]at hL;exact⟨e,h0,L,hL,ho⟩
 have hF:∀b,Fo G (nV φ N) (killM N S.mem) b→Fo G φ S.mem b:=fun b=>Or.imp id (fD b);have hk:aQ φ S.mem w (nV φ N) (S.kill N).mem w:=⟨hle,fun _ _ _=>rfl,fun b _ hb=>fD b hb,Nat.le_refl _,rfl,rfl,rfl⟩;refine⟨⟨h.size,h.defers,(fun t x hx=>nomatch hx),⟨?_,?_,?_,?_,?_,h.mem.bound⟩,h.j0.mono (fun _ _ _=>rfl) (Nat.le_refl _) (fun b _ hb=>hF b hb)⟩,hk⟩
 ·show ((killM N S.mem).map (·.key)).Nodup;rw[nU];exact h.mem.nodup
 ·intro k L hL;show k∈(killM N S.mem).map (·.key);rw[nU];unfold nV at hL;cases hp:φ k with
  |none=>rw[hp]at hL;cases hL
  |some L0=>exact h.mem.oE k L0 hp
 ·intro e he;rcases p5 he with ⟨e0,h0,h1,rfl⟩|⟨h0,h1⟩
  ·obtain⟨L,hL,_,_⟩:=h.mem.eZ e0 h0;exact⟨_,Di h1 hL,rfl,trivial⟩
  ·obtain⟨L,hL,hve,hc⟩:=h.mem.eZ e h0;exact⟨L,by rw[nW h1];exact hL,hve,hc.mono hle (fun _ _ _=>rfl) (Nat.le_refl _) (fun b _ hb=>hF b hb) (fun _ _=>rfl)⟩
 ·rintro e he e' nQ L L' hL bM ⟨b,ho,cx⟩;rcases p5 he with ⟨e0,h0,h1,rfl⟩|⟨h0,h1⟩
  ·exact ho.elim
  ·rcases p5 nQ with ⟨e1,h2,h3,rfl⟩|⟨h2,h3⟩
   ·exact cx.elim
   ·rw[nW h1]at hL;rw[nW h3]at bM;exact h.mem.apart e h0 e' h2 L L' hL bM ⟨b,ho,cx⟩
 ·intro b hb;exact h.mem.jZ b (fD b hb)
def yh (P:Program) (all:List Oper) (S:St) (o:Oper) (p:aR) (t:TypeId) (x:D):Prop:=
 ∀S',jW all o p.ks S' S→∀φ G a w,Rel φ G S' a w→∀(next:Act→World→Prop) (R:Exit→Act→World→Prop),
  (∀φ' a' w' v,Rel φ' G {S' with mem:=putAll S'.mem p.es} a' w'→aQ φ S'.mem w φ' (putAll S'.mem p.es) w'→aH w' (Fo G φ' (putAll S'.mem p.es)) x v→R (.panic [{v:=.iface t v,recovered:=false}]) a' w')→
  if Region.wanted o (yielded all.toArray a.tmps)then o.wp P a w next R else next (a.put o.dst undef) w
section
variable {all:List Oper} {ps:List aR}
theorem LG {m:Mem} {x e:cJ} (h:e∈Mem.set m x):e∈m∨e=x:=by
 induction m with
 |nil=>exact .inl h
 |cons y r ih=>
  simp only[Mem.set]at h;split at h
  ·rcases List.mem_cons.1 h with h|h
   ·exact .inr h
   ·exact .inl (List.mem_cons_of_mem _ h)
  ·rcases List.mem_cons.1 h with h|h
   ·exact .inl (by simp[h])
   ·rcases ih h with h|h
    ·exact .inl (List.mem_cons_of_mem _ h)
    ·exact .inr h
theorem xc:∀{es:List cJ} {m:Mem} {e:cJ},e∈putAll m es→e∈m∨e∈es
 |[],m,e,h=>.inl h
 |x::r,m,e,h=>by
  have h1:e∈putAll (Mem.set m x) r:=h;rcases xc h1 with h|h
  ·rcases LG h with h|h
   ·exact .inl h
   ·exact .inr (by simp[h])
  ·exact .inr (List.mem_cons_of_mem _ h)
theorem Bb (B:Nat) (jS:∀p∈ps,∀e∈p.es,e.aj<B):∀(l:List Nat) (S:St),(∀e∈S.mem,e.aj<B)→∀e∈(aE all ps S l).mem,e.aj<B
 |[],S,h=>h
 |i::l,S,h=>by
  have e1:aE all ps S (i::l)=aE all ps (aE all ps S [i]) l:=by simp[aE]
  rw[e1];refine Bb B jS l _ ?_;simp only[aE,List.foldl_cons,List.foldl_nil];split
  ·rename_i o p ho hp;simp only[aR.app,ff];intro e he;rcases xc he with he|he
   ·exact h e he
   ·exact jS p (List.mem_of_getElem? hp) e he
  ·exact h
variable {S:St} {f:Nat→Bool}
theorem Ib (hlen:ps.length=all.length) (cI:mg all ps=true) (aP:nS all f) {j:Nat} {o:Oper} (ho:all[j]?=some o) (hj:f j=false) (jM:∀i∈eD o,f i=true)
 (nX:∀i p,ps[i]?=some p→i≠j→i∉(gC all []).getD j []→j∉(gC all []).getD i []→∀e∈p.es,100≤e.key) {k:Nat} (hk:k<100):
 Mem.get (aE all ps S (hY all.length f)).mem k=Mem.get (aE all ps S (List.range j)).mem k:=by
 have cg:j<all.length:=(List.getElem?_eq_some_iff.1 ho).1;have dg:∀j o,all[j]?=some o→∀p∈eD o,p<j:=fun j o ho=>(ek cI ho).choose_spec.2.1;have Fw:∀i∈(gC all []).getD j [],i<j∧f i=true:=fun i hi=>by
  obtain⟨h1,h2⟩:=jC (L:=fun i=>f i=true) dg (fun j o ho hf=>aP j o ho hf) j ⟨o,ho⟩ i hi;exact⟨h1,h2 fun o' cx=>by rw[ho]at cx;cases cx;exact jM⟩
 have LH:∀i,f i=true→i<all.length→j∉(gC all []).getD i []:=by
  intro i jy iA p4;obtain⟨oi,hZ⟩:∃oi,all[i]?=some oi:=⟨all[i],by simp[iA]⟩;have:=(jC (L:=fun i=>f i=true) dg (fun j o ho hf=>aP j o ho hf) i ⟨oi,hZ⟩ j p4).2 (fun o' cx=>by rw[hZ]at cx;cases cx;exact aP i oi hZ jy);simp[hj]at this
 let q:Nat→Bool:=fun i=>(gC all []).getD j [] |>.contains i
 have hq:∀i,q i=true↔i∈(gC all []).getD j []:=fun i=>by simp[q]
 have yg:(hY all.length f).filter q=(List.range j).filter q:=by
  rw[wS cg hj,List.filter_append,List.filter_filter,List.filter_filter];have h2:(List.range' (j+1) (all.length-j-1)).filter (fun a=>q a&&f a)=[]:=by
   rw[List.filter_eq_nil_iff];intro i hi;have:=(List.mem_range'_1.1 hi).1;simp only[Bool.and_eq_true,not_and];intro kg;have:=(Fw i ((hq i).1 kg)).1;omega
  rw[h2,List.append_nil];refine List.filter_congr fun i hi=>?_;cases kg:q i with
  |false=>simp
  |true=>simp[(Fw i ((hq i).1 kg)).2]
 have far:∀i p,ps[i]?=some p→i≠j→q i=false→j∉(gC all []).getD i []→k∉p.es.map (·.key):=by
  intro i p hp ka kg p4 tV;obtain⟨e,he,rfl⟩:=List.mem_map.1 tV;have:=nX i p hp ka (fun h=>by rw[(hq i).2 h]at kg;cases kg) p4 e he;omega
 have side:∀(i:Nat) (p:aR),i≠j→j∉(gC all []).getD i []→ps[i]?=some p→k∈p.es.map (·.key)→q i=true:=by
  intro i p ka p4 hp tV;cases kg:q i with
  |true=>rfl
  |false=>exact absurd tV (far i p hp ka kg p4)
 rw[mh k q (hY all.length f) S S (fun i hi p hp tV=>by
  have lG:=List.mem_filter.1 hi;have iA:=List.mem_range.1 lG.1;refine side i p (fun h=>by subst h;simp[hj]at lG) (LH i lG.2 iA) hp tV) rfl rfl,
  mh k q (List.range j) S S (fun i hi p hp tV=>by
   have iA:=List.mem_range.1 hi;refine side i p (by omega) (fun h=>?_) hp tV;obtain⟨oi,hZ⟩:∃oi,all[i]?=some oi:=⟨all[i]'(by omega),by simp[show i<all.length by omega]⟩
   have:=(jC (L:=fun _=>True) dg (fun _ _ _ _ _ _=>trivial) i ⟨oi,hZ⟩ j h).1;omega) rfl rfl,yg]
theorem OC {P:Program} {S0 S1:St} {φ0:bI} {G:Fr} {w0:World} {Q:Exit→Act→World→Prop} {j:Nat} {oj:Oper} {pj:aR} {t:TypeId} {x:D}
 (hlen:ps.length=all.length) (cI:mg all ps=true) (wT:(S0.mem.map (·.key)).Nodup) (gZ:∀(i:Nat) (p:aR),ps[i]?=some p→∀e∈p.es,e.key∈p.ks)
 (eB:∀i o p,all[i]?=some o→ps[i]?=some p→i≠j→j∉(gC all []).getD i []→jX P all (aE all ps S0 (List.range i)) o p)
 (FB:all[j]?=some oj) (pY:ps[j]?=some pj) (FC:yh P all (aE all ps S0 (List.range j)) oj pj t x)
 (nX:∀i p,ps[i]?=some p→i≠j→i∉(gC all []).getD j []→j∉(gC all []).getD i []→∀e∈p.es,100≤e.key)
 (dW:S1.n=S0.n) (dK:S1.gl=S0.gl) (yM:S1.env=[]) (sl:S1.mem=killM (verSum S0.mem+verSums ps+1) (putAll (aE all ps S0 (List.range j)).mem pj.es))
 (hQ:∀φ' a' w' v,Rel φ' G S1 a' w'→aQ φ0 S0.mem w0 φ' S1.mem w'→aH w' (Fo G φ' S1.mem) x v→Q (.panic [{v:=.iface t v,recovered:=false}]) a' w'):
 ∀(fuel:Nat) (listed:Array Bool) φ a w,listed.size=all.length→nS all (fun i=>listed.getD i false)→listed.getD j false=false→Rel φ G (aE all ps S0 (hY all.length fun i=>listed.getD i false)) a w→aQ φ0 S0.mem w0 φ (aE all ps S0 (hY all.length fun i=>listed.getD i false)).mem w→
  ((List.range all.length).filter fun i=>!listed.getD i false).length≤fuel→wpAny P .any all.toArray Q fuel listed a w:=by
 have im:j<all.length:=(List.getElem?_eq_some_iff.1 FB).1;have dg:∀j o,all[j]?=some o→∀p∈eD o,p<j:=fun j o ho=>(ek cI ho).choose_spec.2.1;have first:∀(f:Nat→Bool) (n:Nat),n≤all.length→(∀i,i<n→f i=true)∨∃i,i<n∧f i=false∧∀i',i'<i→f i'=true:=by
  intro f n;induction n with
  |zero=>exact fun _=>.inl (fun i hi=>by omega)
  |succ n ih=>
   intro hn;rcases ih (by omega)with h|⟨i,h1,h2,h3⟩
   ·cases hf:f n with
    |true=>
     refine .inl fun i hi=>?_;rcases Nat.lt_succ_iff_lt_or_eq.1 hi with h'|h'
     ·exact h i h'
     ·rw[h'];exact hf
    |false=>exact .inr ⟨n,by omega,hf,h⟩
   ·exact .inr ⟨i,by omega,h2,h3⟩
 have done:∀(listed:Array Bool),listed.size=all.length→listed.getD j false=false→Region.ready .any all.toArray listed=[]→False:=by
  intro listed bN vT o6;rcases first (fun i=>listed.getD i false) all.length (Nat.le_refl _)with h|⟨i,h1,h2,h3⟩
  ·have:=h j im;simp only[vT]at this;cases this
  ·have:i∈Region.ready .any all.toArray listed:=by
    rw[mem_ready];refine⟨?_,all[i],by simp[h1],fun e he hb=>?_⟩
    ·have:i<listed.size:=by omega
     simp only[Array.getD_eq_getD_getElem?,Array.getElem?_eq_getElem this,Option.getD_some]at h2⊢;exact h2
    ·obtain⟨p,_,hp,_⟩:=ek cI (show all[i]?=some all[i] by simp[h1]);exact h3 e.on (hp e.on (by
      simp only[eD,List.mem_map,List.mem_filter];exact⟨e,⟨by simpa using he,hb⟩,rfl⟩))
   rw[o6]at this;cases this
 intro fuel;induction fuel with
 |zero=>
  intro listed φ a w bN aP vT hr hk hf;exfalso;have:j∈(List.range all.length).filter fun i=>!listed.getD i false:=List.mem_filter.2 ⟨List.mem_range.2 im,by simp[vT]⟩;have:=List.length_pos_of_mem this;omega
 |succ fuel ih=>
  intro listed φ a w bN aP vT hr hk hf;refine⟨fun h=>(done listed bN vT h).elim,fun i hi=>?_⟩;rw[mem_ready]at hi;obtain⟨h0,o,ho,wU⟩:=hi;have cx:all[i]?=some o:=by simpa using ho
  have iA:i<all.length:=(List.getElem?_eq_some_iff.1 cx).1;have wV:i<listed.size:=by omega
  have lM:listed.getD i false=false:=by
   simp only[Array.getD_eq_getD_getElem?,Array.getElem?_eq_getElem wV,Option.getD_some]at h0⊢;exact h0
  have jM:∀k∈eD o,listed.getD k false=true:=by
   intro k aN;simp only[eD,List.mem_map,List.mem_filter]at aN;obtain⟨e,⟨he,hb⟩,rfl⟩:=aN;exact wU e (by simpa using he) hb
  by_cases ka:i=j
  ·subst ka;rw[FB]at cx;cases cx;have pS:=pD (S:=S0) hlen cI aP FB pY lM jM;have hs:=FC _ pS φ G a w hr (wpAny P .any all.toArray Q fuel (listed.setIfInBounds i true)) Q (fun φ' a' w' v b7 aN hv=>by
    have hB1:∀p∈ps,∀e∈p.es,e.aj<verSum S0.mem+verSums ps+1:=by
     intro p hp e he;have h1:=wZ he;have h2:=Ba hp;omega
    have sq:∀e∈S0.mem,e.aj<verSum S0.mem+verSums ps+1:=by
     intro e he;have h1:=wZ he;omega
    have aw:∀e∈putAll (aE all ps S0 (hY all.length fun i=>listed.getD i false)).mem pj.es,e.aj<verSum S0.mem+verSums ps+1:=by
     intro e he;rcases xc he with he|he
     ·exact Bb _ hB1 _ _ sq e he
     ·exact hB1 pj (List.mem_of_getElem? pY) e he
    obtain⟨iS,ck⟩:=V4 b7 aw;have fa:killM (verSum S0.mem+verSums ps+1) (putAll (aE all ps S0 (hY all.length fun i=>listed.getD i false)).mem pj.es)=S1.mem:=by
     rw[sl];refine Mem.ext ?_ ?_ fun k=>?_
     ·rw[nU,jO,eE];exact wT
     ·simp only[nU,jO,eE]
     ·rw[xb,xb];by_cases acN:k<100
      ·congr 1;exact mZ _ _ _ k (by simp only[eE]) (.inr (Ib hlen cI aP FB lM jM nX acN))
      ·have iZ:∀(m:Mem),(Mem.get m k).map (fun e:cJ=>match decide (100≤e.key)with|true=>(⟨e.key,verSum S0.mem+verSums ps+1,.dead⟩:cJ)|false=>e)=if k∈m.map (·.key)then some ⟨k,verSum S0.mem+verSums ps+1,.dead⟩else none:=by
        intro m;cases hg:Mem.get m k with
        |none=>
         rw[if_neg]
         ·rfl
         ·intro tV;obtain⟨e,he,hek⟩:=List.mem_map.1 tV;have:∀(m:Mem),e∈m→Mem.get m k≠none:=by
           intro m;induction m with
           |nil=>intro h;cases h
           |cons y r ihr=>
            intro h;simp only[Mem.get];split
            ·simp
            ·rename_i hy;rcases List.mem_cons.1 h with rfl|h
             ·exact absurd hek hy
             ·exact ihr h
          exact this m he hg
        |some e=>
         obtain⟨h1,h2⟩:=Mem.get_mem hg;have:decide (100≤e.key)=true:=by simp;omega
         simp only[Option.map_some,this];rw[if_pos (h2▸List.mem_map_of_mem h1),h2]
       rw[iZ,iZ];simp only[jO,eE]
    have hS:({(aE all ps S0 (hY all.length fun i=>listed.getD i false))with mem:=putAll (aE all ps S0 (hY all.length fun i=>listed.getD i false)).mem pj.es}:St).kill (verSum S0.mem+verSums ps+1)=S1:=by
     have a1:(aE all ps S0 (hY all.length fun i=>listed.getD i false)).n=S1.n:=by rw[m9,dW]
     have a2:(aE all ps S0 (hY all.length fun i=>listed.getD i false)).gl=S1.gl:=by rw[lL,dK]
     unfold St.kill;simp only[fa,a1,a2];rw[←yM]
    rw[hS]at iS ck;refine hQ _ a' w' v iS (hk.trans (aN.trans ck)) (hv.mono (fun _ _ _=>rfl) (Nat.le_refl _) (fun b hb=>Or.imp id (ck.own b hb))))
   unfold wpOp;rw[ho];simp only
   split at hs
   ·rename_i hw;rw[if_pos hw];exact .inl hs
   ·rename_i hw;rw[if_neg hw];exact hs
  ·obtain⟨p,hp,_⟩:=ek cI cx;have LH:j∉(gC all []).getD i []:=by
    intro p4;have:=(jC (L:=fun i=>listed.getD i false=true) dg (fun j o ho hf=>aP j o ho hf) i ⟨o,cx⟩ j p4).2 (fun o' A9=>by rw[cx]at A9;cases A9;exact jM);rw[vT]at this;cases this
   have A8:=eB i o p cx hp ka LH;have pS:=pD (S:=S0) hlen cI aP cx hp lM jM;have jd:(listed.setIfInBounds i true).getD i false=true:=by simp[wV]
   have lN:∀k,k≠i→(listed.setIfInBounds i true).getD k false=listed.getD k false:=fun k aN=>getD_set_ne false (Ne.symm aN);have heq:=uP (S:=S0) (f:=fun i=>listed.getD i false) (g:=fun k=>(listed.setIfInBounds i true).getD k false) hlen cI aP gZ wT cx hp lM jd lN;have Fz:nS all (fun k=>(listed.setIfInBounds i true).getD k false):=by
    intro k ok dt Oz x hx;by_cases Dh:x=i
    ·subst Dh;exact jd
    ·show (listed.setIfInBounds i true).getD x false=true;rw[lN x Dh];by_cases kh:k=i
     ·subst kh;rw[cx]at dt;cases dt;exact jM x hx
     ·exact aP k ok dt ((lN k kh).symm.trans Oz) x hx
   have wW:((List.range all.length).filter fun k=>!(listed.setIfInBounds i true).getD k false).length≤fuel:=by
    have h1:(List.range all.length).filter (fun k=>!(listed.setIfInBounds i true).getD k false)=((List.range all.length).filter fun k=>!listed.getD k false).filter (fun k=>k != i):=by
     rw[List.filter_filter];refine List.filter_congr fun k _=>?_;by_cases kh:k=i
     ·subst kh;rw[jd];simp
     ·rw[lN k kh];simp[kh]
    have fa:i∈(List.range all.length).filter fun k=>!listed.getD k false:=List.mem_filter.2 ⟨List.mem_range.2 iA,by simp[lM]⟩;rw[h1];have:(((List.range all.length).filter fun k=>!listed.getD k false).filter (fun k=>k != i)).length<((List.range all.length).filter fun k=>!listed.getD k false).length:=by
     rw[List.length_filter_lt_length_iff_exists];exact⟨i,fa,by simp⟩
    omega
   have hs:=A8 _ pS φ G a w hr (wpAny P .any all.toArray Q fuel (listed.setIfInBounds i true)) Q (fun φ' a' w' b7 aN=>
    ih _ φ' a' w' (by simpa using bN) Fz (by rw[lN j (fun h=>ka h.symm)];exact vT) (b7.eqv heq) (by rw[←heq.mem];exact hk.trans aN) wW)
   unfold wpOp;rw[ho];simp only
   split at hs
   ·rename_i hw;rw[if_pos hw];exact .inl hs
   ·rename_i hw;rw[if_neg hw];exact hs
end
end Go.Am
end

/-
  Texts of one proof, one behind the other.
-/
import Derived.SizedLaws
import Derived.Handed
import Derived.Shelf.Vars
import Derived.WalkKit
import Derived.Laws.Rows
import Derived.Laws.CopyRow
import Derived.Laws.StructEq
set_option linter.all false
namespace Go.Am
open Go
def Ds:=@Bool.and_eq_true
def aa1:=@List.getElem?_eq_some_iff
def aa4:=@if_neg
def aa7:=@Nat.le_refl
def aa8:=@decide_eq_true_eq
def aa9:=@List.length_append
def aba:=@Option.map_eq_some_iff
def abb:=@List.length_cons
def abd:=@List.mem_cons
def abf:=@if_pos
def abk:=@List.mem_of_getElem?
def abl:=@List.getElem?_append_left
def abn:=@List.length_nil
def abo:=@List.mem_append
def abp:=@Option.some.injEq
def abq:=@List.getElem?_append_right
def abr:=@Array.getD_eq_getD_getElem?
def abv:=@List.eq_nil_of_length_eq_zero
def abz:=@List.mem_map
def ads:=@List.getElem?_take
def adt:=@Nat.mul_le_mul_right
def adv:=@List.getElem?_eq_getElem
def adz:=@List.getElem?_map
def adA:=@List.all_eq_true
def adB:=@Nat.add_assoc
def adC:=@List.map_cons
def adD:=@List.mem_map_of_mem
def adF:=@Array.length_toList
def adG:=@List.mem_range
def adI:=@Prod.mk.injEq
def adK:=@List.getElem?_drop
def adL:=@of_decide_eq_true
def adM:=@List.mem_of_mem_drop
def adN:=@List.getD_eq_getElem?_getD
def adU:=@Array.getElem?_eq_some_iff
def adV:=@Option.bind_some
def adW:=@if_false
def adX:=@Bool.false_ne_true
def afr:=@List.mem_of_mem_take
def afw:=@List.append_assoc
def afx:=@List.mem_filter
def afy:=@List.append_nil
def afz:=@if_true
def afA:=@List.mem_cons_of_mem
def afI:=@List.not_mem_nil
def afJ:=@List.nil_append
def afM:=@decide_eq_false_iff_not
def afN:=@List.size_toArray
def afO:=@Nat.zero_add
def afP:=@Nat.add_mul
def afU:=@Option.getD_some
def afZ:=@List.length_singleton
def af4:=@List.getElem?_toArray
def af5:=@Nat.add_zero
def af7:=@decide_eq_true
def af8:=@List.getElem_mem
def aga:=@Array.getElem?_eq_getElem
def agb:=@Bool.false_eq_true
def agc:=@List.foldl_cons
def agd:=@List.cons_append
def age:=@List.getElem?_eq_none
def agh:=@Array.getElem?_toList
def ago:=@Bool.not_eq_true'
def agp:=@Array.getElem?_append_left
def agr:=@Bool.or_eq_true
def ags:=@List.length_drop
def agt:=@congrArg
def agv:=@Option.map_some
def agx:=@decide_eq_decide
def agA:=@List.length_take
def agB:=@Ne.symm
def agC:=@Nat.succ_mul
def agP:=@List.filter_eq_nil_iff
def agV:=@Nat.lt_of_lt_of_le
def ag5:=@List.foldl_nil
def aiC:=@List.take_of_length_le
def aiP:=@List.all_cons
def aiR:=@Bool.true_and
def aiU:=@List.range'_succ
def ai0:=@List.filter_filter
def ai4:=@List.filter_append
def aja:=@Bool.false_and
def ajj:=@List.takeWhile_prefix
def ajk:=@List.eq_nil_or_concat
def ajl:=@Array.getElem?_modify
def ajm:=@Nat.min_eq_left
def ajn:=@Nat.le_trans
def ajo:=@List.mem_append_left
def ajq:=@List.filter_congr
def ajr:=@Option.isSome_iff_exists
def ajs:=@Option.bind_eq_some_iff
def ajt:=@Nat.mul_one
def ajz:=@Nat.le_succ
def ajC:=@List.take_append_of_le_length
def ajK:=@Nat.eq_zero_or_pos
def ajN:=@Nat.le_add_left
def ajR:=@List.sum_cons
def ajS:=@List.take_append_drop
def ajY:=@List.concat_eq_append
def akt:=@Classical.choose_spec
def aku:=@List.length_filter_lt_length_iff_exists
def anP:=@Int.le_refl
def anQ:=@List.getLast?_eq_getElem?
def anR:=@List.drop_eq_getElem_cons
def anS:=@not_or
def anT:=@List.map_congr_left
def anU:=@true_and
def anV:=@Bool.and_true
def anW:=@List.map_append
def anX:=@List.getElem?_replicate
def anY:=@List.filter_cons_of_neg
def anZ:=@List.mem_range'_1
def an0:=@List.drop_drop
def an1:=@Iff.rfl
def an2:=@or_false
def an3:=@Nat.zero_le
def an4:=@List.mem_iff_getElem
def an5:=@List.getElem?_of_mem
def an6:=@Array.toArray_toList
end Go.Am
section
namespace Go.Am
open Go
inductive D where
 |int (k:IntKind) (n:Int)
 |bool (b:Bool)
 |str (s:List UInt8)
 |list (xs:List D)
 |agg (cs:List D)
 |z6
def D.size:D->Nat
 | .agg cs=>cs.length
 |_=>1
def D.flat:D->Bool
 | .agg _=>false
 |_=>true
def cG:Value->Bool
 | .agg _=>false
 | .tuple _=>false
 |_=>true
theorem ew{v:Value}(h:cG v=true):v.cells=#[v]:=by cases v<;>simp_all [cG,Value.cells]
inductive aQ(w:World)(F:Nat->Prop):D->Value->Prop
 |int (k n):aQ w F (.int k n) (.int k n)
 |bool (b):aQ w F (.bool b) (.bool b)
 |z6 (v:Value) (h:v=.nilIface\/∃t p,v=.iface t p):aQ w F .z6 v
 |str (b:ByteArray) (s:List UInt8) (h:b.data.toList=s):aQ w F (.str s) (.string b)
 |agg (cs:List D) (a:Array Value) (H:cs.length=a.size)
  (V:∀d∈cs,d.flat=true) (I:∀(i:Nat)(d:D)(v:Value),cs[i]?=some d->a[i]?=some v->aQ w F d v):aQ w F (.agg cs) (.agg a)
 |nil (a:Option Addr) (cap:Nat) (A3:a=none->cap=0):aQ w F (.list []) (.slice a 0 cap)
 |list (xs:List D) (b off cap sz:Nat) (vs:Nat->Value) (A4:xs.length<=cap) (T:b<w.heap.size) (O:¬F b) (A5:∀d∈xs,d.size=sz)
  (Y:∀(i:Nat)(d:D),xs[i]?=some d->aQ w F d (vs i))
  (I:∀(i j:Nat)(c:Value),i<xs.length->(vs i).cells[j]?=some c->w.cell? ⟨b,off+i*sz+j,none⟩=some c):
  aQ w F (.list xs) (.slice (some ⟨b,off,none⟩) xs.length cap)
theorem aQ.size{w F d v}(h:aQ w F d v):v.cells.size=d.size:=by
 cases h
 case z6 h=>rcases h with rfl|⟨t,p,rfl⟩<;>rfl
 all_goals simp_all [D.size,Value.cells]
theorem aQ.one{w F d v}(h:aQ w F d v)(V:d.flat=true):cG v=true:=by
 cases h
 case z6 h=>rcases h with rfl|⟨t,p,rfl⟩<;>rfl
 all_goals simp_all [D.flat,Am.cG]
theorem kE{w w':World}{b o:Nat}(h:w'.heap[b]?=w.heap[b]?):w'.cell? ⟨b,o,none⟩=w.cell? ⟨b,o,none⟩:=by
 simp[World.cell?,h]
theorem aQ.mono{w w':World}{F F':Nat->Prop}{d v}(h:aQ w F d v)
 (Z:∀b,b<w.heap.size->¬F b->w'.heap[b]?=w.heap[b]?) (A0:w.heap.size<=w'.heap.size) (O:∀b,b<w.heap.size->F' b->F b):aQ w' F' d v:=by
 induction h with
 |int k n=>exact .int k n
 |bool b=>exact .bool b
 |z6 v h=>exact .z6 v h
 |str b s h=>exact .str b s h
 |agg cs a H V _ ih=>exact .agg cs a H V ih
 |nil a cap A3=>exact .nil a cap A3
 |list xs b off cap sz vs A4 T y A5 _ I ih=>
  exact .list xs b off cap sz vs A4 (by omega) (λh=>y (O b T h)) A5 ih (λi j c hi AB=>by
   rw[kE (Z b T y)];exact I i j c hi AB)
def ta:Nat:=1000000
inductive AV where
 |bm
 |d (x:D)
 |agg (cs:List AV)
 |ptr (k ak off:Nat)
 |vec (k ak off len:Nat)
 |cS (k ak i j:Nat)
 |ea (x:D) (j:Nat)
 |fn (f:FuncId) (cap:List AV)
 |bg (vs:List AV)
 |im (t:TypeId) (x:D)
 |lit (v:Value)
 |nn
 |err
structure Loc where
 ak:Nat
 dO:Nat
 sz:Nat
 cap:Nat
 base:Nat
 db:List (Option Nat):=[]
abbrev bW:=Nat->Option Loc
inductive aF(φ:bW)(w:World)(F:Nat->Prop):AV->Value->Prop
 |bm (v):aF φ w F .bm v
 |d (x v) (h:aQ w F x v):aF φ w F (.d x) v
 |agg (cs:List AV) (a:Array Value) (H:cs.length=a.size) (E:∀v∈a,cG v=true) (I:∀(i:Nat)(c:AV)(v:Value),cs[i]?=some c->a[i]?=some v->aF φ w F c v):aF φ w F (.agg cs) (.agg a)
 |ptr (k ak off:Nat) (v:Value) (L:Loc) (J:φ k=some L) (Y:ak<=L.ak) (h:ak=L.ak->v=.pointer (some ⟨L.dO,off,none⟩)) (E:cG v=true):aF φ w F (.ptr k ak off) v
 |vec (k ak off len:Nat) (v:Value) (L:Loc) (J:φ k=some L) (Y:ak<=L.ak)
  (h:ak=L.ak->∃a cap,v=.slice a len cap/\len<=cap/\(cap>0->a=some ⟨L.dO,L.base+off*L.sz,none⟩/\off+cap<=L.cap)) (E:cG v=true):aF φ w F (.vec k ak off len) v
 |cS (k ak i j:Nat) (v:Value) (L:Loc) (J:φ k=some L) (Y:ak<=L.ak) (h:ak=L.ak->v=.pointer (some ⟨L.dO,L.base+i*L.sz+j,none⟩)) (E:cG v=true):aF φ w F (.cS k ak i j) v
 |ea (x:D) (j:Nat) (b off:Nat) (A1:Value) (T:b<w.heap.size) (O:¬F b) (A6:aQ w F x A1)
  (I:∀(i:Nat)(c:Value),A1.cells[i]?=some c->w.cell? ⟨b,off+i,none⟩=some c):aF φ w F (.ea x j) (.pointer (some ⟨b,off+j,none⟩))
 |fn (f:FuncId) (cap:List AV) (a:Array Value) (V:f<ta) (H:cap.length=a.size) (I:∀(i:Nat)(c:AV)(v:Value),cap[i]?=some c->a[i]?=some v->aF φ w F c v):aF φ w F (.fn f cap) (.func (.func f) #[] a)
 |tc (f:FuncId) (cap:List AV) (a:Array Value) (H:cap.length=a.size) (I:∀(i:Nat)(c:AV)(v:Value),cap[i]?=some c->a[i]?=some v->aF φ w F c v):aF φ w F (.fn (f+ta) cap) (.func (.func f) a #[])
 |bg (vs:List AV) (a:Array Value) (H:vs.length=a.size) (I:∀(i:Nat)(c:AV)(v:Value),vs[i]?=some c->a[i]?=some v->aF φ w F c v):aF φ w F (.bg vs) (.tuple a)
 |im (t:TypeId) (x:D) (v:Value) (h:aQ w F x v):aF φ w F (.im t x) (.iface t v)
 |lit (v) (E:cG v=true):aF φ w F (.lit v) v
 |nn (a:Addr) (cap:Nat):aF φ w F .nn (.slice (some a) 0 cap)
 |err (t:TypeId) (v:Value):aF φ w F .err (.iface t v)
def bW.le(φ φ':bW):Prop:=∀k L,φ k=some L->∃L',φ' k=some L'/\L.ak<=L'.ak/\(L'.ak=L.ak->L'={L with db:=L'.db})
theorem bW.le_refl(φ:bW):φ.le φ:=λ_ L h=>⟨L,h,aa7 _,λ_=>rfl⟩
theorem bW.le_trans{φ φ' A7:bW}(h:φ.le φ')(AC:φ'.le A7):φ.le A7:=by
 intro k L J;obtain⟨A8,E,AG,AD⟩:=h k L J;obtain⟨AE,AF,AH,A9⟩:=AC k A8 E;refine⟨AE,AF,by omega,λe=>?_⟩;have M:A8.ak=L.ak:=by omega
 have U:=AD M;rw[U]at A9;exact A9 (by rw[e])
theorem aF.mono{φ φ':bW}{w w':World}{F F':Nat->Prop}{x v}(h:aF φ w F x v)(A2:φ.le φ')
 (Z:∀b,b<w.heap.size->¬F b->w'.heap[b]?=w.heap[b]?) (A0:w.heap.size<=w'.heap.size) (O:∀b,b<w.heap.size->F' b->F b):aF φ' w' F' x v:=by
 induction h with
 |bm v=>exact .bm v
 |d x v h=>exact .d x v (h.mono Z A0 O)
 |agg cs a H E _ ih=>exact .agg cs a H E ih
 |ptr k ak off v L J Y h E=>
  obtain⟨L',A',AA,he⟩:=A2 k L J;exact .ptr k ak off v L' A' (by omega) (λe=>by
   have M:L'.ak=L.ak:=by omega
   have U:=he M;rw[U];exact h (by rw[e,M])) E
 |vec k ak off len v L J Y h E=>
  obtain⟨L',A',AA,he⟩:=A2 k L J;exact .vec k ak off len v L' A' (by omega) (λe=>by
   have M:L'.ak=L.ak:=by omega
   have U:=he M;rw[U];exact h (by rw[e,M])) E
 |cS k ak i j v L J Y h E=>
  obtain⟨L',A',AA,he⟩:=A2 k L J;exact .cS k ak i j v L' A' (by omega) (λe=>by
   have M:L'.ak=L.ak:=by omega
   have U:=he M;rw[U];exact h (by rw[e,M])) E
 |ea x j b off A1 T y A6 I=>
  exact .ea x j b off A1 (by omega) (λh=>y (O b T h)) (A6.mono Z A0 O) (λi c hi=>by rw[kE (Z b T y)];exact I i c hi)
 |fn f cap a V H _ ih=>exact .fn f cap a V H ih
 |tc f cap a H _ ih=>exact .tc f cap a H ih
 |bg vs a H _ ih=>exact .bg vs a H ih
 |im t x v h=>exact .im t x v (h.mono Z A0 O)
 |lit v E=>exact .lit v E
 |nn a cap=>exact .nn a cap
 |err t v=>exact .err t v
inductive aH where
 |dead
 |box (cs:List AV)
 |vec (sz:Nat) (aj:List D)
 |vv (aj:List (List D)) (y:Option AV)
structure cJ where
 key:Nat
 ak:Nat
 cont:aH
abbrev Mem:=List cJ
def Mem.get:Mem->Nat->Option cJ
 |[],_=>none
 |e::r,k=>if e.key=k then some e else Mem.get r k
def Mem.set:Mem->cJ->Mem
 |[],_=>[]
 |e::r,x=>if e.key=x.key then x::r else e::Mem.set r x
theorem Mem.get_mem{m:Mem}{k e}(h:Mem.get m k=some e):e∈m/\e.key=k:=by
 induction m with
 |nil=>simp[Mem.get]at h
 |cons x r ih=>
  simp only[Mem.get]at h;split at h
  ·simp_all
  ·have:=ih h;simp_all
theorem Mem.get_of_mem{m:Mem}{e}(J:(m.map (·.key)).Nodup)(h:e∈m):Mem.get m e.key=some e:=by
 induction m with
 |nil=>simp at h
 |cons x r ih=>
  simp only[adC,List.nodup_cons]at J;simp only[Mem.get];rcases abd.1 h with rfl|h
  ·simp
  ·have:x.key≠e.key:=λhe=>J.1 (by rw[he];exact adD h);simp[this,ih J.2 h]
theorem Mem.gX(m:Mem)(x:cJ):(Mem.set m x).map (·.key)=m.map (·.key):=by
 induction m with
 |nil=>rfl
 |cons e r ih=>
  simp only[Mem.set];split
  ·simp_all
  ·simp[ih]
theorem Mem.mem_set{m:Mem}{x e:cJ}(J:(m.map (·.key)).Nodup):e∈Mem.set m x↔(e=x/\x.key∈m.map (·.key))\/(e∈m/\e.key≠x.key):=by
 induction m with
 |nil=>simp[Mem.set]
 |cons y r ih=>
  simp only[adC,List.nodup_cons]at J;simp only[Mem.set];split
  ·rename_i O;constructor
   ·intro h;rcases abd.1 h with rfl|h
    ·left;simp[O]
    ·right;refine⟨by simp[h],λhe=>J.1 ?_⟩;rw[O,<-he];exact adD h
   ·rintro (⟨rfl,_⟩|⟨h,Z⟩)
    ·simp
    ·rcases abd.1 h with rfl|h
     ·exact absurd O Z
     ·simp[h]
  ·rename_i O;simp only[abd,ih J.2,adC];constructor
   ·rintro (rfl|⟨rfl,h⟩|⟨h,Z⟩)
    ·right;exact⟨.inl rfl,O⟩
    ·left;exact⟨rfl,.inr h⟩
    ·right;exact⟨.inr h,Z⟩
   ·rintro (⟨rfl,h⟩|⟨h,Z⟩)
    ·rcases h with h|h
     ·exact absurd h.symm O
     ·right;left;exact⟨rfl,h⟩
    ·rcases h with rfl|h
     ·left;rfl
     ·right;right;exact⟨h,Z⟩
theorem Mem.pO{m:Mem}{x:cJ}(h:x.key∈m.map (·.key)):Mem.get (Mem.set m x) x.key=some x:=by
 induction m with
 |nil=>simp at h
 |cons y r ih=>
  simp only[Mem.set];split
  ·simp[Mem.get]
  ·rename_i O;simp only[Mem.get,O,adW];exact ih (by simp only[adC,abd]at h;rcases h with h|h;exact absurd h.symm O;exact h)
theorem Mem.pP{m:Mem}{x:cJ}{k:Nat}(h:x.key≠k):Mem.get (Mem.set m x) k=Mem.get m k:=by
 induction m with
 |nil=>rfl
 |cons y r ih=>
  simp only[Mem.set];split
  ·rename_i O;have:y.key≠k:=by rw[O];exact h
   simp[Mem.get,h,this]
  ·simp only[Mem.get,ih]
def aH.dc(L:Loc):aH->Nat->Prop
 | .dead,_=>False
 | .box _,b=>L.dO=b
 | .vec _ _,b=>0<L.cap/\L.dO=b
 | .vv _ _,b=>(0<L.cap/\L.dO=b)\/some b∈L.db
def jc(φ:bW)(m:Mem)(b:Nat):Prop:=∃e∈m,∃L,φ e.key=some L/\e.cont.dc L b
structure Fr where
 g:Nat->Prop
 dv:List Deferred
instance:CoeFun Fr (λ_=>Nat->Prop):=⟨Fr.g⟩
def Fo(G:Fr)(φ:bW)(m:Mem)(b:Nat):Prop:=G b\/jc φ m b
def fu(w:World)(b:Nat)(arr:Array Value)(elem:TypeId):Prop:=∃fr:Nat×Nat,w.heap[b]?=some (.cells arr elem fr)/\(fr=(0,0)\/arr.size<=fr.1)
theorem fu.same{w w':World}{b:Nat}{arr:Array Value}{elem:TypeId}(h:fu w b arr elem)(U:w'.heap[b]?=w.heap[b]?):fu w' b arr elem:=by
 obtain⟨fr,V,A'⟩:=h;exact⟨fr,by rw[U];exact V,A'⟩
theorem fu.lt{w:World}{b:Nat}{arr:Array Value}{elem:TypeId}(h:fu w b arr elem):b<w.heap.size:=by
 obtain⟨fr,V,A'⟩:=h;exact (adU.1 V).1
theorem fu.new{w:World}{b:Nat}{arr:Array Value}{elem:TypeId}(h:w.heap[b]?=some (.cells arr elem (0,0))):fu w b arr elem:=⟨(0,0),h,.inl rfl⟩
def As(w:World)(F:Nat->Prop)(v:Option Value)(xs:List D)(o:Option Nat):Prop:=
 match o with
 |none=>xs=[]/\∃a,v=some (.slice a 0 0)
 |some b=>∃(row:Array Value)(AI:TypeId)(off cap:Nat),v=some (.slice (some ⟨b,off,none⟩) xs.length cap)/\0<cap/\xs.length<=cap/\off+cap<=row.size/\fu w b row AI/\(∀u∈row,cG u=true)/\
  ∀(i:Nat)(d:D),xs[i]?=some d->d.size=1/\∃u,aQ w F d u/\∀(j:Nat)(c:Value),u.cells[j]?=some c->row[off+i*1+j]?=some c
theorem As.mono{w w':World}{F F':Nat->Prop}{v xs o}(h:As w F v xs o)(A3:∀d u,d∈xs->aQ w F d u->aQ w' F' d u)
 (A4:∀b,o=some b->w'.heap[b]?=w.heap[b]?):As w' F' v xs o:=by
 cases o with
 |none=>exact h
 |some b=>
  obtain⟨row,AI,off,cap,V,A',A6,AA,AN,Ai,Aj⟩:=h;exact⟨row,AI,off,cap,V,A',A6,AA,AN.same (A4 b rfl),Ai,λj d AJ=>let ⟨g1,u,g2,g3⟩:=Aj j d AJ;⟨g1,u,A3 d u (abk AJ) g2,g3⟩⟩
def ld(φ:bW)(w:World)(F:Nat->Prop)(L:Loc)(aj:List (List D))(y:Option AV):Prop:=
 (L.sz=1/\aj.length+y.toList.length<=L.cap/\L.db.length=aj.length)/\
  (∀(i j:Nat)(b:Nat),L.db[i]?=some (some b)->L.db[j]?=some (some b)->i=j)/\(∀b,some b∈L.db->0<L.cap/\b≠L.dO)/\
  (0<L.cap->∃(arr:Array Value)(elem:TypeId),fu w L.dO arr elem/\arr.size=L.base+L.cap/\(∀v∈arr,cG v=true)/\
   (∀(i:Nat)(xs:List D)(o:Option Nat),aj[i]?=some xs->L.db[i]?=some o->As w F arr[L.base+i]? xs o)/\
   ∀x,y=some x->∃v,arr[L.base+aj.length]?=some v/\aF φ w F x v)
theorem ld.mono{φ φ':bW}{w w':World}{F F':Nat->Prop}{L aj y}(f:AV->AV)(h:ld φ w F L aj y)
 (A3:∀xs∈aj,∀d∈xs,∀u,aQ w F d u->aQ w' F' d u) (AO:∀x,y=some x->∀v,aF φ w F x v->aF φ' w' F' (f x) v)
 (A4:∀b,((0<L.cap/\L.dO=b)\/some b∈L.db)->w'.heap[b]?=w.heap[b]?):ld φ' w' F' L aj (y.map f):=by
 obtain⟨A0,V,A',h⟩:=h;refine⟨by cases y<;>exact A0,V,A',λM=>?_⟩;obtain⟨arr,elem,g1,g2,g3,g4,g5⟩:=h M;refine⟨arr,elem,g1.same (A4 _ (.inl ⟨M,rfl⟩)),g2,g3,λi xs o hi H=>(g4 i xs o hi H).mono (λd u hm=>A3 xs (abk hi) d hm u) (λb e=>A4 b (.inr (by subst e;exact abk H))),λx I=>?_⟩;cases y with
 |none=>cases I
 |some z=>
  cases I;obtain⟨v,q1,q2⟩:=g5 z rfl;exact⟨v,q1,AO z rfl v q2⟩
theorem ld.akB{φ φ':bW}{w w':World}{F F':Nat->Prop}{L aj y}(h:ld φ w F L aj y)
 (A3:∀xs∈aj,∀d∈xs,∀u,aQ w F d u->aQ w' F' d u) (AO:∀x,y=some x->∀v,aF φ w F x v->aF φ' w' F' x v)
 (A4:∀b,((0<L.cap/\L.dO=b)\/some b∈L.db)->w'.heap[b]?=w.heap[b]?):ld φ' w' F' L aj y:=by
 have:=h.mono id A3 AO A4;cases y<;>exact this
theorem ld.ak{φ w F L aj y}(h:ld φ w F L aj y)(v:Nat):ld φ w F {L with ak:=v} aj y:=h
def eA(φ:bW)(w:World)(F:Nat->Prop)(L:Loc):aH->Prop
 | .dead=>True
 | .box cs=>(L.sz=1/\L.base=0/\L.cap=cs.length)/\∃(arr:Array Value)(elem:TypeId),fu w L.dO arr elem/\arr.size=cs.length/\(∀v∈arr,cG v=true)/\
  ∀(i:Nat)(c:AV)(v:Value),cs[i]?=some c->arr[i]?=some v->aF φ w F c v
 | .vec sz aj=>L.sz=sz/\aj.length<=L.cap/\(∀d∈aj,d.size=L.sz)/\(0<L.cap->∃(arr:Array Value)(elem:TypeId),fu w L.dO arr elem/\
  arr.size=L.base+L.cap*L.sz/\(∀v∈arr,cG v=true)/\
  ∀(i:Nat)(d:D),aj[i]?=some d->∃v,aQ w F d v/\∀(j:Nat)(c:Value),v.cells[j]?=some c->arr[L.base+i*L.sz+j]?=some c)
 | .vv aj y=>ld φ w F L aj y
def afo(φ:bW)(w:World)(F:Nat->Prop)(e:cJ):Prop:=∃L,φ e.key=some L/\L.ak=e.ak/\eA φ w F L e.cont
theorem eA.lt{φ w F L c b}(h:eA φ w F L c)(H:c.dc L b):b<w.heap.size:=by
 cases c with
 |dead=>exact H.elim
 |box cs=>obtain⟨_,arr,elem,h,_⟩:=h;have:L.dO=b:=H;subst this;exact h.lt
 |vec sz aj=>obtain⟨M,rfl⟩:=H;obtain⟨_,_,_,h⟩:=h;obtain⟨arr,elem,h,_⟩:=h M;exact h.lt
 |vv aj y=>
  obtain⟨⟨_,_,Ay⟩,_,A6,h⟩:=h;rcases H with ⟨M,rfl⟩|H
  ·obtain⟨arr,elem,h,_⟩:=h M;exact h.lt
  ·obtain⟨i,hi⟩:=an5 H;obtain⟨arr,elem,_,_,_,AN,_⟩:=h (A6 b H).1;have Az:=(aa1.1 hi).1;obtain⟨row,AI,_,_,_,_,_,_,g,_⟩:=AN i (aj[i]'(by omega)) (some b) (by simp[show i<aj.length by omega]) hi
   exact g.lt
theorem eA.mono{φ φ':bW}{w w':World}{F F':Nat->Prop}{L c}(h:eA φ w F L c)(AW:φ.le φ')
 (T:∀b,b<w.heap.size->¬F b->w'.heap[b]?=w.heap[b]?) (U:w.heap.size<=w'.heap.size) (AB:∀b,b<w.heap.size->F' b->F b)
 (A4:∀b,c.dc L b->w'.heap[b]?=w.heap[b]?):eA φ' w' F' L c:=by
 cases c with
 |dead=>trivial
 |box cs=>
  obtain⟨A0,arr,elem,V,A',A6,AA⟩:=h;exact⟨A0,arr,elem,V.same (A4 _ rfl),A',A6,λi c v M AC=>(AA i c v M AC).mono AW T U AB⟩
 |vec sz aj=>
  obtain⟨Ak,A0,Al,h⟩:=h;refine⟨Ak,A0,Al,λM=>?_⟩;obtain⟨arr,elem,V,A',A6,AA⟩:=h M;exact⟨arr,elem,V.same (A4 _ ⟨M,rfl⟩),A',A6,λi d A3=>let ⟨v,AC,AJ⟩:=AA i d A3;⟨v,AC.mono T U AB,AJ⟩⟩
 |vv aj y=>exact ld.akB h (λ_ _ _ _ u hu=>hu.mono T U AB) (λx _ v I=>I.mono AW T U AB) A4
structure bx(φ:bW)(G:Fr)(m:Mem)(w:World):Prop where
 nodup:(m.map (·.key)).Nodup
 qz:∀k L,φ k=some L->k∈m.map (·.key)
 fK:∀e∈m,afo φ w (Fo G φ m) e
 apart:∀e∈m,∀e'∈m,∀L L',φ e.key=some L->φ e'.key=some L'->(∃b,e.cont.dc L b/\e'.cont.dc L' b)->e.key=e'.key
 lf:∀b,jc φ m b->¬G b
 bound:∀b,G b->b<w.heap.size
theorem bx.ED{φ G m w}(h:bx φ G m w){b}(E:jc φ m b):b<w.heap.size:=by
 obtain⟨e,he,L,A8,H⟩:=E;obtain⟨L',AX,_,M⟩:=h.fK e he;rw[A8]at AX;cases AX;exact M.lt H
structure aX(φ:bW)(m:Mem)(w:World)(φ':bW)(m':Mem)(w':World):Prop where
 le:φ.le φ'
 At:∀b,b<w.heap.size->¬jc φ m b->w'.heap[b]?=w.heap[b]?
 own:∀b,b<w.heap.size->jc φ' m' b->jc φ m b
 size:w.heap.size<=w'.heap.size
 os:w'.os=w.os
 tape:w'.tape=w.tape
 output:w'.output=w.output
theorem aX.refl(φ m w):aX φ m w φ m w:=⟨bW.le_refl _,λ_ _ _=>rfl,λ_ _ h=>h,aa7 _,rfl,rfl,rfl⟩
theorem aX.trans{φ m w AY AZ A_ Aa Ab Ac}(h:aX φ m w AY AZ A_)(k:aX AY AZ A_ Aa Ab Ac):aX φ m w Aa Ab Ac where
 le:=bW.le_trans h.le k.le
 At:=λb E J=>by
  rw[k.At b (agV E h.size) (λV=>J (h.own b E V)),h.At b E J]
 own:=λb E J=>h.own b E (k.own b (agV E h.size) J)
 size:=ajn h.size k.size
 os:=k.os.trans h.os
 tape:=k.tape.trans h.tape
 output:=k.output.trans h.output
theorem aX.av{φ m w φ' m' w' G}(h:aX φ m w φ' m' w'){x v}(I:aF φ w (Fo G φ m) x v):aF φ' w' (Fo G φ' m') x v:=
 I.mono h.le (λb E J=>h.At b E (λH=>J (.inr H))) h.size (λb E=>Or.imp id (h.own b E))
theorem bx.dp{φ G m w w'}(h:bx φ G m w){e e':cJ}(he:e∈m){L L':Loc}(A8:φ e.key=some L)(A5:e'.key=e.key)
 (An:L.ak<=L'.ak) (Ao:L'.ak=L.ak->L'={L with db:=L'.db})
 (AC:L'.ak=e'.ak)
 (hold:∀b,b<w.heap.size->¬e.cont.dc L b->w'.heap[b]?=w.heap[b]?) (U:w.heap.size<=w'.heap.size)
 (AP:∀b,e'.cont.dc L' b->e.cont.dc L b\/w.heap.size<=b)
 (AQ:w'.os=w.os) (Ap:w'.tape=w.tape) (Aq:w'.output=w.output)
 (M:∀φ':bW,φ'=(λk=>if k=e.key then some L' else φ k)->φ.le φ'->eA φ' w' (Fo G φ' (Mem.set m e')) L' e'.cont):
 ∃φ',bx φ' G (Mem.set m e') w'/\aX φ m w φ' (Mem.set m e') w'/\φ' e.key=some L'/\∀k,k≠e.key->φ' k=φ k:=by
 have hle:φ.le (λk=>if k=e.key then some L' else φ k):=by
  intro k AR A0;by_cases T:k=e.key
  ·subst T;rw[A8]at A0;cases A0;exact⟨L',by simp,An,Ao⟩
  ·exact⟨AR,by simp[T,A0],aa7 _,λ_=>rfl⟩
 have B':e'.key∈m.map (·.key):=by rw[A5];exact adD he
 have AS:∀x∈m,x.key≠e.key->∀A1,φ x.key=some A1->∀b,x.cont.dc A1 b->e.cont.dc L b->False:=
  λx I Z A1 Y b A2 A7=>Z (h.apart x I e he A1 L Y A8 ⟨b,A2,A7⟩)
 have AT:∀b,b<w.heap.size->jc (λk=>if k=e.key then some L' else φ k) (Mem.set m e') b->jc φ m b:=by
  rintro b E ⟨x,I,A1,Y,A2⟩;rcases (Mem.mem_set h.nodup).1 I with ⟨rfl,_⟩|⟨A9,Z⟩
  ·simp[A5]at Y;subst Y;rcases AP b A2 with A7|Ad
   ·exact⟨e,he,L,A8,A7⟩
   ·omega
  ·rw[A5]at Z;simp[Z]at Y;exact⟨x,A9,A1,Y,A2⟩
 have Ae:∀b,b<w.heap.size->¬jc φ m b->w'.heap[b]?=w.heap[b]?:=λb E J=>
  hold b E λH=>J ⟨e,he,L,A8,H⟩
 refine⟨_,⟨by rw[Mem.gX];exact h.nodup,?_,?_,?_,?_,?_⟩,⟨hle,Ae,AT,U,AQ,Ap,Aq⟩,by simp,λk T=>by simp[T]⟩
 ·intro k AR A0;rw[Mem.gX];by_cases T:k=e.key
  ·subst T;exact adD he
  ·simp[T]at A0;exact h.qz k AR A0
 ·intro x I;rcases (Mem.mem_set h.nodup).1 I with ⟨rfl,_⟩|⟨A9,Z⟩
  ·exact⟨L',by simp[A5],AC,M _ rfl hle⟩
  ·rw[A5]at Z;obtain⟨A1,Y,Ar,AK⟩:=h.fK x A9;refine⟨A1,by simp[Z,Y],Ar,AK.mono hle (λb E J=>Ae b E (λH=>J (.inr H))) U (λb E=>Or.imp id (AT b E)) (λb A2=>?_)⟩;exact hold _ (AK.lt A2) (λA7=>AS x A9 Z A1 Y b A2 A7)
 ·rintro x I y O A1 Af Y AD ⟨b,A2,AL⟩;rcases (Mem.mem_set h.nodup).1 I with ⟨rfl,_⟩|⟨A9,AF⟩<;>rcases (Mem.mem_set h.nodup).1 O with ⟨rfl,_⟩|⟨AU,AG⟩
  ·rfl
  ·rw[A5]at AG;simp[A5]at Y;subst Y;simp[AG]at AD;obtain⟨B0,Ag,_,Au⟩:=h.fK y AU;rw[AD]at Ag;cases Ag;rcases AP b A2 with A7|Ad
   ·exact (AS y AU AG Af AD b AL A7).elim
   ·have:=Au.lt AL;omega
  ·rw[A5]at AF;simp[A5]at AD;subst AD;simp[AF]at Y;obtain⟨B1,Ah,_,AK⟩:=h.fK x A9;rw[Y]at Ah;cases Ah;rcases AP b AL with A7|Ad
   ·exact (AS x A9 AF A1 Y b A2 A7).elim
   ·have:=AK.lt A2;omega
  ·rw[A5]at AF AG;simp[AF]at Y;simp[AG]at AD;exact h.apart x A9 y AU A1 Af Y AD ⟨b,A2,AL⟩
 ·intro b E AE;exact h.lf b (AT b (h.bound b AE) E) AE
 ·intro b AE;exact agV (h.bound b AE) U
theorem bx.grow{φ G m w w'}(h:bx φ G m w)(hold:∀b,b<w.heap.size->w'.heap[b]?=w.heap[b]?)(U:w.heap.size<=w'.heap.size):bx φ G m w' where
 nodup:=h.nodup
 qz:=h.qz
 fK:=λe he=>by
  obtain⟨L,A8,AC,M⟩:=h.fK e he;exact⟨L,A8,AC,M.mono (bW.le_refl _) (λb E _=>hold b E) U (λ_ _ h=>h) (λb H=>hold _ (M.lt H))⟩
 apart:=h.apart
 lf:=h.lf
 bound:=λb AE=>agV (h.bound b AE) U
theorem aX.grow{φ m w w'}(hold:∀b,b<w.heap.size->w'.heap[b]?=w.heap[b]?)(U:w.heap.size<=w'.heap.size)(AQ:w'.os=w.os)(AH:w'.tape=w.tape)(H:w'.output=w.output):aX φ m w φ m w':=
 ⟨bW.le_refl _,λb E _=>hold b E,λ_ _ h=>h,U,AQ,AH,H⟩
abbrev Env:=List (Nat×Bool×AV)
def Env.lk:Env->Nat->Option (Bool×AV)
 |[],_=>none
 |(t,x)::r,u=>if t=u then some x else Env.lk r u
structure St where
 n:Nat
 gl:List (Nat×D)
 env:Env
 mem:Mem
def fg(w:World)(F:Nat->Prop)(gl:List (Nat×D)):Prop:=
 ∀x∈gl,(x.1<w.heap.size/\∀cs,x.2=.agg cs->∃cur e Aw,w.heap[x.1]?=some (.cells cur e Aw)/\cur.size=cs.length)/\¬F x.1/\∃AM,aQ w F x.2 AM/\∀(i:Nat)(c:Value),AM.cells[i]?=some c->w.cell? ⟨x.1,i,none⟩=some c
theorem fg.mono{w w':World}{F F':Nat->Prop}{gl}(h:fg w F gl)(T:∀b,b<w.heap.size->¬F b->w'.heap[b]?=w.heap[b]?)(U:w.heap.size<=w'.heap.size)
 (AB:∀b,b<w.heap.size->F' b->F b):fg w' F' gl:=λx I=>by
 obtain⟨⟨V,A0⟩,A',AM,A6,AA⟩:=h x I;exact⟨⟨by omega,by rw[T _ V A'];exact A0⟩,λAx=>A' (AB _ V Ax),AM,A6.mono T U AB,λi c M=>by rw[kE (T _ V A')];exact AA i c M⟩
theorem aX.lg{φ m w φ' m' w' G gl}(h:aX φ m w φ' m' w')(I:fg w (Fo G φ m) gl):fg w' (Fo G φ' m') gl:=
 I.mono (λb E J=>h.At b E (λH=>J (.inr H))) h.size (λb E=>Or.imp id (h.own b E))
structure Rel(φ:bW)(G:Fr)(S:St)(a:Act)(w:World):Prop where
 size:a.tmps.size=S.n
 defers:a.defers=G.dv
 env:∀t x,Env.lk S.env t=some (true,x)->aF φ w (Fo G φ S.mem) x (a.tmps.getD t undef)
 mem:bx φ G S.mem w
 lg:fg w (Fo G φ S.mem) S.gl
def St.put(S:St)(d:Option Nat)(g:Bool)(x:AV):St:=
 match d with
 |some d=>{S with env:=(d,g,x)::S.env}
 |none=>S
theorem Rel.put{φ G S a w}(h:Rel φ G S a w)(d:Option Nat)(A3:∀t,d=some t->t<S.n)(g:Bool)(x:AV)(v:Value)
 (I:g=true->aF φ w (Fo G φ S.mem) x v):Rel φ G (S.put d g x) (a.put d v) w:=by
 cases d with
 |none=>exact h
 |some d=>
  have A3:=A3 d rfl;refine⟨by simp[Act.put,St.put,h.size],by simp[Act.put,h.defers],?_,h.mem,h.lg⟩;intro t y O;simp only[St.put,Env.lk]at O;by_cases AH:d=t
  ·subst AH;simp only[afz,abp,adI]at O;obtain⟨rfl,rfl⟩:=O;have:d<a.tmps.size:=by rw[h.size];exact A3
   have e:(a.put (some d) v).tmps.getD d undef=v:=by simp[Act.put,this]
   rw[e];exact I rfl
  ·simp only[AH,adW]at O;have e:(a.put (some d) v).tmps.getD t undef=a.tmps.getD t undef:=by simp[Act.put,AH]
   rw[e];exact h.env t y O
theorem Rel.Av{φ G S a w φ' m' w'}(h:Rel φ G S a w)(hm:bx φ' G m' w')(T:aX φ S.mem w φ' m' w'):Rel φ' G {S with mem:=m'} a w':=
 ⟨h.size,h.defers,λt x I=>T.av (h.env t x I),hm,T.lg h.lg⟩
theorem o7{v:Value}(h:cG v=true):v.oneCell'=true:=by cases v<;>simp_all [cG,Value.oneCell']
inductive TK where
 |int (k:IntKind)
 |bool
 |str
 |slice (e:TypeId)
 |arr (n:Nat) (e:TypeId)
 |struct
 |iface
 |ptr (e:TypeId)
 |func
 |other
 deriving DecidableEq
def tk(P:Program)(t:TypeId):TK:=
 match P.underlying t with
 |some (.int k)=>.int k
 |some .bool=>.bool
 |some .string=>.str
 |some (.slice e)=>.slice e
 |some (.array n e)=>.arr n e
 |some (.struct _)=>.struct
 |some (.interface _)=>.iface
 |some (.pointer e)=>.ptr e
 |some (.func _ _ _)=>.func
 |_=>.other
def fT(P:Program)(t:TypeId):Option Nat:=(P.info? t).map (·.size)
def yE(P:Program)(s:TypeId)(f:Nat):Option Nat:=
 match P.underlying s with
 |some (.struct Ah)=>match Ah[f]? with
  |some fl=>match P.info? fl.type with
   |some i=>if i.size=0 then none else some fl.offset
   |none=>none
  |none=>none
 |_=>none
def TK.agg:TK->Bool
 | .arr _ _=>true
 | .struct=>true
 |_=>false
theorem sd{P:Program}{t:TypeId}{w:World}(h:tk P t≠.other):(isAgg t).run P w=.ok (tk P t).agg w:=by
 unfold isAgg;cases hu:P.underlying t with
 |none=>simp[tk,hu]at h
 |some d=>
  rw[Sem.run_bind,run_underlying hu];cases d<;>simp_all [tk,TK.agg]
theorem run_sizeOf{P:Program}{t:TypeId}{n:Nat}{w:World}(h:fT P t=some n):(sizeOf t).run P w=.ok n w:=by
 unfold fT at h;cases hi:P.info? t with
 |none=>simp[hi]at h
 |some i=>simp[hi]at h;simp[sizeOf,typeInfo,hi,h]
theorem fU(b o j:Nat):(⟨b,o,none⟩:Addr).add j=⟨b,o+j,none⟩:=by unfold Addr.add;split<;>simp_all
theorem vC{P:Program}{t:TypeId}{w:World}{a:Addr}{v:Value}(AH:(tk P t).agg=false)(AI:tk P t≠.other)(I:w.cell? a=some v):
 (Instr.loadAt t (.pointer (some a))).run P w=.ok v w:=by
 simp[Instr.loadAt,Instr.sureAddr,loadVar,Sem.run_bind,sd AI,AH,load,Sem.run,I]
theorem vD{P:Program}{t:TypeId}{w:World}{b o:Nat}{vs:List Value}(AH:(tk P t).agg=true)(AW:fT P t=some vs.length)
 (I:∀j v,vs[j]?=some v->w.cell? ⟨b,o+j,none⟩=some v):
 (Instr.loadAt t (.pointer (some ⟨b,o,none⟩))).run P w=.ok (.agg vs.toArray) w:=by
 have AI:tk P t≠.other:=by intro h;rw[h]at AH;cases AH
 have U:=run_loadCells_list (P:=P) w ⟨b,o,none⟩ vs (λj v h=>by rw[fU];exact I j v h);simp[Instr.loadAt,Instr.sureAddr,loadVar,Sem.run_bind,sd AI,AH,run_sizeOf AW,U]
theorem ka{P:Program}(g o:Nat)(t:TypeId)(A5:Nat×Nat):∀(vs:List Value)(i:Nat)(cur:Array Value)(w:World),w.heap[g]?=some (.cells cur t A5)->(A5=(0,0)\/cur.size<=A5.1)->o+i+vs.length<=cur.size->(∀v∈vs,v.oneCell'=true)->
 (storeCells ⟨g,o,none⟩ vs i).run P w=.ok () (w.setRow g (cur.toList.take (o+i)++vs++cur.toList.drop (o+i+vs.length)).toArray)
 |[],i,cur,w,V,_,_,_=>by
  simp only[storeCells,afy,abn,af5,ajS,an6];rw[setRow_self w g cur t A5 V];rfl
 |v::rest,i,cur,w,V,AQ,U,H=>by
  have hi:o+i<cur.size:=by simp at U;omega
  have Ai:(⟨g,o,none⟩:Addr).add i=⟨g,o+i,none⟩:=by unfold Addr.add;split<;>simp_all
  have Aj:w.cell? ⟨g,o+i,none⟩=some cur[o+i]:=by simp[World.cell?,V,hi]
  have Ak:w.frozen? ⟨g,o+i,none⟩=false:=by
   obtain⟨lo,AE⟩:=A5;simp only[World.frozen?,V,Bool.and_eq_false_iff,afM];rcases AQ with h|h
   ·cases h;omega
   ·simp only at h;omega
  have Al:(store ((⟨g,o,none⟩:Addr).add i) v).run P w=.ok () (w.setRow g (cur.setIfInBounds (o+i) v)):=by
   rw[Ai,run_store P w _ v _ (H v (by simp)),Aj];simp[Ak,setCell_eq_setRow w g (o+i) cur t A5 v V]
  have ih:=ka (P:=P) g o t A5 rest (i+1) (cur.setIfInBounds (o+i) v) (w.setRow g (cur.setIfInBounds (o+i) v)) (setRow_heap w g cur _ t _ V) (by simpa using AQ) (by simp at U⊢;omega) (λx O=>H x (by simp[O]));simp only[storeCells,Sem.run_bind,Al,Result.andThen_ok,ih,setRow_setRow];congr 3;have e:=list_seg_step cur.toList (o+i) v rest (by simp at U⊢;omega);simpa [Array.toList_setIfInBounds,adB]using e
theorem Nl{P:Program}{t:TypeId}{w:World}{b o:Nat}{arr:Array Value}{elem:TypeId}{v:Value}(AW:fT P t=some v.cells.size)
 (V:fu w b arr elem) (U:o+v.cells.size<=arr.size) (H:∀x∈v.cells,cG x=true):
 (Instr.storeAt t (.pointer (some ⟨b,o,none⟩)) v).run P w=.ok () (w.setRow b (arr.toList.take o++v.cells.toList++arr.toList.drop (o+v.cells.size)).toArray):=by
 obtain⟨A5,V,AQ⟩:=V;have h:=ka (P:=P) b o elem A5 v.cells.toList 0 arr w V AQ (by simpa using U) (λx O=>o7 (H x (by simpa using O)));simp only[af5,adF]at h;simp[Instr.storeAt,Instr.sureAddr,storeVar,Sem.run_bind,run_sizeOf AW,h]
def D.cells:D->List D
 | .agg cs=>cs
 |x=>[x]
def D.at(xs:List D)(i:Nat):D:=xs[i]?.getD (.bool false)
def D.cell(x:D)(j:Nat):D:=x.cells[j]?.getD (.bool false)
def toD1:AV->Option D
 | .d x=>some x
 | .lit (.slice none 0 0)=>some (.list [])
 | .nn=>some (.list [])
 |_=>none
def toDs:List AV->Option (List D)
 |[]=>some []
 |x::r=>match x,toDs r with
  | .d y,some AJ=>some (y::AJ)
  |_,_=>none
def toDsN:List AV->Option (List D)
 |[]=>some []
 |x::r=>match toD1 x,toDsN r with
  |some y,some AJ=>some (y::AJ)
  |_,_=>none
def B8(cs:List AV):AV:=match toDs cs with|some Y=>.d (.agg Y)|none=>.agg cs
def AV.norm:AV->AV
 | .agg cs=>match toDsN cs with|some Y=>.d (.agg Y)|none=>.agg cs
 | .lit (.slice none 0 0)=>.d (.list [])
 | .nn=>.d (.list [])
 |x=>x
def AV.cells:AV->List AV
 | .agg cs=>cs
 | .d (.agg Y)=>Y.map .d
 |x=>[x]
theorem D.gC(x:D):x.cells.length=x.size:=by cases x<;>rfl
theorem RC{w:World}{F:Nat->Prop}{x:D}{v:Value}(A1:x.flat=true)(h:aQ w F x v)(O:x.cells=[x])(M:v.cells=#[v]):
 v.cells.toList.length=x.cells.length/\(∀u∈v.cells,cG u=true)/\∀(i:Nat)(c:D)(u:Value),x.cells[i]?=some c->v.cells[i]?=some u->aQ w F c u/\c.flat=true:=by
 rw[O,M];refine⟨rfl,λu hu=>by simp at hu;subst hu;exact h.one A1,λi c u H E=>?_⟩;cases i with
 |zero=>simp at H E;subst H;subst E;exact⟨h,A1⟩
 |succ i=>simp at H
theorem aQ.cells{w F x v}(h:aQ w F x v):v.cells.toList.length=x.cells.length/\(∀u∈v.cells,cG u=true)/\∀(i:Nat)(c:D)(u:Value),x.cells[i]?=some c->v.cells[i]?=some u->aQ w F c u/\c.flat=true:=by
 cases AF:x with
 |agg cs=>
  subst AF;cases h with
  |agg cs a U A1 I=>
   refine⟨by simp[D.cells,Value.cells,U],?_,λi c u H E=>⟨I i c u H E,A1 c (abk H)⟩⟩;intro u hu;have hu:u∈a:=hu;obtain⟨i,hi,rfl⟩:=Array.mem_iff_getElem.1 hu;have AE:i<cs.length:=by rw[U];exact hi
   exact (I i cs[i] a[i] (by simp[AE]) (by simp[hi])).one (A1 _ (af8 AE))
 |_=>subst AF;exact RC rfl h rfl (ew (h.one rfl))
theorem aQ.pk{w F}{cs:List D}{vs:List Value}(U:cs.length=vs.length)(H:∀v∈vs,cG v=true)
 (I:∀(i:Nat) c v,cs[i]?=some c->vs[i]?=some v->aQ w F c v):aQ w F (.agg cs) (.agg vs.toArray):=by
 refine .agg cs vs.toArray (by simpa using U) ?_ (λi d v h AK=>I i d v h (by simpa using AK));intro d AF;obtain⟨i,hi,rfl⟩:=an4.1 AF;have AE:i<vs.length:=by omega
 have A3:=I i cs[i] vs[i] (by simp[hi]) (by simp[AE]);have E:=H vs[i] (af8 AE);revert A3 E
 generalize vs[i]=v;generalize cs[i]=c;intro A3 E;cases A3<;>simp_all [D.flat,cG]
theorem toDs_rel{φ w F}:∀{cs:List AV}{Y:List D}{vs:List Value},toDs cs=some Y->(∀(i:Nat) c v,cs[i]?=some c->vs[i]?=some v->aF φ w F c v)->
 cs.length=Y.length/\∀(i:Nat) d v,Y[i]?=some d->vs[i]?=some v->aQ w F d v
 |[],Y,vs,h,_=>by simp[toDs]at h;subst h;simp
 |x::r,Y,vs,h,I=>by
  simp only[toDs]at h;split at h<;>simp at h;rename_i y AJ AA;subst h;cases vs with
  |nil=>
   have ih:=toDs_rel (φ:=φ) (w:=w) (F:=F) (vs:=[]) AA (λi c v _ E=>by simp at E);exact⟨by simp[ih.1],λi d v _ E=>by simp at E⟩
  |cons v0 vs=>
   have ih:=toDs_rel (vs:=vs) AA (λi c v H E=>I (i+1) c v (by simpa using H) (by simpa using E));refine⟨by simp[ih.1],λi d v H E=>?_⟩;cases i with
   |zero=>
    simp at H E;subst H;subst E;have:=I 0 (.d y) v0 (by simp) (by simp);cases this with|d _ _ h=>exact h
   |succ i=>exact ih.2 i d v (by simpa using H) (by simpa using E)
theorem toD1_rel{φ w F x d v}(h:toD1 x=some d)(O:aF φ w F x v):aQ w F d v:=by
 unfold toD1 at h;split at h<;>simp at h
 ·subst h;cases O with|d _ _ h=>exact h
 ·subst h;cases O;exact .nil none 0 λ_=>rfl
 ·subst h;cases O;exact .nil _ _ (by simp)
theorem toDsN_rel{φ w F}:∀{cs:List AV}{Y:List D}{vs:List Value},toDsN cs=some Y->(∀(i:Nat) c v,cs[i]?=some c->vs[i]?=some v->aF φ w F c v)->
 cs.length=Y.length/\∀(i:Nat) d v,Y[i]?=some d->vs[i]?=some v->aQ w F d v
 |[],Y,vs,h,_=>by simp[toDsN]at h;subst h;simp
 |x::r,Y,vs,h,I=>by
  simp only[toDsN]at h;split at h<;>simp at h;rename_i y AJ O AA;subst h;cases vs with
  |nil=>
   have ih:=toDsN_rel (φ:=φ) (w:=w) (F:=F) (vs:=[]) AA (λi c v _ E=>by simp at E);exact⟨by simp[ih.1],λi d v _ E=>by simp at E⟩
  |cons v0 vs=>
   have ih:=toDsN_rel (vs:=vs) AA (λi c v H E=>I (i+1) c v (by simpa using H) (by simpa using E));refine⟨by simp[ih.1],λi d v H E=>?_⟩;cases i with
   |zero=>
    simp at H E;subst H;subst E;exact toD1_rel O (I 0 x v0 (by simp) (by simp))
   |succ i=>exact ih.2 i d v (by simpa using H) (by simpa using E)
theorem Aw{φ w F}{cs:List AV}{vs:List Value}(U:cs.length=vs.length)(H:∀v∈vs,cG v=true)
 (I:∀(i:Nat) c v,cs[i]?=some c->vs[i]?=some v->aF φ w F c v):aF φ w F (B8 cs) (.agg vs.toArray):=by
 unfold B8;split
 ·rename_i Y AX;have:=toDs_rel AX I;exact .d _ _ (.pk (by omega) H this.2)
 ·exact .agg cs vs.toArray (by simpa using U) (λv M=>H v (by simpa using M)) (λi c v h AK=>I i c v h (by simpa using AK))
theorem aF.norm{φ w F x v}(h:aF φ w F x v):aF φ w F x.norm v:=by
 unfold AV.norm;split
 ·rename_i cs;split
  ·rename_i Y AX;cases h with
   |agg _ a U H I=>
    have:=toDsN_rel (vs:=a.toList) AX (λi c v h AK=>I i c v h (by simpa using AK));have E:=aQ.pk (w:=w) (F:=F) (cs:=Y) (vs:=a.toList) (by simp;omega) (λv M=>H v (by simpa using M)) this.2;rw[an6]at E;exact .d _ _ E
  ·exact h
 ·cases h;exact .d _ _ (.nil none 0 λ_=>rfl)
 ·cases h;exact .d _ _ (.nil _ _ (by simp))
 ·exact h
theorem aF.cells{φ w F x v}(h:aF φ w F x v)(H:∀u∈v.cells,cG u=true)(U:v.cells.size=x.cells.length):
 ∀(i:Nat) c u,x.cells[i]?=some c->v.cells[i]?=some u->aF φ w F c u:=by
 cases h with
 |agg cs a U H I=>exact λi c u J hu=>I i c u J hu
 |d x v h=>
  intro i c u J hu;have:=h.cells;cases x with
  |agg cs=>
   simp only[AV.cells,adz,aba]at J;obtain⟨y,AA,rfl⟩:=J;exact .d _ _ (this.2.2 i y u AA hu).1
  |_=>
   simp only[AV.cells]at J;cases i with
   |zero=>simp at J;subst J;exact .d _ _ (this.2.2 0 _ u rfl hu).1
   |succ i=>simp at J
 |bm v=>
  intro i c u J hu;cases i with
  |zero=>simp[AV.cells]at J;subst J;exact .bm _
  |succ i=>simp[AV.cells]at J
 |ptr k ak off v L Z M h E=>
  intro i c u J hu;rw[ew E]at hu;cases i with
  |zero=>simp[AV.cells]at J hu;subst J;subst hu;exact .ptr k ak off v L Z M h E
  |succ i=>simp[AV.cells]at J
 |vec k ak off len v L Z M h E=>
  intro i c u J hu;rw[ew E]at hu;cases i with
  |zero=>simp[AV.cells]at J hu;subst J;subst hu;exact .vec k ak off len v L Z M h E
  |succ i=>simp[AV.cells]at J
 |cS k ak p j v L Z M h E=>
  intro i c u J hu;rw[ew E]at hu;cases i with
  |zero=>simp[AV.cells]at J hu;subst J;subst hu;exact .cS k ak p j v L Z M h E
  |succ i=>simp[AV.cells]at J
 |ea x j b off A2 AR AS O I=>
  intro i c u J hu;cases i with
  |zero=>simp[AV.cells,Value.cells]at J hu;subst J;subst hu;exact .ea x j b off A2 AR AS O I
  |succ i=>simp[AV.cells]at J
 |fn f cap a A1 AY I=>
  intro i c u J hu;cases i with
  |zero=>simp[AV.cells,Value.cells]at J hu;subst J;subst hu;exact .fn f cap a A1 AY I
  |succ i=>simp[AV.cells]at J
 |tc f cap a AY I=>
  intro i c u J hu;cases i with
  |zero=>simp[AV.cells,Value.cells]at J hu;subst J;subst hu;exact .tc f cap a AY I
  |succ i=>simp[AV.cells]at J
 |bg vs a U I=>
  have:=H (.tuple a) (by simp[Value.cells]);simp[cG]at this
 |im t x v h=>
  intro i c u J hu;cases i with
  |zero=>simp[AV.cells,Value.cells]at J hu;subst J;subst hu;exact .im t x v h
  |succ i=>simp[AV.cells]at J
 |lit v E=>
  intro i c u J hu;rw[ew E]at hu;cases i with
  |zero=>simp[AV.cells]at J hu;subst J;subst hu;exact .lit _ E
  |succ i=>simp[AV.cells]at J
 |nn a cap=>
  intro i c u J hu;cases i with
  |zero=>simp[AV.cells,Value.cells]at J hu;subst J;subst hu;exact .nn a cap
  |succ i=>simp[AV.cells]at J
 |err t v=>
  intro i c u J hu;cases i with
  |zero=>simp[AV.cells,Value.cells]at J hu;subst J;subst hu;exact .err t v
  |succ i=>simp[AV.cells]at J
def nH:Value->AV
 | .int k n=>.d (.int k n)
 | .bool b=>.d (.bool b)
 | .string s=>.d (.str s.data.toList)
 | .agg _=>.bm
 | .tuple _=>.bm
 |v=>.lit v
theorem CS(φ w F v):aF φ w F (nH v) v:=by
 cases v<;>first|exact .d _ _ (.int _ _)|exact .d _ _ (.bool _)|exact .d _ _ (.str _ _ rfl)|exact .bm _|exact .lit _ rfl
def Hy:List (Nat×D)->Nat->Option D
 |[],_=>none
 |(g,d)::r,k=>if g=k then some d else Hy r k
theorem NU:∀{l:List (Nat×D)}{g d},Hy l g=some d->(g,d)∈l
 |[],g,d,h=>by simp[Hy]at h
 |(Aq,Ar)::r,g,d,h=>by
  simp only[Hy]at h;split at h
  ·rename_i V;subst V;cases h;simp
  ·have:=NU h;simp[this]
def St.aq(S:St):Operand->Bool×AV
 | .tmp t=>(Env.lk S.env t).getD (true,.bm)
 | .const v=>(true,nH v)
 | .global g=>match Hy S.gl g with
  |some d=>(true,.ea d 0)
  |none=>(true,.lit (.pointer (some ⟨g,0,none⟩)))
 | .func f=>(decide (f<ta),.fn f [])
theorem Rel.aq{φ G S a w}(h:Rel φ G S a w)(x:Operand)(O:(S.aq x).1=true):aF φ w (Fo G φ S.mem) (S.aq x).2 (a.eval x):=by
 cases x with
 |tmp t=>
  simp only[St.aq]at O⊢;cases U:Env.lk S.env t with
  |none=>exact .bm _
  |some y=>
   obtain⟨g,x⟩:=y;rw[U]at O;simp only[afU]at O⊢;subst O;exact h.env t x U
 |const v=>exact CS ..
 |global g=>
  simp only[St.aq]at O⊢;split
  ·rename_i d AF;obtain⟨⟨H,_⟩,E,A2,A3,An⟩:=h.lg _ (NU AF);have e:a.eval (.global g)=.pointer (some ⟨g,0+0,none⟩):=rfl;rw[e];exact .ea d 0 g 0 A2 H E A3 (λi c hi=>by simpa using An i c hi)
  ·exact .lit _ rfl
 |func f=>exact .fn f [] #[] (by simpa [St.aq]using O) rfl (by simp)
inductive dF where
 |no
 |val (c:Bool) (x:AV)
 |dp (c:Bool) (x:AV) (e:cJ)
def EH(P:Program)(o:Oper)(a:Act)(w:World)(v:Value)(w':World):Prop:=
 (execOp a.eval o).run P w=.ok (.value v) w'\/((execOp a.eval o).run P w=.ok .skip w'/\v=undef)
def aN(P:Program)(S:St)(o:Oper):dF->Prop
 | .no=>True
 | .val c x=>c=true->∀φ G a w,Rel φ G S a w->∃v w',EH P o a w v w'/\aF φ w' (Fo G φ S.mem) x v/\
  (∀b,b<w.heap.size->w'.heap[b]?=w.heap[b]?)/\w.heap.size<=w'.heap.size/\w'.os=w.os/\w'.tape=w.tape/\w'.output=w.output
 | .dp c x e=>c=true->∀φ G a w,Rel φ G S a w->∃v w' φ',EH P o a w v w'/\aF φ' w' (Fo G φ' (Mem.set S.mem e)) x v/\
  bx φ' G (Mem.set S.mem e) w'/\aX φ S.mem w φ' (Mem.set S.mem e) w'/\∀k,k≠e.key->φ' k=φ k
theorem aN.pure{P S o x}{c:Prop}[Decidable c](h:c->∀φ G a w,Rel φ G S a w->∃v,(execOp a.eval o).run P w=.ok (.value v) w/\aF φ w (Fo G φ S.mem) x v):aN P S o (.val (decide c) x):=by
 intro I φ G a w T;obtain⟨v,H,E⟩:=h (adL I) φ G a w T;exact⟨v,w,.inl H,E,λ_ _=>rfl,aa7 _,rfl,rfl,rfl⟩
theorem aN.sS{P S o x e}{c:Prop}[Decidable c](h:c->∀φ G a w,Rel φ G S a w->∃v w' φ',EH P o a w v w'/\aF φ' w' (Fo G φ' (Mem.set S.mem e)) x v/\
 bx φ' G (Mem.set S.mem e) w'/\aX φ S.mem w φ' (Mem.set S.mem e) w'/\∀k,k≠e.key->φ' k=φ k):aN P S o (.dp (decide c) x e):=λI=>h (adL I)
theorem aN.apt{P S o x}{c:Prop}[Decidable c](h:c->∀φ G a w,Rel φ G S a w->∃v w',EH P o a w v w'/\aF φ w' (Fo G φ S.mem) x v/\
 (∀b,b<w.heap.size->w'.heap[b]?=w.heap[b]?)/\w.heap.size<=w'.heap.size/\w'.os=w.os/\w'.tape=w.tape/\w'.output=w.output):aN P S o (.val (decide c) x):=λI=>h (adL I)
theorem aN.rJ{P S o x}{c:Bool}(h:c=true->∀φ G a w,Rel φ G S a w->∃v,(execOp a.eval o).run P w=.ok (.value v) w/\aF φ w (Fo G φ S.mem) x v):aN P S o (.val c x):=by
 intro I φ G a w T;obtain⟨v,H,E⟩:=h I φ G a w T;exact⟨v,w,.inl H,E,λ_ _=>rfl,aa7 _,rfl,rfl,rfl⟩
def lh(P:Program)(S:St)(o:Oper):dF->Prop
 | .no=>True
 | .val c x=>c=true->∀φ G a w,Rel φ G S a w->∃v,(execOp a.eval o).run P w=.ok (.value v) w/\aF φ w (Fo G φ S.mem) x v
 | .dp _ _ _=>False
theorem lh.of{P S o x}{c:Prop}[Decidable c](h:c->∀φ G a w,Rel φ G S a w->∃v,(execOp a.eval o).run P w=.ok (.value v) w/\aF φ w (Fo G φ S.mem) x v):lh P S o (.val (decide c) x):=λI=>h (adL I)
theorem lh.res{P S o r}(h:lh P S o r):aN P S o r:=by
 cases r with
 |no=>trivial
 |val c x=>
  intro I φ G a w T;obtain⟨v,H,E⟩:=h I φ G a w T;exact⟨v,w,.inl H,E,λ_ _=>rfl,aa7 _,rfl,rfl,rfl⟩
 |dp c x e=>exact h.elim
def mR(P:Program)(m:Mem)(t:TypeId)(p:AV):dF:=
 match p with
 | .ptr k ak off=>match Mem.get m k with
  |some ⟨_,v,.box cs⟩=>match (tk P t).agg with
   |true=>match fT P t with
    |some n=>.val (v=ak/\off+n<=cs.length) (B8 ((cs.drop off).take n))
    |none=>.no
   |false=>.val (v=ak/\tk P t≠.other/\off<cs.length) (cs[off]?.getD .bm)
  |_=>.no
 | .cS k ak i j=>match Mem.get m k with
  |some ⟨_,v,.vec sz aj⟩=>match (tk P t).agg with
   |true=>.val (v=ak/\i<aj.length/\fT P t=some sz/\j=0/\(D.at aj i).flat=false) (.d (D.at aj i))
   |false=>.val (v=ak/\tk P t≠.other/\i<aj.length/\j<sz) (.d (D.cell (D.at aj i) j))
  |some ⟨_,v,.vv aj (some y)⟩=>match (tk P t).agg with
   |true=>.no
   |false=>.val (v=ak/\tk P t≠.other/\i=aj.length/\j=0) y
  |_=>.no
 | .ea x j=>match (tk P t).agg with
  |true=>match j with
   |0=>.val (fT P t=some x.size/\x.flat=false) (.d x)
   |j=>match fT P t with
    |some n=>.val (j+n<=x.size) (.d (.agg ((x.cells.drop j).take n)))
    |none=>.no
  |false=>.val (tk P t≠.other/\j<x.size) (.d (x.cell j))
 |_=>.no
theorem bx.get{φ G m w}(h:bx φ G m w){k e}(V:Mem.get m k=some e):e∈m/\e.key=k/\∃L,φ k=some L/\L.ak=e.ak/\eA φ w (Fo G φ m) L e.cont:=by
 obtain⟨hm,AB⟩:=Mem.get_mem V;obtain⟨L,H,E,A3⟩:=h.fK e hm;rw[AB]at H;exact⟨hm,AB,L,H,E,A3⟩
theorem aF.se{φ w F k ak off v L}(h:aF φ w F (.ptr k ak off) v)(Z:φ k=some L)(M:L.ak=ak):v=.pointer (some ⟨L.dO,off,none⟩):=by
 cases h with|ptr _ _ _ _ L' AL _ h _=>rw[Z]at AL;cases AL;exact h M.symm
theorem aF.lj{φ w F k ak i j v L}(h:aF φ w F (.cS k ak i j) v)(Z:φ k=some L)(M:L.ak=ak):v=.pointer (some ⟨L.dO,L.base+i*L.sz+j,none⟩):=by
 cases h with|cS _ _ _ _ _ L' AL _ h _=>rw[Z]at AL;cases AL;exact h M.symm
theorem Hz{w:World}{b:Nat}{arr:Array Value}{e:TypeId}{fr}(h:w.heap[b]?=some (.cells arr e fr))(o:Nat):w.cell? ⟨b,o,none⟩=arr[o]?:=by
 simp[World.cell?,h]
theorem gY{w:World}{b:Nat}{arr:Array Value}{e:TypeId}(h:fu w b arr e)(o:Nat):w.cell? ⟨b,o,none⟩=arr[o]?:=by
 obtain⟨fr,h,_⟩:=h;exact Hz h o
theorem j9{xs:List D}{i:Nat}(h:i<xs.length):xs[i]?=some (D.at xs i):=by simp[D.at,h]
theorem wP{w F x v}(h:aQ w F x v)(A1:x.flat=false):∃arr,v=.agg arr:=by
 cases h<;>simp_all [D.flat]
theorem NV(P:Program)(S:St)(o:Oper)(t:TypeId)(x:Operand)(AI:o.op=.load t x)(O:(S.aq x).1=true):lh P S o (mR P S.mem t (S.aq x).2):=by
 have A8:∀(a:Act)(w:World)(v:Value),(Instr.loadAt t (a.eval x)).run P w=.ok v w->(execOp a.eval o).run P w=.ok (.value v) w:=by
  intro a w v h;simp[execOp,AI,h]
 unfold mR;split
 ·rename_i k ak off A4;split
  ·rename_i key v cs V;split
   ·rename_i A';split
    ·rename_i n AZ;refine lh.of ?_;rintro ⟨rfl,hle⟩ φ G a w T;have M:=T.aq x O;rw[A4]at M;obtain⟨hm,AB,L,Z,A6,_,arr,elem,hh,AT,H,A7⟩:=T.mem.get V;have e:=M.se Z A6;have AM:((arr.toList.drop off).take n).length=n:=by simp;omega
     refine⟨.agg ((arr.toList.drop off).take n).toArray,A8 a w _ ?_,?_⟩
     ·rw[e];refine vD A' (by rw[AM];exact AZ) (λj v A0=>?_);rw[gY hh];rw[ads]at A0;split at A0
      ·simpa using A0
      ·cases A0
     ·refine Aw (by rw[AM];simp;omega) (λv M=>H v ?_) (λi c v I M=>?_)
      ·have:=afr M;simpa using adM this
      ·rw[ads]at I M;split at I
       ·rename_i hi;simp only[hi,afz]at M;exact A7 (off+i) c v (by simpa using I) (by simpa using M)
       ·cases I
    ·trivial
   ·rename_i A';refine lh.of ?_;rintro ⟨rfl,AC,AD⟩ φ G a w T;have M:=T.aq x O;rw[A4]at M;obtain⟨hm,AB,L,Z,A6,_,arr,elem,hh,AT,H,A7⟩:=T.mem.get V;have e:=M.se Z A6;have Ag:off<arr.size:=by omega
    refine⟨arr[off],A8 a w _ ?_,A7 off _ _ ?_ (by simp[Ag])⟩
    ·rw[e];exact vC A' AC (by rw[gY hh];simp[Ag])
    ·simp[AD]
  ·trivial
 ·rename_i k ak i j A4;split
  ·rename_i key v sz aj V;split
   ·rename_i A';refine lh.of ?_;rintro ⟨rfl,AD,A_,rfl,A1⟩ φ G a w T;have M:=T.aq x O;rw[A4]at M;obtain⟨hm,AB,L,Z,A6,Aa,Ab,Ac,AN⟩:=T.mem.get V;have e:=M.lj Z A6;obtain⟨arr,elem,hh,AT,H,A7⟩:=AN (by omega);obtain⟨u,hu,Ad⟩:=A7 i _ (j9 AD);obtain⟨AG,rfl⟩:=wP hu A1;refine⟨.agg AG,A8 a w _ ?_,.d _ _ hu⟩;rw[e];have AU:AG.toList.length=sz:=by
     have A3:=hu.size;rw[Ac _ (abk (j9 AD)),Aa]at A3;simpa [Value.cells]using A3
    have:=vD (P:=P) (t:=t) (w:=w) (b:=L.dO) (o:=L.base+i*L.sz+0) (vs:=AG.toList) A' (by rw[AU];exact A_) (λj v A0=>by
     rw[gY hh];exact Ad j v (by simpa [Value.cells]using A0))
    simpa using this
   ·rename_i A';refine lh.of ?_;rintro ⟨rfl,AC,AD,A0⟩ φ G a w T;have M:=T.aq x O;rw[A4]at M;obtain⟨hm,AB,L,Z,A6,Aa,Ab,Ac,AN⟩:=T.mem.get V;have e:=M.lj Z A6;obtain⟨arr,elem,hh,AT,H,A7⟩:=AN (by omega);obtain⟨u,hu,Ad⟩:=A7 i _ (j9 AD);have AU:(D.at aj i).size=sz:=by rw[Ac _ (abk (j9 AD)),Aa]
    have AO:j<u.cells.size:=by rw[hu.size,AU];exact A0
    have Ae:j<(D.at aj i).cells.length:=by rw[D.gC,AU];exact A0
    refine⟨u.cells[j],A8 a w _ ?_,.d _ _ (hu.cells.2.2 j _ _ (by simp[D.cell,Ae]) (by simp[AO])).1⟩;rw[e];exact vC A' AC (by rw[gY hh];exact Ad j _ (by simp[AO]))
  ·rename_i key v aj y V;split
   ·trivial
   ·rename_i A';refine lh.of ?_;rintro ⟨rfl,AC,rfl,rfl⟩ φ G a w T;have M:=T.aq x O;rw[A4]at M;obtain⟨hm,AB,L,Z,A6,⟨Ao,Ab,_⟩,_,_,AN⟩:=T.mem.get V;have e:=M.lj Z A6;simp only[Option.toList_some,afZ]at Ab;obtain⟨arr,elem,hh,AT,H,_,A7⟩:=AN (by omega);obtain⟨u,hu,Ap⟩:=A7 y rfl;refine⟨u,A8 a w _ ?_,Ap⟩;rw[e];exact vC A' AC (by rw[gY hh,Ao,ajt,af5];exact hu)
  ·trivial
 ·rename_i d j A4;split
  ·rename_i A';split
   ·refine lh.of ?_;rintro ⟨A_,A1⟩ φ G a w T;have M:=T.aq x O;rw[A4]at M;generalize AP:a.eval x=av at M;cases M with
    |ea _ _ b off A2 AR AS A9 I=>
     obtain⟨AG,rfl⟩:=wP A9 A1;refine⟨.agg AG,A8 a w _ ?_,.d _ _ A9⟩;rw[AP];exact vD (vs:=AG.toList) A' (by rw[A_];have:=A9.size;simp[Value.cells]at this;simp[this]) (λj v A0=>I j v (by simpa [Value.cells]using A0))
   ·split
    ·rename_i n AZ;refine lh.of ?_;intro hle φ G a w T;have M:=T.aq x O;rw[A4]at M;generalize AP:a.eval x=av at M;cases M with
     |ea _ _ b off A2 AR AS A9 I=>
      have Af:=A9.cells;have U:A2.cells.toList.length=d.size:=by rw[Af.1,D.gC]
      have AM:((A2.cells.toList.drop j).take n).length=n:=by simp at U⊢;omega
      refine⟨.agg ((A2.cells.toList.drop j).take n).toArray,A8 a w _ ?_,.d _ _ (.pk ?_ ?_ ?_)⟩
      ·rw[AP];refine vD A' (by rw[AM];exact AZ) (λi v hi=>?_);rw[ads]at hi;split at hi
       ·rw[show off+j+i=off+(j+i) by omega];exact I (j+i) v (by simpa using hi)
       ·cases hi
      ·rw[AM];simp[D.gC];omega
      ·intro v M;exact Af.2.1 v (by simpa using adM (afr M))
      ·intro i c v H E;rw[ads]at H E;split at H
       ·rename_i hi;simp only[hi,afz]at E;exact (Af.2.2 (j+i) c v (by simpa using H) (by simpa using E)).1
       ·cases H
    ·trivial
  ·rename_i A';refine lh.of ?_;rintro ⟨AC,A0⟩ φ G a w T;have M:=T.aq x O;rw[A4]at M;generalize AP:a.eval x=av at M;cases M with
   |ea _ _ b off A2 AR AS A9 I=>
    have AO:j<A2.cells.size:=by rw[A9.size];exact A0
    have Ae:j<d.cells.length:=by rw[D.gC];exact A0
    refine⟨A2.cells[j],A8 a w _ ?_,.d _ _ (A9.cells.2.2 j _ _ (by simp[D.cell,Ae]) (by simp[AO])).1⟩;rw[AP];exact vC A' AC (I j _ (by simp[AO]))
 ·trivial
def AV.lV:AV->Bool
 | .bm=>false
 | .bg _=>false
 |_=>true
theorem aF.lV{φ w F x v}(h:aF φ w F x v)(A5:x.lV=true):v.cells.size=x.cells.length/\∀u∈v.cells,cG u=true:=by
 have one:∀{v:Value}{x:AV},cG v=true->x.cells.length=1->v.cells.size=x.cells.length/\∀u∈v.cells,cG u=true:=by
  intro v x E A4;rw[ew E,A4];exact⟨rfl,λu hu=>by simp at hu;subst hu;exact E⟩
 cases h with
 |bm=>simp[AV.lV]at A5
 |bg=>simp[AV.lV]at A5
 |d x v h=>
  have Z:=h.cells;refine⟨?_,Z.2.1⟩;have:=Z.1;cases x<;>simp_all [AV.cells,D.cells]
 |agg cs a A4 E Z=>exact⟨by simp[Value.cells,AV.cells,A4],E⟩
 |ptr _ _ _ _ _ _ _ _ E=>exact one E rfl
 |vec _ _ _ _ _ _ _ _ _ E=>exact one E rfl
 |cS _ _ _ _ _ _ _ _ _ E=>exact one E rfl
 |ea=>exact one rfl rfl
 |fn=>exact one rfl rfl
 |tc=>exact one rfl rfl
 |im=>exact one rfl rfl
 |lit _ E=>exact one E rfl
 |nn=>exact one rfl rfl
 |err=>exact one rfl rfl
def bB{α:Type}(cs:List α)(off:Nat)(I:List α):List α:=
 match I with
 |[y]=>cs.set off y
 |I=>cs.take off++I++cs.drop (off+I.length)
theorem dI{α:Type}(cs:List α)(off:Nat)(I:List α)(h:off+I.length<=cs.length):bB cs off I=cs.take off++I++cs.drop (off+I.length):=by
 unfold bB;split
 ·rename_i y;simp at h;rw[List.set_eq_take_append_cons_drop,abf (by omega)];simp
 ·rfl
theorem bX{α:Type}(cs:List α)(off:Nat)(I:List α)(h:off+I.length<=cs.length):(bB cs off I).length=cs.length:=by
 rw[dI cs off I h];simp;omega
theorem gZ{α:Type}(cs:List α)(off:Nat)(I:List α)(h:off+I.length<=cs.length)(i:Nat):
 (bB cs off I)[i]?=if i<off then cs[i]? else if i<off+I.length then I[i-off]? else cs[i]?:=by
 rw[dI cs off I h];by_cases E:i<off
 ·rw[abf E,afw,abl (by simp;omega),ads,abf E]
 ·rw[aa4 E,afw,abq (by simp;omega)];simp only[agA,ajm (show off<=cs.length by omega)];by_cases A':i<off+I.length
  ·rw[abf A',abl (by omega)]
  ·rw[aa4 A',abq (by omega),adK];congr 1;omega
theorem um{α β:Type}{R:α->β->Prop}{cs I:List α}{vs us:List β}{off:Nat}(A4:cs.length=vs.length)(BD:I.length=us.length)(h:off+I.length<=cs.length)
 (Z:∀(i:Nat) c v,cs[i]?=some c->vs[i]?=some v->R c v) (AA:∀(i:Nat) c v,I[i]?=some c->us[i]?=some v->R c v):
 ∀(i:Nat) c v,(bB cs off I)[i]?=some c->(bB vs off us)[i]?=some v->R c v:=by
 intro i c v;rw[gZ cs off I h,gZ vs off us (by omega),<-BD];split
 ·exact Z i c v
 ·split
  ·exact AA _ c v
  ·exact Z i c v
theorem Dz{φ G m w}(h:bx φ G m w):∀b,Fo G φ m b->b<w.heap.size:=λb O=>O.elim (h.bound b) (λA7=>h.ED A7)
theorem oQ(w:World)(g k:Nat)(cs:Array Value)(h:k≠g):(w.setRow g cs).heap[k]?=w.heap[k]?:=by
 simp only[World.setRow,ajl];rw[aa4 (λe=>h e.symm)]
theorem bx.Jy{φ G m w}(h:bx φ G m w){e:cJ}(he:e∈m){L:Loc}(V:φ e.key=some L)(A0:L.ak=e.ak){b0:Nat}(A7:e.cont.dc L b0)(T:Array Value)
 (L':Loc) (Y:e.ak<=L'.ak) (BE:L'.ak=L.ak->L'={L with db:=L'.db}) (H:aH) (AH:∀b,H.dc L' b->e.cont.dc L b)
 (Z:∀φ':bW,φ.le φ'->(∀x v,aF φ w (Fo G φ m) x v->aF φ' (w.setRow b0 T) (Fo G φ' (Mem.set m ⟨e.key,L'.ak,H⟩)) x v)->
  (∀x v,aQ w (Fo G φ m) x v->aQ (w.setRow b0 T) (Fo G φ' (Mem.set m ⟨e.key,L'.ak,H⟩)) x v)->
  eA φ' (w.setRow b0 T) (Fo G φ' (Mem.set m ⟨e.key,L'.ak,H⟩)) L' H):
 ∃φ',bx φ' G (Mem.set m ⟨e.key,L'.ak,H⟩) (w.setRow b0 T)/\aX φ m w φ' (Mem.set m ⟨e.key,L'.ak,H⟩) (w.setRow b0 T)/\φ' e.key=some L'/\∀k,k≠e.key->φ' k=φ k:=by
 have BF:jc φ m b0:=⟨e,he,L,V,A7⟩;refine h.dp (e':=⟨e.key,L'.ak,H⟩) he V rfl (L':=L') (by rw[A0];exact Y) BE rfl
  (λb O AB=>oQ w b0 b T (λheq=>AB (heq▸A7))) (by simp) (λb O=>.inl (AH b O)) rfl rfl rfl ?_
 intro φ' AY hle;have AZ:∀b,b<w.heap.size->Fo G φ' (Mem.set m ⟨e.key,L'.ak,H⟩) b->Fo G φ m b:=by
  rintro b BT (Ar|⟨x,J,As,AI,A_⟩)
  ·exact .inl Ar
  ·right;rcases (Mem.mem_set h.nodup).1 J with ⟨rfl,_⟩|⟨Au,AL⟩
   ·subst AY;simp at AI;subst AI;exact⟨e,he,L,V,AH b A_⟩
   ·subst AY;simp at AL;simp[AL]at AI;exact⟨x,Au,As,AI,A_⟩
 have AC:∀b,b<w.heap.size->¬Fo G φ m b->(w.setRow b0 T).heap[b]?=w.heap[b]?:=
  λb O AB=>oQ w b0 b T (λheq=>AB (.inr (heq▸BF)))
 exact Z φ' hle (λx v J=>J.mono hle AC (by simp) AZ) (λx v J=>J.mono AC (by simp) AZ)
theorem bx.store{φ G m w}(h:bx φ G m w){e:cJ}(he:e∈m){L:Loc}(V:φ e.key=some L)(A0:L.ak=e.ak){b0:Nat}(A7:e.cont.dc L b0)(T:Array Value)
 (AD:Nat) (Y:e.ak<=AD) (H:aH) (AH:∀b,H.dc {L with ak:=AD} b->e.cont.dc L b)
 (Z:∀φ':bW,φ.le φ'->(∀x v,aF φ w (Fo G φ m) x v->aF φ' (w.setRow b0 T) (Fo G φ' (Mem.set m ⟨e.key,AD,H⟩)) x v)->
  (∀x v,aQ w (Fo G φ m) x v->aQ (w.setRow b0 T) (Fo G φ' (Mem.set m ⟨e.key,AD,H⟩)) x v)->
  eA φ' (w.setRow b0 T) (Fo G φ' (Mem.set m ⟨e.key,AD,H⟩)) {L with ak:=AD} H):
 ∃φ',bx φ' G (Mem.set m ⟨e.key,AD,H⟩) (w.setRow b0 T)/\aX φ m w φ' (Mem.set m ⟨e.key,AD,H⟩) (w.setRow b0 T)/\φ' e.key=some {L with ak:=AD}/\∀k,k≠e.key->φ' k=φ k:=
 h.Jy he V A0 A7 T {L with ak:=AD} Y (λhh=>by simp at hh;cases L;simp_all) H AH Z
theorem bx.UP{φ G m w}(h:bx φ G m w){e:cJ}(he:e∈m){L:Loc}(V:φ e.key=some L)(A0:L.ak=e.ak)(M:World)(AR:M.heap=w.heap)(Av:M.os=w.os)(Aw:M.tape=w.tape)(Ax:M.output=w.output)
 (arr:Array Value) (elem:TypeId) (H:aH) (L':Loc) (Y:L'.ak=e.ak+1) (AH:∀b,H.dc L' b->e.cont.dc L b\/w.heap.size=b)
 (Z:∀φ':bW,φ.le φ'->(∀x v,aF φ w (Fo G φ m) x v->aF φ' (M.alloc (.cells arr elem)) (Fo G φ' (Mem.set m ⟨e.key,e.ak+1,H⟩)) x v)->
  (∀x v,aQ w (Fo G φ m) x v->aQ (M.alloc (.cells arr elem)) (Fo G φ' (Mem.set m ⟨e.key,e.ak+1,H⟩)) x v)->
  (M.alloc (.cells arr elem)).heap[w.heap.size]?=some (.cells arr elem (0,0))->(∀b,b<w.heap.size->(M.alloc (.cells arr elem)).heap[b]?=w.heap[b]?)->
  eA φ' (M.alloc (.cells arr elem)) (Fo G φ' (Mem.set m ⟨e.key,e.ak+1,H⟩)) L' H):
 ∃φ',bx φ' G (Mem.set m ⟨e.key,e.ak+1,H⟩) (M.alloc (.cells arr elem))/\aX φ m w φ' (Mem.set m ⟨e.key,e.ak+1,H⟩) (M.alloc (.cells arr elem))/\
  φ' e.key=some L'/\∀k,k≠e.key->φ' k=φ k:=by
 have hold:∀b,b<w.heap.size->(M.alloc (.cells arr elem)).heap[b]?=w.heap[b]?:=λb O=>by rw[RowKit.Below.heap_alloc M _ b (by rw[AR];exact O),AR]
 have A8:w.heap.size<=(M.alloc (.cells arr elem)).heap.size:=by simp[AR]
 refine h.dp (e':=⟨e.key,e.ak+1,H⟩) he V rfl (L':=L') (by rw[A0,Y];simp) (λhh=>by simp[A0,Y]at hh) Y
  (λb O _=>hold b O) A8 (λb O=>(AH b O).imp id (λe=>by omega)) Av Aw Ax ?_
 intro φ' AY hle;have AZ:∀b,b<w.heap.size->Fo G φ' (Mem.set m ⟨e.key,e.ak+1,H⟩) b->Fo G φ m b:=by
  rintro b O (Ar|⟨x,J,As,AI,A_⟩)
  ·exact .inl Ar
  ·right;rcases (Mem.mem_set h.nodup).1 J with ⟨rfl,_⟩|⟨Au,AL⟩
   ·subst AY;simp at AI;subst AI;rcases AH b A_ with AE|AE
    ·exact⟨e,he,L,V,AE⟩
    ·omega
   ·subst AY;simp at AL;simp[AL]at AI;exact⟨x,Au,As,AI,A_⟩
 refine Z φ' hle (λx v J=>J.mono hle (λb O _=>hold b O) A8 AZ) (λx v J=>J.mono (λb O _=>hold b O) A8 AZ) ?_ hold;have:=heap_alloc_new M (.cells arr elem);rwa [AR]at this
theorem bx.fresh{φ G m w}(h:bx φ G m w){e:cJ}(he:e∈m){L:Loc}(V:φ e.key=some L)(A0:L.ak=e.ak)(M:World)(AR:M.heap=w.heap)(Av:M.os=w.os)(Aw:M.tape=w.tape)(Ax:M.output=w.output)
 (arr:Array Value) (elem:TypeId) (sz cap:Nat) (H:aH) (AH:∀b,H.dc ⟨e.ak+1,w.heap.size,sz,cap,0,[]⟩ b->w.heap.size=b)
 (Z:∀φ':bW,φ.le φ'->(∀x v,aF φ w (Fo G φ m) x v->aF φ' (M.alloc (.cells arr elem)) (Fo G φ' (Mem.set m ⟨e.key,e.ak+1,H⟩)) x v)->
  (∀x v,aQ w (Fo G φ m) x v->aQ (M.alloc (.cells arr elem)) (Fo G φ' (Mem.set m ⟨e.key,e.ak+1,H⟩)) x v)->
  (M.alloc (.cells arr elem)).heap[w.heap.size]?=some (.cells arr elem (0,0))->
  eA φ' (M.alloc (.cells arr elem)) (Fo G φ' (Mem.set m ⟨e.key,e.ak+1,H⟩)) ⟨e.ak+1,w.heap.size,sz,cap,0,[]⟩ H):
 ∃φ',bx φ' G (Mem.set m ⟨e.key,e.ak+1,H⟩) (M.alloc (.cells arr elem))/\aX φ m w φ' (Mem.set m ⟨e.key,e.ak+1,H⟩) (M.alloc (.cells arr elem))/\
  φ' e.key=some ⟨e.ak+1,w.heap.size,sz,cap,0,[]⟩/\∀k,k≠e.key->φ' k=φ k:=
 h.UP he V A0 M AR Av Aw Ax arr elem H _ rfl (λb O=>.inr (AH b O)) (λφ' E A' AN A6 _=>Z φ' E A' AN A6)
def D.setCells(r:D)(j:Nat)(y:D):D:=.agg (bB r.cells j y.cells)
def EJ(P:Program)(t:TypeId)(k ak i j:Nat)(x:AV):Option cJ->dF
 |some ⟨_,v,.vv aj (some _)⟩=>match x with
  | .vec a b c d=>.dp (v=ak/\i=aj.length/\j=0/\fT P t=some 1) .bm ⟨k,ak,.vv aj (some (.vec a b c d))⟩
  |_=>.no
 |_=>.no
def pR(P:Program)(m:Mem)(t:TypeId)(p x:AV):dF:=
 match p with
 | .ptr k ak off=>match Mem.get m k with
  |some ⟨_,v,.box cs⟩=>.dp (v=ak/\x.lV=true/\fT P t=some x.cells.length/\off+x.cells.length<=cs.length) .bm ⟨k,ak,.box (bB cs off x.cells)⟩
  |_=>.no
 | .cS k ak i j=>match Mem.get m k,x.norm with
  |some ⟨_,v,.vec sz aj⟩,.d y=>match tk P t with
   | .struct=>.dp (v=ak/\i<aj.length/\fT P t=some sz/\y.size=sz/\j=0) .bm ⟨k,ak,.vec sz (aj.set i y)⟩
   |_=>match sz with
    |1=>.dp (v=ak/\i<aj.length/\fT P t=some 1/\y.size=1/\j=0) .bm ⟨k,ak,.vec 1 (aj.set i y)⟩
    |sz=>.dp (v=ak/\i<aj.length/\fT P t=some y.size/\j+y.size<=sz/\(D.at aj i).flat=false) .bm ⟨k,ak,.vec sz (aj.set i ((D.at aj i).setCells j y))⟩
  |e,_=>EJ P t k ak i j x e
 |_=>.no
theorem IZ{w w':World}{F F':Nat->Prop}{arr:Array Value}{aj:List D}{base sz cap i o:Nat}{us:List Value}{AF:D}{AG:Value}(A5:arr.size=base+cap*sz)(AS:aj.length<=cap)(hi:i<aj.length)
 (A7:base+i*sz<=o) (BU:o+us.length<=base+i*sz+sz)
 (AT:∀(n:Nat)(d:D),aj[n]?=some d->∃v,aQ w F d v/\∀(j:Nat)(c:Value),v.cells[j]?=some c->arr[base+n*sz+j]?=some c)
 (BG:∀d∈aj,d.size=sz)
 (hm:∀x v,aQ w F x v->aQ w' F' x v) (AM:aQ w' F' AF AG) (AU:AF.size=sz)
 (Ay:∀(j:Nat)(c:Value),AG.cells[j]?=some c->(bB arr.toList o us)[base+i*sz+j]?=some c):
 ∀(n:Nat)(d:D),(aj.set i AF)[n]?=some d->∃v,aQ w' F' d v/\∀(j:Nat)(c:Value),v.cells[j]?=some c->(bB arr.toList o us).toArray[base+n*sz+j]?=some c:=by
 have BH:base+i*sz+sz<=arr.size:=by
  have:i*sz+sz<=cap*sz:=by rw[<-agC];exact adt _ (by omega)
  omega
 intro n d A9;by_cases AB:n=i
 ·subst AB;simp[hi]at A9;subst A9;exact⟨AG,AM,λj c Aa=>by simpa using Ay j c Aa⟩
 ·rw[List.getElem?_set_ne (λh=>AB h.symm)]at A9;obtain⟨v,Y,BI⟩:=AT n d A9;refine⟨v,hm d v Y,λj c Aa=>?_⟩;have BV:j<sz:=by
   have E:=Y.size;rw[BG d (abk A9)]at E;have:=(adU.1 Aa).1;omega
  rw[af4,gZ arr.toList o us (by simp;omega)];have key:¬(o<=base+n*sz+j/\base+n*sz+j<o+us.length):=by
   rintro ⟨E,A'⟩;rcases Nat.lt_or_gt_of_ne AB with AO|BJ
   ·have:n*sz+sz<=i*sz:=by rw[<-agC];exact adt _ AO
    omega
   ·have:i*sz+sz<=n*sz:=by rw[<-agC];exact adt _ BJ
    omega
  have hh:=BI j c Aa;split
  ·simpa using hh
  ·rw[aa4 (by omega)];simpa using hh
theorem uo{P:Program}{t:TypeId}{w:World}{b o:Nat}{arr:Array Value}{elem:TypeId}{v:Value}(A5:fT P t=some v.cells.size)
 (A1:fu w b arr elem) (A4:o+v.cells.size<=arr.size) (E:∀x∈v.cells,cG x=true):
 (Instr.storeAt t (.pointer (some ⟨b,o,none⟩)) v).run P w=.ok () (w.setRow b (bB arr.toList o v.cells.toList).toArray):=by
 rw[Nl A5 A1 A4 E,dI _ _ _ (by simpa using A4)];simp
theorem Nn{w:World}{b:Nat}{arr:Array Value}{elem:TypeId}{fr}(A1:w.heap[b]?=some (.cells arr elem fr))(T:Array Value):(w.setRow b T).heap[b]?=some (.cells T elem fr):=setRow_heap w b arr T elem fr A1
theorem fu.setRow{w:World}{b:Nat}{arr:Array Value}{elem:TypeId}(A1:fu w b arr elem)(T:Array Value)(A5:T.size=arr.size):fu (w.setRow b T) b T elem:=by
 obtain⟨fr,E,A'⟩:=A1;exact⟨fr,Nn E T,by rw[A5];exact A'⟩
theorem lq{α:Type}{cs I:List α}{off:Nat}{x:α}(h:off+I.length<=cs.length)(J:x∈bB cs off I):x∈cs\/x∈I:=by
 rw[dI cs off I h]at J;simp only[abo]at J;rcases J with (J|J)|J
 ·exact .inl (afr J)
 ·exact .inr J
 ·exact .inl (adM J)
theorem UQ(P:Program)(S:St)(o:Oper)(t:TypeId)(p x:Operand)(A7:o.op=.store t p x)(Ab:(S.aq p).1=true)(J:(S.aq x).1=true){k ak i j:Nat}(AW:(S.aq p).2=.cS k ak i j):
 aN P S o (EJ P t k ak i j (S.aq x).2 (Mem.get S.mem k)):=by
 unfold EJ;split
 ·rename_i key v aj y A1;split
  ·rename_i a b c d AP;refine aN.sS ?_;rintro ⟨rfl,rfl,rfl,Ac⟩ φ G BK w A2;have AC:key=k:=(Mem.get_mem A1).2;subst AC;have Y:=A2.aq p Ab;have hu:=A2.aq x J;rw[AW]at Y;rw[AP]at hu;obtain⟨hm,_,L,V,A0,AQ⟩:=A2.mem.get A1;obtain⟨⟨B5,AS,A4⟩,BL,AL,Az⟩:=AQ;have e:=Y.lj V A0;simp only[Option.toList_some,afZ]at AS;have Ad:0<L.cap:=by omega
   obtain⟨arr,elem,hh,A8,E,BM,_⟩:=Az Ad;generalize B':BK.eval x=u at hu;have B0:cG u=true:=by cases hu;assumption
   have An:u.cells=#[u]:=ew B0;have A3:L.base+aj.length+[u].length<=arr.toList.length:=by simp;omega
   obtain⟨φ',Ae,Af,B6,Ag⟩:=A2.mem.store (e:=⟨key,v,.vv aj (some y)⟩) hm V A0 (b0:=L.dO) (.inl ⟨Ad,rfl⟩) (bB arr.toList (L.base+aj.length) [u]).toArray v (aa7 _) (.vv aj (some (.vec a b c d))) (λ_ O=>O) (λφ' B7 Ao AX=>by
    refine⟨⟨B5,by simpa using AS,A4⟩,BL,AL,λ_=>⟨_,elem,hh.setRow _ (by rw[afN,bX _ _ _ A3];simp),?_,?_,?_,?_⟩⟩
    ·rw[afN,bX _ _ _ A3];simpa using A8
    ·intro z U;rcases lq A3 (by simpa using U)with U|U
     ·exact E z (by simpa using U)
     ·simp at U;subst U;exact B0
    ·intro n xs q AB Ap;have BW:=(aa1.1 AB).1;have:=BM n xs q AB Ap;rw[show (bB arr.toList (L.base+aj.length) [u]).toArray[L.base+n]?=arr[L.base+n]? by
      rw[af4,gZ _ _ _ A3,abf (by omega)];simp]
     refine this.mono (λd u _ A9=>AX d u A9) (λb O=>?_);subst O;exact oQ w L.dO b _ (λheq=>(AL b (abk Ap)).2 heq)
    ·intro z U;cases U;refine⟨u,?_,Ao _ _ hu⟩;show (bB arr.toList (L.base+aj.length) [u]).toArray[L.base+aj.length]?=some u;rw[af4,gZ _ _ _ A3,aa4 (by omega),abf (by simp)];simp)
   refine⟨undef,_,φ',?_,.bm _,Ae,Af,Ag⟩;have B8:=uo (P:=P) (t:=t) (w:=w) (b:=L.dO) (o:=L.base+aj.length) (v:=u) (by rw[An];exact Ac) hh (by rw[An];simpa using A3) (by rw[An];simpa using B0);rw[An]at B8;refine .inr ⟨?_,rfl⟩;rw[B5,ajt,af5]at e;simp[execOp,A7,e,B',B8]
  ·trivial
 ·trivial
theorem Yy(P:Program)(S:St)(o:Oper)(t:TypeId)(p x:Operand)(A7:o.op=.store t p x)(Ab:(S.aq p).1=true)(J:(S.aq x).1=true):aN P S o (pR P S.mem t (S.aq p).2 (S.aq x).2):=by
 have B9:∀(a:Act)(w w':World),(Instr.storeAt t (a.eval p) (a.eval x)).run P w=.ok () w'->EH P o a w undef w':=by
  intro a w w' h;exact .inr ⟨by simp[execOp,A7,h],rfl⟩
 unfold pR;split
 ·rename_i k ak off AW;split
  ·rename_i key v cs A1;refine aN.sS ?_;rintro ⟨rfl,BN,Ac,hle⟩ φ G a w A2;have Y:=A2.aq p Ab;have AP:=A2.aq x J;rw[AW]at Y;obtain⟨hm,AC,L,V,A0,B1,arr,elem,hh,A8,E,AT⟩:=A2.mem.get A1;have e:=Y.se V A0;obtain⟨Aq,B2⟩:=AP.lV BN;simp only at AC;subst AC;have A3:off+(a.eval x).cells.toList.length<=arr.toList.length:=by simp only[adF,Aq,A8];exact hle
   obtain⟨φ',Ae,Af,B6,Ag⟩:=A2.mem.store (e:=⟨key,v,.box cs⟩) hm V A0 rfl (bB arr.toList off (a.eval x).cells.toList).toArray v (aa7 _) (.box (bB cs off (S.aq x).2.cells)) (λ_ O=>O) (λφ' B7 Ao AX=>by
    refine⟨⟨B1.1,B1.2.1,by rw[bX _ _ _ hle];exact B1.2.2⟩,_,elem,hh.setRow _ (by show (bB arr.toList _ _).length=_;rw[bX _ _ _ A3];simp),?_,?_,?_⟩
    ·rw[bX _ _ _ hle,<-A8];show (bB arr.toList off _).length=_;rw[bX _ _ _ A3];simp
    ·intro u hu;rcases lq A3 (by simpa using hu)with hu|hu
     ·exact E u (by simpa using hu)
     ·exact B2 u (by simpa using hu)
    ·intro i c u Z hu;refine Ao c u ?_;exact um (vs:=arr.toList) (us:=(a.eval x).cells.toList) (by simp[A8]) (by simpa using Aq.symm) hle (λi c v h AE=>AT i c v h (by simpa using AE))
      (λi c v h AE=>AP.cells B2 Aq i c v h (by simpa using AE)) i c u Z (by simpa using hu))
   refine⟨undef,_,φ',B9 a w _ ?_,.bm _,Ae,Af,Ag⟩;rw[e];exact uo (by rw[Aq];exact Ac) hh (by omega) B2
  ·trivial
 ·rename_i k ak i j AW;have vec:∀(c:Prop)[Decidable c](sz:Nat)(aj:List D)(y AF:D)(v:Nat),Mem.get S.mem k=some ⟨k,v,.vec sz aj⟩->(S.aq x).2.norm=.d y->
   (c->v=ak/\i<aj.length/\fT P t=some y.size/\j+y.size<=sz/\((D.at aj i).size=sz->AF.size=sz)/\
    ∀w F (u v:Value),(D.at aj i).size=sz->aQ w F (D.at aj i) v->aQ w F y u->∃AG,aQ w F AF AG/\AG.cells.toList=bB v.cells.toList j u.cells.toList)->
   aN P S o (.dp (decide c) .bm ⟨k,ak,.vec sz (aj.set i AF)⟩):=by
   intro c _ sz aj y AF v A1 AA BO;refine aN.sS λZ φ G a w A2=>?_;obtain⟨rfl,AO,Ac,Aa,BP,BQ⟩:=BO Z;have Y:=A2.aq p Ab;have AP:=(A2.aq x J).norm;rw[AA]at AP;rw[AW]at Y;obtain⟨hm,AC,L,V,A0,Ah,AS,AU,Az⟩:=A2.mem.get A1;have e:=Y.lj V A0;have Ad:0<L.cap:=by omega
   obtain⟨arr,elem,hh,A8,E,AT⟩:=Az Ad;have BA:AF.size=sz:=BP (by rw[AU _ (abk (j9 AO)),Ah]);cases AP with
   |d _ u hu=>
    generalize B':a.eval x=u at hu;have Ai:u.cells.size=y.size:=hu.size;have BH:L.base+i*L.sz+L.sz<=arr.size:=by
     have:i*L.sz+L.sz<=L.cap*L.sz:=by rw[<-agC];exact adt _ (by omega)
     omega
    obtain⟨B3,BB,BC⟩:=AT i _ (j9 AO);have B4:B3.cells.size=L.sz:=by rw[BB.size];exact AU _ (abk (j9 AO))
    have A3:L.base+i*L.sz+j+u.cells.toList.length<=arr.toList.length:=by simp[Ai];omega
    obtain⟨φ',Ae,Af,B6,Ag⟩:=A2.mem.store (e:=⟨k,v,.vec sz aj⟩) hm V A0 ⟨Ad,rfl⟩ (bB arr.toList (L.base+i*L.sz+j) u.cells.toList).toArray v (aa7 _) (.vec sz (aj.set i AF)) (λ_ O=>O) (λφ' B7 Ao AX=>by
     refine⟨Ah,by simpa using AS,?_,λ_=>⟨_,elem,hh.setRow _ (by show (bB arr.toList _ _).length=_;rw[bX _ _ _ A3];simp),?_,?_,?_⟩⟩
     ·intro d A9;rcases List.mem_or_eq_of_mem_set A9 with A9|rfl
      ·exact AU d A9
      ·show _=L.sz;rw[Ah];exact BA
     ·show (bB arr.toList _ _).length=_;rw[bX _ _ _ A3];simpa using A8
     ·intro z U;rcases lq A3 (by simpa using U)with U|U
      ·exact E z (by simpa using U)
      ·exact hu.cells.2.1 z (by simpa using U)
     ·obtain⟨AG,Ay,BR⟩:=BQ _ _ u B3 (by rw[AU _ (abk (j9 AO)),Ah]) (AX _ _ BB) (AX _ _ hu);refine IZ (F:=Fo G φ S.mem) (base:=L.base) (cap:=L.cap) (sz:=L.sz) A8 AS AO (by omega) (by simp[Ai];omega) AT AU AX Ay (by rw[BA,Ah]) ?_;intro q c Ap;have AJ:(bB B3.cells.toList j u.cells.toList)[q]?=some c:=by rw[<-BR];simpa using Ap
      have BX:q<L.sz:=by
       have:=(aa1.1 AJ).1;rw[bX _ _ _ (by simp[Ai,B4];omega)]at this;simpa [B4]using this
      rw[gZ _ _ _ (by simp[Ai,B4];omega)]at AJ;rw[gZ _ _ _ A3];by_cases E:q<j
      ·rw[abf E]at AJ;rw[abf (by omega)];simpa using BC q c (by simpa using AJ)
      ·rw[aa4 E]at AJ;rw[aa4 (by omega)];by_cases A':q<j+u.cells.toList.length
       ·rw[abf A']at AJ;rw[abf (by omega)];rw[show L.base+i*L.sz+q-(L.base+i*L.sz+j)=q-j by omega];exact AJ
       ·rw[aa4 A']at AJ;rw[aa4 (by omega)];simpa using BC q c (by simpa using AJ))
    refine⟨undef,_,φ',B9 a w _ ?_,.bm _,Ae,Af,Ag⟩;rw[e,B'];exact uo (by rw[Ai];exact Ac) hh (by simpa using A3) hu.cells.2.1
  have whole:∀(y r:D),y.size=r.size->∀w F (u v:Value),aQ w F r v->aQ w F y u->∃AG,aQ w F y AG/\AG.cells.toList=bB v.cells.toList 0 u.cells.toList:=by
   intro y r BY w F u v A2 AA;refine⟨u,AA,?_⟩;have E:=A2.size;have A':=AA.size;rw[dI _ _ _ (by simp;omega)];simp;omega
  split
  ·rename_i key v sz aj y A1 AA;have AC:key=k:=(Mem.get_mem A1).2;subst AC;split
   ·exact vec _ sz aj y y v A1 AA (λ⟨E,A',AN,A6,Aj⟩=>⟨E,A',by rw[A6];exact AN,by omega,λ_=>A6,by
     subst Aj;intro w F u v A5 AM Ak;exact whole y _ (by rw[A5,A6]) w F u v AM Ak⟩)
   ·split
    ·exact vec _ 1 aj y y v A1 AA (λ⟨E,A',AN,A6,Aj⟩=>⟨E,A',by rw[A6];exact AN,by omega,λ_=>A6,by
      subst Aj;intro w F u v A5 AM Ak;exact whole y _ (by rw[A5,A6]) w F u v AM Ak⟩)
    ·refine vec _ sz aj y _ v A1 AA (λ⟨E,A',AN,A6,Aj⟩=>⟨E,A',AN,A6,?_,?_⟩)
     ·intro AK;show (bB _ _ _).length=sz;rw[bX _ _ _ (by rw[D.gC,D.gC,AK];exact A6),D.gC,AK]
     ·intro w F u v A5 AM Ak;obtain⟨BS,rfl⟩:=wP AM Aj;have AQ:=AM.cells;have Al:=Ak.cells;have A4:j+y.cells.length<=(D.at aj i).cells.length:=by rw[D.gC,D.gC,A5];exact A6
      refine⟨.agg (bB BS.toList j u.cells.toList).toArray,.pk ?_ ?_ ?_,by simp[Value.cells]⟩
      ·have AK:=AQ.1;simp only[Value.cells]at AK;rw[bX _ _ _ A4,bX _ _ _ (by rw[Al.1,AK];exact A4),<-AK]
      ·intro z U;have AK:=AQ.1;simp only[Value.cells]at AK;rcases lq (by rw[Al.1,AK];exact A4) U with U|U
       ·exact AQ.2.1 z (by simpa [Value.cells]using U)
       ·exact Al.2.1 z (by simpa using U)
      ·exact um (by simpa [Value.cells]using AQ.1.symm) (by simpa using Al.1.symm) A4 (λi c v h AE=>(AQ.2.2 i c v h (by simpa [Value.cells]using AE)).1) (λi c v h AE=>(Al.2.2 i c v h (by simpa using AE)).1)
  ·exact UQ P S o t p x A7 Ab J AW
 ·trivial
theorem iM(P:Program)(w:World)(e:TypeId)(cs:Array Value):(newRow e cs).run P w=.ok ⟨w.heap.size,0,none⟩ (w.alloc (.cells cs e)):=rfl
def keyOf(o:Oper):Nat:=100+50*o.dst.getD 100000
def vE(P:Program)(t:TypeId):Option (List AV):=
 match P.info? t with
 |some i=>match i.zero with
  |some z=>if z.cells.all cG then some (z.cells.toList.map nH)else none
  |none=>none
 |none=>none
theorem pn{P:Program}{t:TypeId}{zs:List AV}(h:vE P t=some zs)(w:World):∃z,(zeroValue t).run P w=.ok z w/\z.cells.size=zs.length/\(∀v∈z.cells,cG v=true)/\
 ∀φ w' F (i:Nat) c v,zs[i]?=some c->z.cells[i]?=some v->aF φ w' F c v:=by
 unfold vE at h;split at h
 ·rename_i i hi;split at h
  ·rename_i z A1;split at h
   ·rename_i AO;simp at h;subst h;refine⟨z,by simp[zeroValue,typeInfo,hi,A1],by simp,?_,?_⟩
    ·intro v E;exact Array.all_eq_true'.1 AO v E
    ·intro φ w' F i c v O E;simp only[adz,agh,aba]at O;obtain⟨u,hu,rfl⟩:=O;rw[E]at hu;cases hu;exact CS ..
   ·cases h
  ·cases h
 ·cases h
def sU(m:Mem)(k:Nat)(c:Bool)(cs:List AV):dF:=
 match Mem.get m k with
 |some ⟨_,v,_⟩=>.dp c (.ptr k (v+1) 0) ⟨k,v+1,.box cs⟩
 |none=>.no
theorem NY{P:Program}{S:St}{o:Oper}{k:Nat}{c:Bool}{cs:List AV}
 (h:c=true->∀φ G a w,Rel φ G S a w->∃(arr:Array Value)(elem:TypeId),(execOp a.eval o).run P w=.ok (.value (.pointer (some ⟨w.heap.size,0,none⟩))) (w.alloc (.cells arr elem))/\
  arr.size=cs.length/\(∀v∈arr,cG v=true)/\∀(i:Nat) c v,cs[i]?=some c->arr[i]?=some v->aF φ w (Fo G φ S.mem) c v):aN P S o (sU S.mem k c cs):=by
 unfold sU;split
 ·rename_i key v cont AP;intro O φ G a w Y;obtain⟨arr,elem,A2,T,J,y⟩:=h O φ G a w Y;obtain⟨hm,A5,L,AQ,AI,_⟩:=Y.mem.get AP;simp only at A5 AI;subst A5;obtain⟨φ',AR,AS,AT,AU⟩:=Y.mem.fresh (e:=⟨key,v,cont⟩) hm AQ AI w rfl rfl rfl rfl arr elem 1 cs.length (.box cs) (λ_ A7=>A7) (λφ' hle AW Ah AX=>
   ⟨⟨rfl,rfl,rfl⟩,arr,elem,fu.new AX,T,J,λi c u O hu=>AW c u (y i c u O hu)⟩)
  exact⟨_,_,φ',.inl A2,.ptr key (v+1) 0 _ _ AT (aa7 _) (λ_=>rfl) rfl,AR,AS,AU⟩
 ·trivial
theorem afu(P:Program)(S:St)(o:Oper)(t:TypeId)(x:Operand)(AB:o.op=.box t x)(A3:(S.aq x).1=true):aN P S o (sU S.mem (keyOf o) (S.aq x).2.lV (S.aq x).2.cells):=by
 refine NY λA' φ G a w Y=>?_;have E:=Y.aq x A3;obtain⟨J,U⟩:=E.lV A';refine⟨(a.eval x).cells,t,?_,J,U,E.cells U J⟩;simp[execOp,AB,Instr.box,newVar,iM]
theorem JA(P:Program)(S:St)(o:Oper)(t:TypeId)(AB:o.op=.alloc t)(zs:List AV)(A1:vE P t=some zs):aN P S o (sU S.mem (keyOf o) true zs):=by
 refine NY λ_ φ G a w Y=>?_;obtain⟨z,A2,T,J,y⟩:=pn A1 w;refine⟨z.cells,t,?_,T,J,λi c v O E=>y _ _ _ i c v O E⟩;simp[execOp,AB,Instr.alloc,newVar,iM,A2]
def m8(P:Program)(t:TypeId):Option D:=
 match vE P t,(tk P t).agg with
 |some zs,true=>(toDsN zs).map .agg
 |some [z],false=>toD1 z
 |_,_=>none
def Ay(P:Program)(t:TypeId):Option Nat:=(P.info? t).map (·.bytes)
theorem EK{P:Program}{t:TypeId}{d:D}(h:m8 P t=some d)(w:World):∃z,(zeroValue t).run P w=.ok z w/\z.cells.size=d.size/\(∀v∈z.cells,cG v=true)/\
 ∀w' F,∃v,aQ w' F d v/\v.cells=z.cells:=by
 unfold m8 at h;split at h
 ·rename_i zs A1 AY;simp only[aba]at h;obtain⟨AC,AZ,rfl⟩:=h;obtain⟨z,A2,T,J,y⟩:=pn A1 w;have A4:∀w' F,zs.length=AC.length/\∀(i:Nat) d v,AC[i]?=some d->z.cells.toList[i]?=some v->aQ w' F d v:=λw' F=>
   toDsN_rel (φ:=λ_=>none) (w:=w') (F:=F) (vs:=z.cells.toList) AZ (λi c v O E=>y _ _ _ i c v O (by simpa using E))
  refine⟨z,A2,by rw[T,(A4 w (λ_=>False)).1];rfl,J,λw' F=>⟨.agg z.cells,?_,rfl⟩⟩;have:=aQ.pk (w:=w') (F:=F) (cs:=AC) (vs:=z.cells.toList) (by rw[<-(A4 w' F).1];simpa using T.symm) (λv E=>J v (by simpa using E)) (A4 w' F).2;simpa using this
 ·rename_i z0 A1 AY;obtain⟨z,A2,T,J,y⟩:=pn A1 w;obtain⟨u,hu⟩:∃u,z.cells=#[u]:=by
   have:z.cells.size=1:=T;exact⟨z.cells[0],by apply Array.ext<;>simp_all⟩
  have H:∀w' F,aQ w' F d u:=λw' F=>toD1_rel (φ:=λ_=>none) h (y _ _ _ 0 z0 u (by simp) (by simp[hu]));have AJ:cG u=true:=J u (by simp[hu]);refine⟨z,A2,by rw[hu,<-(H w (λ_=>False)).size,ew AJ],J,λw' F=>⟨u,H w' F,by rw[ew AJ,hu]⟩⟩
 ·cases h
def cy(w:World)(F:Nat->Prop)(sz:Nat)(aj:List D)(cs:List Value):Prop:=
 cs.length=aj.length*sz/\(∀v∈cs,cG v=true)/\(∀d∈aj,d.size=sz)/\∀(i:Nat) d,aj[i]?=some d->∃v,aQ w F d v/\∀(j:Nat) c,v.cells[j]?=some c->cs[i*sz+j]?=some c
theorem xB{sz:Nat}{w:World}{F:Nat->Prop}{d:D}{v:Value}(h:aQ w F d v)(A':d.size=sz){j:Nat}{c:Value}(I:v.cells[j]?=some c):j<sz:=by
 have J:=h.size;have:=(adU.1 I).1;omega
theorem cy.append{w F sz xs AD cs AK}(h:cy w F sz xs cs)(A_:cy w F sz AD AK):cy w F sz (xs++AD) (cs++AK):=by
 obtain⟨Z,a2,a3,a4⟩:=h;obtain⟨Aa,Ab,Ac,Ad⟩:=A_;refine⟨by simp[Z,Aa,afP],?_,?_,?_⟩
 ·intro v E;rcases abo.1 E with E|E;exact a2 v E;exact Ab v E
 ·intro v E;rcases abo.1 E with E|E;exact a3 v E;exact Ac v E
 ·intro i d H;by_cases hi:i<xs.length
  ·rw[abl hi]at H;obtain⟨v,E,V⟩:=a4 i d H;refine⟨v,E,λj c I=>?_⟩;have A8:=xB E (a3 d (abk H)) I;rw[abl]
   ·exact V j c I
   ·rw[Z];have:i*sz+sz<=xs.length*sz:=by rw[<-agC];exact adt _ hi
    omega
  ·rw[abq (by omega)]at H;obtain⟨v,E,V⟩:=Ad _ d H;refine⟨v,E,λj c I=>?_⟩;have e:xs.length*sz+(i-xs.length)*sz=i*sz:=by rw[<-afP];congr 1;omega
   rw[abq (by rw[Z];omega),Z,show i*sz+j-xs.length*sz=(i-xs.length)*sz+j by omega];exact V j c I
theorem cy.take{w F sz xs cs}(h:cy w F sz xs cs)(n:Nat)(AL:n<=xs.length):cy w F sz (xs.take n) (cs.take (n*sz)):=by
 obtain⟨Z,a2,a3,a4⟩:=h;have hle:n*sz<=xs.length*sz:=adt _ AL;refine⟨by simp only[agA,Z];rw[ajm AL,ajm hle],λv E=>a2 v (afr E),λv E=>a3 v (afr E),?_⟩;intro i d H;rw[ads]at H;split at H
 ·rename_i hi;obtain⟨v,E,V⟩:=a4 i d H;refine⟨v,E,λj c I=>?_⟩;have A8:=xB E (a3 d (abk H)) I;have:i*sz+sz<=n*sz:=by rw[<-agC];exact adt _ hi
  rw[ads,abf (by omega)];exact V j c I
 ·cases H
theorem cy.drop{w F sz xs cs}(h:cy w F sz xs cs)(n:Nat):cy w F sz (xs.drop n) (cs.drop (n*sz)):=by
 obtain⟨Z,a2,a3,a4⟩:=h;refine⟨by simp[Z,Nat.sub_mul],λv E=>a2 v (adM E),λv E=>a3 v (adM E),?_⟩;intro i d H;rw[adK]at H;obtain⟨v,E,V⟩:=a4 _ d H;refine⟨v,E,λj c I=>?_⟩;rw[adK,show n*sz+(i*sz+j)=(n+i)*sz+j by rw[afP];omega];exact V j c I
theorem cy.mono{w F w' F' sz xs cs}(h:cy w F sz xs cs)(hm:∀x v,aQ w F x v->aQ w' F' x v):cy w' F' sz xs cs:=
 ⟨h.1,h.2.1,h.2.2.1,λi d H=>let ⟨v,E,O⟩:=h.2.2.2 i d H;⟨v,hm _ _ E,O⟩⟩
theorem cy.nil(w F sz):cy w F sz [] []:=⟨by simp,by simp,by simp,by simp⟩
theorem ur{φ w F}{L:Loc}{aj:List D}{pre cs rest:List Value}{sz:Nat}{elem:TypeId}(T:L.sz=sz)(Y:cy w F sz aj cs)(Ae:pre.length=L.base)(A0:∀v∈pre,cG v=true)(J:∀v∈rest,cG v=true)
 (A6:aj.length<=L.cap) (A4:(cs++rest).length=L.cap*sz) (hh:0<L.cap->fu w L.dO (pre++(cs++rest)).toArray elem):eA φ w F L (.vec sz aj):=by
 obtain⟨Z,a2,a3,a4⟩:=Y;subst T;refine⟨rfl,A6,a3,λO=>⟨_,elem,hh O,by simp only[afN,aa9]at A4⊢;omega,?_,?_⟩⟩
 ·intro v E;simp at E;rcases E with E|E|E
  ·exact A0 v E
  ·exact a2 v E
  ·exact J v E
 ·intro i d H;obtain⟨v,E,V⟩:=a4 i d H;refine⟨v,E,λj c I=>?_⟩;have A8:=xB E (a3 d (abk H)) I;have AE:i<aj.length:=(aa1.1 H).1;have:i*L.sz+L.sz<=aj.length*L.sz:=by rw[<-agC];exact adt _ AE
  rw[af4,abq (by omega),Ae,show L.base+i*L.sz+j-L.base=i*L.sz+j by omega,abl (by rw[Z];omega)];exact V j c I
theorem wR{φ w F}{L:Loc}{aj:List D}{cs rest:List Value}{sz:Nat}{elem:TypeId}(T:L.sz=sz)(A7:L.base=0)(Y:cy w F sz aj cs)(J:∀v∈rest,cG v=true)
 (A6:aj.length<=L.cap) (A4:(cs++rest).length=L.cap*sz) (hh:0<L.cap->fu w L.dO (cs++rest).toArray elem):eA φ w F L (.vec sz aj):=
 ur (pre:=[]) T Y (by simp[A7]) (by simp) J A6 A4 hh
theorem oy{φ w F}{L:Loc}{aj:List D}{sz:Nat}(h:eA φ w F L (.vec sz aj))(O:0<L.cap):∃(arr:Array Value)(elem:TypeId),fu w L.dO arr elem/\arr.size=L.base+L.cap*sz/\
 (∀v∈arr,cG v=true)/\cy w F sz aj ((arr.toList.drop L.base).take (aj.length*sz)):=by
 obtain⟨A',A6,AM,A9⟩:=h;obtain⟨arr,elem,hh,T,J,y⟩:=A9 O;subst A';refine⟨arr,elem,hh,T,J,?_,λv E=>J v (by simpa using adM (afr E)),AM,?_⟩
 ·simp only[agA,ags,adF,T];exact ajm (by rw[Nat.add_sub_cancel_left];exact adt _ A6)
 ·intro i d H;obtain⟨v,E,V⟩:=y i d H;refine⟨v,E,λj c I=>?_⟩;have A8:=xB E (AM d (abk H)) I;have AE:i<aj.length:=(aa1.1 H).1;have:i*L.sz+L.sz<=aj.length*L.sz:=by rw[<-agC];exact adt _ AE
  rw[ads,abf (by omega),adK,<-adB];simpa using V j c I
theorem JB{w F}{xs:List D}{ao:Option Addr}{m cap sz:Nat}(h:aQ w F (.list xs) (.slice ao m cap))(A':∀d∈xs,d.size=sz):
 m=xs.length/\∃cs,cy w F sz xs cs/\(xs≠[]->∃b off,ao=some ⟨b,off,none⟩/\b<w.heap.size/\¬F b/\∀(j:Nat) v,cs[j]?=some v->w.cell? ⟨b,off+j,none⟩=some v):=by
 generalize A3:D.list xs=x at h;generalize E:Value.slice ao m cap=v at h;cases h with
 |nil a c=>
  simp at A3 E;subst A3;exact⟨by simp[E.2.1],[],cy.nil ..,λh=>absurd rfl h⟩
 |list AD b off Ai M vs A6 A7 Af T AF O=>
  simp at A3 E;obtain⟨rfl,rfl,rfl⟩:=E;subst A3;refine⟨rfl,?_⟩
  --Aj cells,row by row
  have AG:xs≠[]->M=sz:=λAA=>by
   cases xs with
   |nil=>exact absurd rfl AA
   |cons d r=>rw[<-T d (by simp),A' d (by simp)]
  by_cases AA:xs=[]
  ·subst AA;exact⟨[],cy.nil ..,λh=>absurd rfl h⟩
  have AG:=AG AA;subst AG;have A9:∀(i j:Nat),i<xs.length->j<M->∃c,(vs i).cells[j]?=some c/\w.cell? ⟨b,off+(i*M+j),none⟩=some c/\cG c=true:=by
   intro i j hi I;have J:=AF i xs[i] (by simp[hi]);have U:=J.size;rw[A' _ (af8 hi)]at U;have AN:j<(vs i).cells.size:=by omega
   refine⟨(vs i).cells[j],by simp[AN],?_,J.cells.2.1 _ (by simp)⟩;have:=O i j _ hi (show (vs i).cells[j]?=some (vs i).cells[j] by simp[AN]);rw[<-adB];exact this
  refine⟨(List.range (xs.length*M)).map (λj=>(w.cell? ⟨b,off+j,none⟩).getD undef),⟨by simp,?_,A',?_⟩,λ_=>⟨b,off,rfl,A7,Af,?_⟩⟩
  ·intro v E;simp only[abz,adG]at E;obtain⟨j,I,rfl⟩:=E;have AH:0<M:=by rcases ajK M with A0|A0;simp[A0]at I;exact A0
   obtain⟨c,_,U,Ag⟩:=A9 (j/M) (j%M) (Nat.div_lt_of_lt_mul (by rw[Nat.mul_comm];exact I)) (Nat.mod_lt _ AH);rw[Nat.mul_comm,Nat.div_add_mod]at U;simp[U,Ag]
  ·intro i d H;have hi:i<xs.length:=(aa1.1 H).1;refine⟨vs i,AF i d H,λj c I=>?_⟩;have A8:=xB (AF i d H) (A' d (abk H)) I;obtain⟨Ak,J,U,_⟩:=A9 i j hi A8;rw[I]at J;cases J;have:i*M+M<=xs.length*M:=by rw[<-agC];exact adt _ hi
   simp[U,show i*M+j<xs.length*M by omega]
  ·intro j v E;simp only[adz,aba]at E;obtain⟨k,A5,rfl⟩:=E;have I:j<xs.length*M:=by
    rcases Nat.lt_or_ge j (xs.length*M)with h|h
    ·exact h
    ·simp[age (l:=List.range (xs.length*M)) (by simpa using h)]at A5
   simp[I]at A5;subst A5;have AH:0<M:=by rcases ajK M with A0|A0;simp[A0]at I;exact A0
   obtain⟨c,_,U,_⟩:=A9 (j/M) (j%M) (Nat.div_lt_of_lt_mul (by rw[Nat.mul_comm];exact I)) (Nat.mod_lt _ AH);rw[Nat.mul_comm,Nat.div_add_mod]at U;simp[U]
 |_=>simp at A3
def il(m:Mem)(sz:Nat):AV->Option (Bool×List D)
 | .d (.list I)=>some (true,I)
 | .d (.str s)=>some (sz=1,s.map λb=>.int .u8 b.toNat)
 | .lit (.slice none 0 0)=>some (true,[])
 | .nn=>some (true,[])
 | .vec k ak off len=>match Mem.get m k with
  |some ⟨_,v,.vec _ aj⟩=>some (v=ak/\off+len<=aj.length,(aj.drop off).take len)
  |_=>none
 |_=>none
structure I7(P:Program)(w:World)(F:Nat->Prop)(sz:Nat)(I:List D)(x:Value)(M:List Value):Prop where
 len:∀w',(Builtin.lenOf x).run P w'=.ok I.length w'
 UT:∀n,n<=I.length->∀w',(∀b,b<w.heap.size->w'.heap[b]?=w.heap[b]?)->(Builtin.firstCells sz n x).run P w'=.ok (M.take (n*sz)).toArray w'
 aj:cy w F sz I M
theorem I7.first{P w F sz I x M}(h:I7 P w F sz I x M)(w':World)(hw:∀b,b<w.heap.size->w'.heap[b]?=w.heap[b]?):(Builtin.firstCells sz I.length x).run P w'=.ok M.toArray w':=by
 rw[h.UT _ (aa7 _) w' hw,aiC (by rw[h.aj.1];exact aa7 _)]
theorem JC{P:Program}{S:St}{φ G w}(hm:bx φ G S.mem w){x:AV}{v:Value}(T:aF φ w (Fo G φ S.mem) x v){c I}{sz:Nat}(H:il S.mem sz x=some (c,I))(Y:c=true)(A0:∀d∈I,d.size=sz):
 ∃M,I7 P w (Fo G φ S.mem) sz I v M:=by
 unfold il at H;split at H
 ·rename_i A2;simp at H;obtain⟨_,rfl⟩:=H;cases T with
  |d _ _ h=>
   have Z:∃ao m cap,v=.slice ao m cap:=by cases h<;>exact⟨_,_,_,rfl⟩
   obtain⟨ao,m,cap,rfl⟩:=Z;obtain⟨rfl,cs,O,A8⟩:=JB h A0;refine⟨cs,⟨λw'=>by simp[Builtin.lenOf],λn J w' hw=>?_,O⟩⟩;by_cases A3:A2=[]
   ·subst A3;have:cs=[]:=abv (by simpa using O.1);subst this;have U:n=0:=by simpa using J
    subst U;cases ao with
    |none=>simp[Builtin.firstCells]
    |some a=>simp[Builtin.firstCells,loadCells,loadCellsFrom]
   ·obtain⟨b,off,rfl,V,_,A9⟩:=A8 A3;exact run_firstCells_some (P:=P) w' sz n ⟨b,off,none⟩ A2.length cap _ (O.take n J |>.1.trans (by simp[J])) (λj u E=>by
     rw[fU,kE (hw b V)];rw[ads]at E;split at E
     ·exact A9 j u E
     ·cases E)
 ·rename_i s;simp only[abp,adI]at H;obtain⟨rfl,rfl⟩:=H;simp only[aa8]at Y;subst Y;cases T with
  |d _ _ h=>
   cases h with
   |str b _ V=>
    subst V;have AA:b.size=b.data.toList.length:=by rw[adF];rfl
    refine⟨b.data.toList.map λx=>Value.int .u8 x.toNat,⟨λw'=>by simp only[Builtin.lenOf,List.length_map,<-AA];rfl,λn J w' _=>?_,?_,?_,?_,?_⟩⟩
    ·simp only[Builtin.firstCells,Sem.run_pure];congr 1;apply Array.ext';simp
    ·simp
    ·intro v Z;simp only[abz]at Z;obtain⟨y,_,rfl⟩:=Z;rfl
    ·exact A0
    ·intro i d A4;simp only[adz,aba]at A4;obtain⟨y,AB,rfl⟩:=A4;refine⟨.int .u8 y.toNat,.int _ _,λj c E=>?_⟩;cases j with
     |zero=>simp only[Value.cells]at E;simp at E;subst E;simp only[adz,ajt,af5,AB];rfl
     |succ j=>simp[Value.cells]at E
 ·simp at H;obtain⟨_,rfl⟩:=H;cases T with
  |lit=>exact⟨[],⟨λw'=>by simp[Builtin.lenOf],λn _ w' _=>by simp[Builtin.firstCells],cy.nil ..⟩⟩
 ·simp at H;obtain⟨_,rfl⟩:=H;cases T with
  |nn a cap=>exact⟨[],⟨λw'=>by simp[Builtin.lenOf],λn J w' _=>by
   have U:n=0:=by simpa using J
   subst U;simp[Builtin.firstCells,loadCells,loadCellsFrom],cy.nil ..⟩⟩
 ·rename_i k ak off len;split at H
  ·rename_i key AN A1 aj AC;simp only[abp,adI]at H;obtain⟨rfl,rfl⟩:=H;simp only[aa8]at Y;obtain⟨rfl,hle⟩:=Y;obtain⟨AO,AP,L,AD,AE,A5⟩:=hm.get AC;have AF:((aj.drop off).take len).length=len:=by simp;omega
   cases T with
   |vec _ _ _ _ _ L' A6 _ h AG=>
    rw[AD]at A6;cases A6;obtain⟨ao,cap,rfl,AQ,AH⟩:=h AE.symm;clear h AG;by_cases AI:len=0
    ·subst AI;refine⟨[],⟨λw'=>by simp[Builtin.lenOf],λn J w' _=>?_,by simpa using cy.nil ..⟩⟩;have U:n=0:=by simpa using J
     subst U;cases ao with
     |none=>simp[Builtin.firstCells]
     |some a=>simp[Builtin.firstCells,loadCells,loadCellsFrom]
    ·obtain⟨rfl,AR⟩:=AH (by omega);obtain⟨arr,elem,hh,AS,AT,O⟩:=oy A5 (by omega);have AJ:A1=sz:=by
      have A':0<((aj.drop off).take len).length:=by omega
      have AK:=A0 (((aj.drop off).take len)[0]'A') (af8 A')
      have AL:=O.2.2.1 (((aj.drop off).take len)[0]'A') (adM (afr (af8 A')))
      rw[<-AK,<-AL]
     subst AJ;have AM:L.sz=A1:=A5.1;have A7:=(O.drop off).take len (by simp;omega);refine⟨_,⟨λw'=>by simp[Builtin.lenOf,AF],λn J w' hw=>?_,A7⟩⟩;have V:L.dO<w.heap.size:=hh.lt;exact run_firstCells_some (P:=P) w' A1 n ⟨L.dO,L.base+off*L.sz,none⟩ len cap _ ((A7.take n J).1.trans (by rw[agA,ajm J])) (λj u E=>by
      rw[fU,kE (hw L.dO V),gY hh,AM];rw[ads]at E;split at E
      ·rw[ads]at E;split at E
       ·rw[adK,ads]at E;split at E
        ·rw[adK]at E;rw[adB];simpa using E
        ·cases E
       ·cases E
      ·cases E)
  ·cases H
 ·cases H
section
variable {P:Program}
def fw(P:Program)(u:TypeId):Bool:=
 match P.underlying u with
 |some (.slice _)=>true
 |some .string=>true
 |_=>false
theorem AA{u:TypeId}(h:fw P u=true):(∃e,P.underlying u=some (.slice e))\/P.underlying u=some .string:=by
 unfold fw at h;split at h
 ·rename_i e V;exact .inl ⟨e,V⟩
 ·rename_i V;exact .inr V
 ·cases h
structure GG(P:Program)(w:World)(F:Nat->Prop)(u:TypeId)(sz:Nat)(z:Value)(E:List D)(x:Value)(J:List Value):Prop where
 aj:cy w F sz E J
 kind:(fw P u=true/\I7 P w F sz E x J)\/((∃k,P.underlying u=some (.int k))/\(∃AZ,x=.int AZ E.length)/\E.length<=4611686018427387904/\z.cells.size=sz/\J=(Builtin.zeroCells z.cells E.length).toList)
theorem JE{n:Nat}(h:n<=4611686018427387904):IntKind.i64.wrap (n:Int)=(n:Int):=IntWalk.i64_in _ (by omega)
theorem xC{z:Array Value}{n:Nat}(h:n*z.size=0):Builtin.zeroCells z n=#[]:=by
 apply Array.eq_empty_of_size_eq_zero;rw[size_zeroCells];exact h
theorem sg{w:World}{t u ty e:TypeId}{i:TypeInfo}{z:Value}(A0:P.underlying t=some (.slice e))(hi:P.info? e=some i)(U:i.zero=some z)
 {ao:Option Addr} {len cap:Nat} {F x J} (I:GG P w F u i.size z [] x J) (hle:len<=cap):
 (Builtin.append_ #[t,u] ty #[.slice ao len cap,x]).run P w=.ok (.slice ao len cap) w:=by
 rcases I.kind with ⟨hu,I⟩|⟨⟨k,V⟩,⟨AZ,rfl⟩,_,AC,rfl⟩
 ·have Y:J=[]:=abv (by simpa using I.aj.1);subst Y;have BM:=I.len w;have A_:=I.first w (λ_ _=>rfl);simp only[abn]at BM A_;rcases AA hu with ⟨Aa,V⟩|V<;>cases ao<;>
   simp[Builtin.append_,run_underlying A0,run_underlying V,sizeOf,typeInfo,hi,BM,A_,hle,storeCells]
 ·have w0:=JE (n:=0) (by omega);simp only[Int.ofNat_zero,Int.natCast_zero]at w0;cases ao<;>simp[Builtin.append_,run_underlying A0,run_underlying V,sizeOf,typeInfo,hi,w0,asInt,asIntOf,hle,storeCells]
theorem run_append_fits{w:World}{t u ty e:TypeId}{i:TypeInfo}{z:Value}(A0:P.underlying t=some (.slice e))(hi:P.info? e=some i)(U:i.zero=some z)
 {g b len cap:Nat} {F E x J} (I:GG P w F u i.size z E x J) {cur:Array Value} {e':TypeId} (AP:fu w g cur e')
 (A1:len+E.length<=cap) (B0:b+len*i.size+J.length<=cur.size) (Bi:E.length*i.bytes<=140737488355328):
 (Builtin.append_ #[t,u] ty #[.slice (some ⟨g,b,none⟩) len cap,x]).run P w=.ok (.slice (some ⟨g,b,none⟩) (len+E.length) cap) (w.setRow g (bB cur.toList (b+len*i.size) J).toArray):=by
 obtain⟨Bj,AP,Bk⟩:=AP;have Ab:=ka (P:=P) g (b+len*i.size) e' Bj J 0 cur w AP Bk (by simpa using B0) (λx AE=>o7 (I.aj.2.1 x AE));simp only[af5]at Ab;rw[dI _ _ _ (by simpa using B0)];rcases I.kind with ⟨hu,I⟩|⟨⟨k,V⟩,⟨AZ,rfl⟩,B1,AC,rfl⟩
 ·have A_:=I.first w (λ_ _=>rfl);rcases AA hu with ⟨Aa,V⟩|V<;>simp[Builtin.append_,run_underlying A0,run_underlying V,sizeOf,typeInfo,hi,I.len,A1,A_,fU,Ab]
 ·have wn:=JE B1;have A3:¬((E.length:Int)<0):=by omega
  have A7:¬(281474976710656<(E.length:Int)*(i.bytes:Int)):=by
   have:(E.length:Int)*(i.bytes:Int)=((E.length*i.bytes:Nat):Int):=by simp
   rw[this];omega
  by_cases A4:E.length*i.size=0
  ·have B2:=xC (z:=z.cells) (n:=E.length) (by rw[AC];exact A4);rw[B2]at Ab⊢;simp only[Array.toList_empty]at Ab;simp[Builtin.append_,run_underlying A0,run_underlying V,sizeOf,typeInfo,hi,wn,asInt,asIntOf,A3,A7,A4,A1,fU,Ab]
  ·simp[Builtin.append_,run_underlying A0,run_underlying V,sizeOf,typeInfo,zeroValue,hi,U,wn,asInt,asIntOf,A3,A7,A4,A1,fU,Ab]
theorem uv{w:World}{t u ty e:TypeId}{i:TypeInfo}{z:Value}(A0:P.underlying t=some (.slice e))(hi:P.info? e=some i)(U:i.zero=some z)
 {ao:Option Addr} {len cap:Nat} {F E x J} (I:GG P w F u i.size z E x J) (A5:List Value)
 (hold:∀w',w'.heap=w.heap->(Builtin.firstCells i.size len (.slice ao len cap)).run P w'=.ok A5.toArray w')
 (A1:cap<len+E.length) (CK:len+E.length<=9223372036854775807) (B0:Builtin.nextslicecap (len+E.length) cap*i.bytes<=281474976710656) (Bi:E.length*i.bytes<=140737488355328):
 (Builtin.append_ #[t,u] ty #[.slice ao len cap,x]).run P w=
  .ok (.slice (some ⟨w.heap.size,0,none⟩) (len+E.length) (grownCap w (len+E.length) cap e))
   (w.drew.alloc (.cells (A5.toArray++J.toArray++Builtin.zeroCells z.cells (grownCap w (len+E.length) cap e-(len+E.length))) e)):=by
 have Y:¬(len+E.length<=cap):=by omega
 have B3:¬(9223372036854775807<((len:Int)+(E.length:Int))):=by omega
 have B4:¬(281474976710656<Builtin.nextslicecap (len+E.length) cap*i.bytes):=by omega
 have B5:=hold w.drew rfl;rcases I.kind with ⟨hu,I⟩|⟨⟨k,V⟩,⟨AZ,rfl⟩,B1,AC,rfl⟩
 ·have A_:=I.first w.drew (λ_ _=>rfl);rcases AA hu with ⟨Aa,V⟩|V<;>
   (simp[Builtin.append_,run_underlying A0,run_underlying V,sizeOf,typeInfo,zeroValue,hi,U,I.len,Y,B3,B4,Question.forced,A_,B5,iM,grownCap]
    congr 2;apply Array.ext';simp[afw])
 ·have wn:=JE B1;have A3:¬((E.length:Int)<0):=by omega
  have A7:¬(281474976710656<(E.length:Int)*(i.bytes:Int)):=by
   have:(E.length:Int)*(i.bytes:Int)=((E.length*i.bytes:Nat):Int):=by simp
   rw[this];omega
  by_cases A4:E.length*i.size=0
  ·have B2:=xC (z:=z.cells) (n:=E.length) (by rw[AC];exact A4);rw[B2];simp[Builtin.append_,run_underlying A0,run_underlying V,sizeOf,typeInfo,zeroValue,hi,U,wn,asInt,asIntOf,A3,A7,A4,Y,B3,B4,Question.forced,B5,iM,grownCap]
  ·simp[Builtin.append_,run_underlying A0,run_underlying V,sizeOf,typeInfo,zeroValue,hi,U,wn,asInt,asIntOf,A3,A7,A4,Y,B3,B4,Question.forced,B5,iM,grownCap]
end
theorem sV{z:Array Value}{n:Nat}(h:∀v∈z,cG v=true):∀v∈Builtin.zeroCells z n,cG v=true:=by
 intro v Z;simp only[Builtin.zeroCells,Array.mem_map,Array.mem_range]at Z;obtain⟨i,hi,rfl⟩:=Z;have BN:0<z.size:=by
  rcases ajK z.size with A4|A4
  ·simp[A4]at hi
  ·exact A4
 have B6:i%z.size<z.size:=Nat.mod_lt _ BN;rw[getElem!_pos z _ B6];exact h _ (by simp)
theorem adY{P:Program}{t:TypeId}{k}(h:tk P t=.int k):P.underlying t=some (.int k):=by
 unfold tk at h;split at h<;>simp_all
def RG(O:D):AV->Option (Bool×List D)
 | .d (.int _ n)=>some (decide (0<=n)&&decide (n<=4611686018427387904),List.replicate n.toNat O)
 |_=>none
def YD(b:Bool):Option (Bool×List D)->Option (Bool×List D)
 |some (c,E)=>some (c&&b,E)
 |none=>none
def AB(P:Program)(m:Mem)(sz:Nat)(O:D)(u:TypeId)(x:AV):Option (Bool×List D):=
 match tk P u with
 | .int _=>RG O x
 |_=>YD (fw P u) (il m sz x)
theorem cy.akD{w:World}{F:Nat->Prop}{z:Array Value}{sz:Nat}{O:D}(AO:∀v∈z,cG v=true)(AC:z.size=sz)(V:O.size=sz)(Z:∃v,aQ w F O v/\v.cells=z)(n:Nat):
 cy w F sz (List.replicate n O) (Builtin.zeroCells z n).toList:=by
 refine⟨by simp[size_zeroCells,AC],λv Z=>sV AO v (by simpa using Z),λd Bl=>by rw[(List.mem_replicate.1 Bl).2];exact V,λi d hi=>?_⟩;obtain⟨BO,rfl⟩:=aa1.1 hi;obtain⟨v,A3,A7⟩:=Z;refine⟨v,by simpa using A3,λj c T=>?_⟩;have B7:j<z.size:=by rw[<-A7];exact (adU.1 T).1
 simp at BO;have B6:i*sz+j<n*z.size:=by
  rw[AC];have:i*sz+sz<=n*sz:=by rw[<-agC];exact adt _ BO
  omega
 simp only[Builtin.zeroCells,agh,Array.getElem?_map,Array.getElem?_range];rw[abf B6];simp only[agv];have e:(i*sz+j)%z.size=j:=by rw[<-AC,Nat.mul_comm,Nat.mul_add_mod,Nat.mod_eq_of_lt B7]
 rw[e,getElem!_pos z j B7,<-T,A7];simp[B7]
theorem NZ{P:Program}{S:St}{φ G w}(hm:bx φ G S.mem w){u:TypeId}{i:TypeInfo}{z:Value}{O:D}(AO:∀v∈z.cells,cG v=true)(AC:z.cells.size=i.size)(As:O.size=i.size)(Bm:∃v,aQ w (Fo G φ S.mem) O v/\v.cells=z.cells)
 {x:AV} {v:Value} (AE:aF φ w (Fo G φ S.mem) x v) {c E} (I:AB P S.mem i.size O u x=some (c,E)) (AG:c=true) (B8:∀d∈E,d.size=i.size):
 ∃J,GG P w (Fo G φ S.mem) u i.size z E v J:=by
 unfold AB at I;split at I
 ·rename_i k AH;unfold RG at I;split at I
  ·rename_i AZ n;cases I;simp only[Ds,aa8]at AG;cases AE with
   |d _ _ AE=>
    cases AE;have Y:((List.replicate n.toNat O).length:Int)=n:=by simp;omega
    refine⟨_,cy.akD AO AC As Bm n.toNat,.inr ⟨⟨k,adY AH⟩,⟨AZ,by rw[Y]⟩,by simp;omega,AC,by simp⟩⟩
  ·cases I
 ·rename_i AH;cases M:il S.mem i.size x with
  |none=>rw[M]at I;cases I
  |some y=>
   obtain⟨CL,CM⟩:=y;rw[M]at I;cases I;simp only[Ds]at AG;obtain⟨J,Y⟩:=JC (P:=P) hm AE M AG.1 B8;exact⟨J,Y.aj,.inl ⟨AG.2,Y⟩⟩
def yH(P:Program)(m:Mem)(u:TypeId)(sz AQ:Nat)(O:D)(s x:AV):dF:=
 match s,x with
 | .vec k ak off len,.vec BP BQ 0 1=>match Mem.get m k,Mem.get m BP with
  |some ⟨_,v,.vv aj none⟩,some ⟨_,BR,.box [.lit (.slice none 0 0)]⟩=>
   .dp (fw P u=true/\BR=BQ/\v=ak/\sz=1/\O.size=1/\off+len<=aj.length/\(len+1)*AQ<=140737488355328/\len+1<=4611686018427387904) (.vec k (ak+1) 0 (len+1)) ⟨k,ak+1,.vv ((aj.drop off).take len++[[]]) none⟩
  |_,_=>.no
 |_,_=>.no
theorem JG{φ φ':bW}{w w':World}{F F':Nat->Prop}{L:Loc}{aj:List (List D)}(h:ld φ w F L aj none){off len:Nat}(hle:off+len<=aj.length)
 (L':Loc) (U:L'.sz=1) (I:L'.db=(L.db.drop off).take len++[none]) (B9:len+1<=L'.cap) (H:∀b,some b∈L.db->b≠L'.dO) {Ac:Array Value} {BS:TypeId} (M:fu w' L'.dO Ac BS) (B8:Ac.size=L'.base+L'.cap) (A3:∀v∈Ac,cG v=true)
 (hold:∀i,i<len->∃(arr:Array Value)(elem:TypeId),0<L.cap/\fu w L.dO arr elem/\Ac[L'.base+i]?=arr[L.base+off+i]?) (Ai:Ac[L'.base+len]?=some (.slice none 0 0))
 (V:∀d u,aQ w F d u->aQ w' F' d u) (hw:∀b,some b∈L.db->w'.heap[b]?=w.heap[b]?):ld φ' w' F' L' ((aj.drop off).take len++[[]]) none:=by
 obtain⟨⟨g1,g2,g3⟩,g4,g5,g6⟩:=h;have BT:((aj.drop off).take len).length=len:=by simp;omega
 have BU:((L.db.drop off).take len).length=len:=by simp;omega
 have Bn:∀b,some b∈L'.db->some b∈L.db:=by
  intro b H;rw[I]at H;rcases abo.1 H with H|H
  ·exact adM (afr H)
  ·simp at H
 have BV:∀(i b:Nat),L'.db[i]?=some (some b)->i<len/\L.db[off+i]?=some (some b):=by
  intro i b H;rw[I]at H;by_cases hi:i<len
  ·rw[abl (by omega),ads,abf hi,adK]at H;exact⟨hi,H⟩
  ·rw[abq (by omega),BU]at H;cases BW:i-len with
   |zero=>rw[BW]at H;simp at H
   |succ n=>rw[BW]at H;simp at H
 refine⟨⟨U,by simp;omega,by rw[I];simp;omega⟩,λi j b hi T=>?_,λb Bo=>⟨by omega,H b (Bn b Bo)⟩,λ_=>?_⟩
 ·have A7:=g4 (off+i) (off+j) b (BV i b hi).2 (BV j b T).2;omega
 ·refine⟨Ac,BS,M,B8,A3,λi xs o hi AD=>?_,λx AE=>by cases AE⟩;by_cases BA:i<len
  ·rw[abl (by omega),ads,abf BA,adK]at hi;rw[I,abl (by omega),ads,abf BA,adK]at AD;obtain⟨arr,elem,A6,Bp,hold⟩:=hold i BA;obtain⟨Bq,CN,q1,q2,q3,Br,_⟩:=g6 A6;have Bs:Bq=arr:=by
    obtain⟨f1,Bt,_⟩:=q1;obtain⟨f2,Aa,_⟩:=Bp;rw[Bt]at Aa;simp only[abp,Obj.cells.injEq]at Aa;exact Aa.1
   subst Bs;rw[hold,adB];exact (Br (off+i) xs o hi AD).mono (λd u _ Bu=>V d u Bu) (λb e=>hw b (by subst e;exact abk AD))
  ·have Bv:i=len:=by
    have:=(aa1.1 hi).1;simp only[aa9,afZ,BT]at this;omega
   subst Bv;rw[abq (by omega),BT]at hi;rw[I,abq (by omega),BU]at AD;simp at hi AD;subst hi;subst AD;exact⟨rfl,none,Ai⟩
theorem adZ(P:Program)(S:St)(o:Oper)(s x:Operand)(t u:TypeId)(AD:o.op=.call {callee:=.builtin .append,args:=#[s,x],argTypes:=#[t,u]})
 (I:(S.aq s).1=true) (AE:(S.aq x).1=true) {e:TypeId} (A0:P.underlying t=some (.slice e)) {i:TypeInfo} {z:Value} (hi:P.info? e=some i) (U:i.zero=some z) {O:D} (Ad:z.cells.size=O.size) (AO:∀v∈z.cells,cG v=true):
 aN P S o (yH P S.mem u i.size i.bytes O (S.aq s).2 (S.aq x).2):=by
 have AI:∀(a:Act)(w w':World)(v:Value),(Builtin.append_ #[t,u] o.type #[a.eval s,a.eval x]).run P w=.ok v w'->(execOp a.eval o).run P w=.ok (.value v) w':=by
  intro a w w' v h;simp[execOp,AD,resolve,invoke,builtin,h]
 unfold yH;split
 ·rename_i k ak off len BP BQ Aj Ak;split
  ·rename_i key v aj CO BR AP Bw;refine aN.sS ?_;rintro ⟨Au,rfl,rfl,Ae,AC,hle,H,AU⟩ φ G a w M;obtain⟨hm,AH,L,A6,A2,A8⟩:=M.mem.get AP;simp only at AH A2 A8;subst AH;obtain⟨CP,BX,BB,Bx,BY,⟨By,Bz,CQ⟩,Av,CS,BZ,C',_,C0⟩:=M.mem.get Bw;simp only at BX BY;subst BX;have Z:=M.aq s I;have BC:=M.aq x AE;rw[Aj]at Z;rw[Ak]at BC;have C1:Av[0]?=some (.slice none 0 0):=by
    have A4:0<Av.size:=by rw[C'];simp
    have:=C0 0 _ Av[0] rfl (by simp[A4]);generalize A':Av[0]=q at this;cases this;simp[A4,A']
   generalize hex:a.eval x=CT at BC;cases BC with
   |vec _ _ _ _ _ L' AR _ h _=>
    rw[Bx]at AR;cases AR;obtain⟨CU,B_,rfl,CV,C2⟩:=h BY.symm;clear h;obtain⟨rfl,_⟩:=C2 (by omega);have A9:GG P w (Fo G φ S.mem) u i.size z [.list []] (.slice (some ⟨BB.dO,BB.base+0*BB.sz,none⟩) 1 B_) [.slice none 0 0]:=by
     have Al:cy w (Fo G φ S.mem) i.size [.list []] [.slice none 0 0]:=by
      refine⟨by simp[Ae],by simp[cG],by simp[Ae,D.size],λn d Y=>?_⟩;cases n with
      |zero=>simp at Y;subst Y;exact⟨.slice none 0 0,.nil none 0 (λ_=>rfl),λj c T=>by simpa [Value.cells]using T⟩
      |succ n=>simp at Y
     refine⟨Al,.inl ⟨Au,λw'=>by simp[Builtin.lenOf],λn Y w' Af=>?_,Al⟩⟩;refine run_firstCells_some (P:=P) w' i.size n _ 1 B_ _ (by have:n<=1:=Y;simp[Ae];omega) (λj c T=>?_);rw[fU,kE (Af _ BZ.lt),gY BZ,By,Bz];rw[ads]at T;split at T
     ·cases j with
      |zero=>simp at T;subst T;simpa using C1
      |succ j=>simp at T
     ·cases T
    generalize AF:a.eval s=Ba at Z;cases Z with
    |vec _ _ _ _ _ L' AR _ h _=>
     rw[A6]at AR;cases AR;obtain⟨ao,cap,rfl,Bb,Ag⟩:=h A2.symm;clear h;have Bc:∀b,some b∈L.db->b<w.heap.size:=λb H=>M.mem.ED ⟨_,hm,L,A6,.inr H⟩;have C3:∀b,some b∈(L.db.drop off).take len++[none]->some b∈L.db:=by
      intro b H;rcases abo.1 H with H|H
      ·exact adM (afr H)
      ·simp at H
     have grow:∀(A5:List Value),A5.length=len->(∀q∈A5,cG q=true)->(∀n,n<len->∃(arr:Array Value)(elem:TypeId),0<L.cap/\fu w L.dO arr elem/\A5[n]?=arr[L.base+off+n]?)->
      (∀w',w'.heap=w.heap->(Builtin.firstCells i.size len (.slice ao len cap)).run P w'=.ok A5.toArray w')->cap<len+1->
      ∃vv w' φ',EH P o a w vv w'/\aF φ' w' (Fo G φ' (Mem.set S.mem ⟨key,v+1,.vv ((aj.drop off).take len++[[]]) none⟩)) (.vec key (v+1) 0 (len+1)) vv/\
       bx φ' G (Mem.set S.mem ⟨key,v+1,.vv ((aj.drop off).take len++[[]]) none⟩) w'/\aX φ S.mem w φ' (Mem.set S.mem ⟨key,v+1,.vv ((aj.drop off).take len++[[]]) none⟩) w'/\∀k,k≠key->φ' k=φ k:=by
      intro A5 An C4 hold C5 A1;have BD:=grownCap_ge w (len+1) cap e;have C6:z.cells.size=1:=by rw[Ad];exact AC
      have Aw:=uv (P:=P) (ty:=o.type) A0 hi U A9 A5 C5 (by simpa using A1) (by simp;omega) (growslice_fits (by simpa using A1) (by simpa using H)) (by simp;have:=adt i.bytes (ajN 1 len);omega);simp only[afZ]at Aw;obtain⟨φ',AJ,AK,AL,AM⟩:=M.mem.UP (e:=⟨key,v,.vv aj none⟩) hm A6 A2 w.drew rfl rfl rfl rfl
       (A5.toArray++[Value.slice none 0 0].toArray++Builtin.zeroCells z.cells (grownCap w (len+1) cap e-(len+1))) e (.vv ((aj.drop off).take len++[[]]) none)
       ⟨v+1,w.heap.size,1,grownCap w (len+1) cap e,0,(L.db.drop off).take len++[none]⟩ rfl
       (λb H=>by
        rcases H with ⟨_,H⟩|H
        ·exact .inr H
        ·exact .inl (.inr (C3 b H))) (λφ' Ax BE AW Ai C7=>by
       refine JG A8 hle _ rfl rfl (by simp only;omega) (λb H=>by have:=Bc b H;simp only;omega) (.new Ai) ?_ ?_ ?_ ?_ AW (λb H=>C7 b (Bc b H))
       ·simp only[Array.size_append,afN,An,afZ,size_zeroCells,C6];omega
       ·intro q A';simp only[Array.mem_append]at A';rcases A' with (A'|A')|A'
        ·exact C4 q (by simpa using A')
        ·simp at A';subst A';rfl
        ·exact sV AO q A'
       ·intro n Y;obtain⟨arr,elem,A3,A7,Ao⟩:=hold n Y;refine⟨arr,elem,A3,A7,?_⟩;rw[<-Ao];simp only[afO];rw[agp (by simp;omega),agp (by simp;omega),af4]
       ·simp only[afO];rw[agp (by simp;omega),Array.getElem?_append_right (by simp;omega)];simp[An])
      refine⟨_,_,φ',.inl (AI a w _ _ (by rw[AF,hex];exact Aw)),?_,AJ,AK,AM⟩;exact .vec key (v+1) 0 _ _ _ AL (aa7 _) (λ_=>⟨_,_,rfl,BD,λ_=>⟨by simp,by simp⟩⟩) rfl
     by_cases Ap:0<L.cap
     ·obtain⟨arr,elem,hh,Az,Ah,_,_⟩:=A8.2.2.2 Ap;have Bd:∀b,some b∈L.db->b≠L.dO:=λb H=>(A8.2.2.1 b H).2;have CW:∀b,some b∈L.db->aH.dc L (.vv aj none) b:=λb H=>.inr H;have C8:∀b,some b∈(L.db.drop off).take len++[none]->some b∈L.db:=by
       intro b H;rcases abo.1 H with H|H
       ·exact adM (afr H)
       ·simp at H
      by_cases A1:len+[D.list []].length<=cap
      ·simp only[afZ]at A1;obtain⟨rfl,BF⟩:=Ag (by omega);have AS:L.base+off*L.sz+len*i.size+[Value.slice none 0 0].length<=arr.size:=by rw[Az,A8.1.1,Ae];simp;omega
       have AX:=run_append_fits (P:=P) (ty:=o.type) A0 hi U A9 hh (by simpa using A1) AS (by simp;have:=adt i.bytes (ajN 1 len);omega);have Be:=AI a w _ _ (by rw[AF,hex];exact AX);rw[A8.1.1,Ae,ajt,ajt]at Be AS;have Aq:L.base+off+len+[Value.slice none 0 0].length<=arr.toList.length:=by simpa using AS
       obtain⟨φ',AJ,AK,AL,AM⟩:=M.mem.Jy (e:=⟨key,v,.vv aj none⟩) hm A6 A2 (b0:=L.dO) (.inl ⟨Ap,rfl⟩) (bB arr.toList (L.base+off+len) [Value.slice none 0 0]).toArray ⟨v+1,L.dO,1,L.cap-off,L.base+off,(L.db.drop off).take len++[none]⟩ (ajz _) (λhh=>by simp only at A2 hh;omega) (.vv ((aj.drop off).take len++[[]]) none)
        (λb H=>by
         rcases H with ⟨_,H⟩|H
         ·exact .inl ⟨Ap,H⟩
         ·exact .inr (C8 b H)) (λφ' Ax BE AW=>by
        refine JG A8 hle _ rfl rfl (by simp only;omega) Bd (hh.setRow _ (by rw[afN,bX _ _ _ Aq];simp)) ?_ ?_ ?_ ?_ AW ?_
        ·rw[afN,bX _ _ _ Aq];simp only[adF,Az];omega
        ·intro q A';rcases lq Aq (by simpa using A')with A'|A'
         ·exact Ah q (by simpa using A')
         ·simp at A';subst A';rfl
        ·intro n Y;refine⟨arr,elem,Ap,hh,?_⟩;simp only
         rw[af4,gZ _ _ _ Aq,abf (by omega)];simp
        ·simp only
         rw[af4,gZ _ _ _ Aq,aa4 (by omega),abf (by simp)];simp
        ·intro b H;exact oQ w L.dO b _ (Bd b H))
       refine⟨_,_,φ',.inl Be,?_,AJ,AK,AM⟩;exact .vec key (v+1) 0 _ _ _ AL (aa7 _) (λ_=>⟨_,_,rfl,by simpa using A1,λ_=>⟨by simp,by simp only;omega⟩⟩) rfl
      ·have C9:cap<len+1:=by simpa using A1
       have BG:=A8.1.2.1;simp only[Option.toList_none,abn,af5]at BG;refine grow ((arr.toList.drop (L.base+off)).take len) (by simp;omega) (λq A'=>Ah q (by simpa using adM (afr A'))) (λn Y=>⟨arr,elem,Ap,hh,?_⟩) (λw' Af=>?_) C9
       ·rw[ads,abf Y,adK];simp
       ·by_cases AY:len=0
        ·subst AY;cases ao with
         |none=>simp[Builtin.firstCells]
         |some a=>simp[Builtin.firstCells,loadCells,loadCellsFrom]
        ·obtain⟨rfl,BF⟩:=Ag (by omega);refine run_firstCells_some (P:=P) w' i.size len _ len cap _ (by simp[Ae];omega) (λj c T=>?_);rw[fU,kE (w:=w) (w':=w') (by rw[Af]),gY hh,A8.1.1,ajt];rw[ads]at T;split at T
         ·rw[adK]at T;simpa using T
         ·cases T
     ·have BG:=A8.1.2.1;simp only[Option.toList_none,abn,af5]at BG;have AY:len=0:=by omega
      have CA:cap=0:=by
       rcases ajK cap with A4|A4
       ·exact A4
       ·have:=(Ag A4).2;omega
      subst AY;subst CA;refine grow [] rfl (by simp) (λn Y=>by omega) (λw' Af=>?_) (by omega);cases ao with
      |none=>simp[Builtin.firstCells]
      |some a=>simp[Builtin.firstCells,loadCells,loadCellsFrom]
  ·trivial
 ·trivial
def sW(P:Program)(m:Mem)(BH:Nat)(t:TypeId)(u:TypeId)(s x:AV):dF:=
 match tk P t with
 | .slice e=>match fT P e,Ay P e,m8 P e with
  |some sz,some AQ,some O=>match AB P m sz O u x with
   |some (c,E)=>match s with
    | .vec k ak off len=>match Mem.get m k with
     |some ⟨_,v,.vec Bf aj⟩=>.dp (c/\O.size=sz/\v=ak/\off+len<=aj.length/\Bf=sz/\(∀d∈E,d.size=sz)/\(len+E.length)*AQ<=140737488355328/\len+E.length<=4611686018427387904)
      (.vec k (ak+1) 0 (len+E.length)) ⟨k,ak+1,.vec sz ((aj.drop off).take len++E)⟩
     |_=>.no
    | .lit (.slice none 0 0)=>match Mem.get m BH with
     |some ⟨_,v,_⟩=>.dp (c/\O.size=sz/\(∀d∈E,d.size=sz)/\E.length*AQ<=140737488355328/\E.length<=4611686018427387904)
      (.vec BH (v+1) 0 E.length) ⟨BH,v+1,.vec sz E⟩
     |_=>.no
    |_=>.no
   |none=>yH P m u sz AQ O s x
  |_,_,_=>.no
 |_=>.no
theorem gr{P:Program}{t e:TypeId}(h:tk P t=.slice e):P.underlying t=some (.slice e):=by
 unfold tk at h;split at h<;>simp_all
theorem N0{P:Program}{e:TypeId}{sz AQ:Nat}{O:D}(A3:fT P e=some sz)(A7:Ay P e=some AQ)(Ao:m8 P e=some O):
 ∃i z,P.info? e=some i/\i.size=sz/\i.bytes=AQ/\i.zero=some z/\z.cells.size=O.size/\(∀v∈z.cells,cG v=true)/\∀w' F,∃v,aQ w' F O v/\v.cells=z.cells:=by
 unfold fT at A3;unfold Ay at A7;cases hi:P.info? e with
 |none=>simp[hi]at A3
 |some i=>
  simp[hi]at A3 A7;obtain⟨z,AI,CB,CC,CD⟩:=EK Ao default;cases U:i.zero with
  |none=>simp[zeroValue,typeInfo,hi,U,unsupported]at AI
  |some CE=>
   simp[zeroValue,typeInfo,hi,U]at AI;subst AI;exact⟨i,CE,rfl,A3,A7,U,CB,CC,CD⟩
theorem afG(P:Program)(S:St)(o:Oper)(s x:Operand)(t u:TypeId)(AD:o.op=.call {callee:=.builtin .append,args:=#[s,x],argTypes:=#[t,u]})
 (I:(S.aq s).1=true) (AE:(S.aq x).1=true):aN P S o (sW P S.mem (keyOf o) t u (S.aq s).2 (S.aq x).2):=by
 have AI:∀(a:Act)(w w':World)(v:Value),(Builtin.append_ #[t,u] o.type #[a.eval s,a.eval x]).run P w=.ok v w'->(execOp a.eval o).run P w=.ok (.value v) w':=by
  intro a w w' v h;simp[execOp,AD,resolve,invoke,builtin,h]
 unfold sW;split
 ·rename_i e CF;have A0:=gr CF;split
  ·rename_i sz AQ O A3 A7 Ao;obtain⟨i,z,hi,rfl,rfl,U,Ad,AO,As⟩:=N0 A3 A7 Ao;split
   ·rename_i c E Au
    --CX CY a new block
    have grow:∀{φ G}{a:Act}{w:World}(M:Rel φ G S a w){J:List Value}(A9:GG P w (Fo G φ S.mem) u i.size z E (a.eval x) J){key ak:Nat}{cont:aH}(hm:(⟨key,ak,cont⟩:cJ)∈S.mem){L:Loc}(A6:φ key=some L)(A2:L.ak=ak)
     (ao:Option Addr) (len cap:Nat) (AF:a.eval s=.slice ao len cap) (A5:List Value) (AT:List D) (Bg:cy w (Fo G φ S.mem) i.size AT A5) (An:AT.length=len)
     (hold:∀w',w'.heap=w.heap->(Builtin.firstCells i.size len (.slice ao len cap)).run P w'=.ok A5.toArray w')
     (A1:cap<len+E.length) (H:(len+E.length)*i.bytes<=140737488355328) (AU:len+E.length<=4611686018427387904) (AN:O.size=i.size),
     ∃v w' φ',EH P o a w v w'/\aF φ' w' (Fo G φ' (Mem.set S.mem ⟨key,ak+1,.vec i.size (AT++E)⟩)) (.vec key (ak+1) 0 (len+E.length)) v/\
      bx φ' G (Mem.set S.mem ⟨key,ak+1,.vec i.size (AT++E)⟩) w'/\aX φ S.mem w φ' (Mem.set S.mem ⟨key,ak+1,.vec i.size (AT++E)⟩) w'/\∀k,k≠key->φ' k=φ k:=by
     intro φ G a w M J A9 key ak cont hm L A6 A2 ao len cap AF A5 AT Bg An hold A1 H AU AN;have BD:=grownCap_ge w (len+E.length) cap e;have Aw:=uv (P:=P) (ty:=o.type) A0 hi U A9 A5 hold A1 (by omega) (growslice_fits A1 H) (by have:=adt i.bytes (ajN E.length len);omega);have Al:cy w (Fo G φ S.mem) i.size (AT++E) (A5++J):=Bg.append A9.aj;obtain⟨φ',AJ,AK,AL,AM⟩:=M.mem.fresh (e:=⟨key,ak,cont⟩) hm A6 A2 w.drew rfl rfl rfl rfl
      (A5.toArray++J.toArray++Builtin.zeroCells z.cells (grownCap w (len+E.length) cap e-(len+E.length))) e i.size (grownCap w (len+E.length) cap e) (.vec i.size (AT++E)) (λ_ H=>H.2) (λφ' hle BE AW Ai=>by
       refine wR (cs:=A5++J) (rest:=(Builtin.zeroCells z.cells (grownCap w (len+E.length) cap e-(len+E.length))).toList) (elem:=e) rfl rfl (Al.mono AW) ?_ (by simp;omega) ?_ (λ_=>?_)
       ·intro v Z;exact sV AO v (by simpa using Z)
       ·have AC:z.cells.size=i.size:=by
         rw[Ad];exact AN
        rw[aa9,Al.1];simp only[adF,size_zeroCells,AC,aa9,An,<-afP];congr 1;omega
       ·refine fu.new ?_;rw[Ai];congr 2;apply Array.ext';simp)
     refine⟨_,_,φ',.inl (AI a w _ _ (by rw[AF];exact Aw)),?_,AJ,AK,AM⟩;exact .vec key (ak+1) 0 _ _ _ AL (aa7 _) (λ_=>⟨_,_,rfl,BD,λ_=>⟨by simp,by simp⟩⟩) rfl
    split
    ·rename_i k ak off len Aj;split
     ·rename_i key v Bf aj AP;refine aN.sS ?_;rintro ⟨AG,AN,rfl,hle,rfl,BI,H,AU⟩ φ G a w M;obtain⟨hm,AH,L,A6,A2,A8⟩:=M.mem.get AP;simp only at AH;subst AH;have Z:=M.aq s I;have Ak:=M.aq x AE;rw[Aj]at Z;obtain⟨J,A9⟩:=NZ (P:=P) M.mem AO (by rw[Ad];exact AN) AN (As _ _) Ak Au AG BI;generalize AF:a.eval s=Ba at Z;cases Z with
      |vec _ _ _ _ _ L' AR _ h _=>
       rw[A6]at AR;cases AR;obtain⟨ao,cap,rfl,Bb,Ag⟩:=h A2.symm;clear h;have BJ:L.sz=i.size:=A8.1;have BK:((aj.drop off).take len).length=len:=by simp;omega
       by_cases A1:len+E.length<=cap
       ·by_cases B9:cap=0
        · --nothing CZ nothing
         have B':E=[]:=abv (by omega);have AY:len=0:=by omega
         subst B';subst AY;have AX:=sg (P:=P) (ty:=o.type) (ao:=ao) A0 hi U A9 Bb;obtain⟨φ',AJ,AK,AL,AM⟩:=M.mem.dp (e':=⟨key,v+1,.vec i.size ((aj.drop off).take 0++[])⟩) hm A6 rfl (L':={L with ak:=v+1}) (by simp only at A2;simp;omega) (λhh=>by simp only at A2 hh;omega) rfl
          (w':=w) (λ_ _ _=>rfl) (aa7 _) (λ_ AD=>.inl AD) rfl rfl rfl (λφ' CG Ax=>by
           obtain⟨g1,g2,g3,g4⟩:=A8;refine⟨g1,by simp,by simp,λAG=>?_⟩;obtain⟨arr,elem,f1,f2,f3,f4⟩:=g4 AG;exact⟨arr,elem,f1,f2,f3,by simp⟩)
         refine⟨_,w,φ',.inl (AI a w w _ (by rw[AF];exact AX)),?_,AJ,AK,AM⟩;exact .vec key (v+1) 0 _ _ _ AL (aa7 _) (λ_=>⟨_,_,rfl,by simp,λh=>by omega⟩) rfl
        ·obtain⟨rfl,BF⟩:=Ag (by omega);obtain⟨arr,elem,hh,Az,Ah,BL⟩:=oy A8 (by omega);obtain⟨B,Bh⟩:∃B,B=L.base+off*i.size:=⟨_,rfl⟩;have Ar:=((BL.drop off).take len (by simp;omega));have CH:(((arr.toList.drop L.base).take (aj.length*i.size)).drop (off*i.size)).take (len*i.size)=(arr.toList.drop B).take (len*i.size):=by
          have:off*i.size+len*i.size<=aj.length*i.size:=by rw[<-afP];exact adt _ hle
          rw[List.drop_take,List.take_take,ajm (by omega),an0,Bh]
         rw[CH]at Ar;have CI:=Ar.append A9.aj;have CJ:=A9.aj.1;have C_:len*i.size+J.length<=(L.cap-off)*i.size:=by
          rw[CJ,<-afP];exact adt _ (by omega)
         have Ca:off*i.size+(L.cap-off)*i.size=L.cap*i.size:=by rw[<-afP];congr 1;omega
         have AS:B+len*i.size+J.length<=arr.size:=by omega
         rw[BJ,<-Bh]at AF;have AX:=run_append_fits (P:=P) (ty:=o.type) A0 hi U A9 hh A1 AS (by have:=adt i.bytes (ajN E.length len);omega);obtain⟨φ',AJ,AK,AL,AM⟩:=M.mem.Jy (e:=⟨key,v,.vec i.size aj⟩) hm A6 A2 (b0:=L.dO) ⟨by omega,rfl⟩ (bB arr.toList (B+len*i.size) J).toArray ⟨v+1,L.dO,L.sz,L.cap-off,B,[]⟩ (ajz _) (λhh=>by simp only at A2 hh;omega) (.vec i.size ((aj.drop off).take len++E)) (λ_ H=>⟨by omega,H.2⟩) (λφ' Ax BE AW=>by
          refine ur (pre:=arr.toList.take B) (cs:=(arr.toList.drop B).take (len*i.size)++J) (rest:=arr.toList.drop (B+len*i.size+J.length)) (elem:=elem) BJ (CI.mono AW) ?_ ?_ ?_ (by rw[aa9,BK];simp only;omega) ?_ (λ_=>?_)
          ·simp only[agA,adF];omega
          ·intro z U;exact Ah z (by simpa using afr U)
          ·intro z U;exact Ah z (by simpa using adM U)
          ·show _=(L.cap-off)*i.size;simp only[aa9,agA,ags,adF];omega
          ·have e:=hh.setRow (bB arr.toList (B+len*i.size) J).toArray (by show (bB arr.toList _ _).length=_;rw[bX _ _ _ (by simpa using AS)];simp);rw[dI _ _ _ (by simpa using AS),List.take_add]at e;rw[dI _ _ _ (by simpa using AS),List.take_add];simpa [afw]using e)
         refine⟨_,_,φ',.inl (AI a w _ _ (by rw[AF];exact AX)),?_,AJ,AK,AM⟩;exact .vec key (v+1) 0 _ _ _ AL (aa7 _) (λ_=>⟨_,_,rfl,A1,λ_=>⟨by simp,by simp only;omega⟩⟩) rfl
       ·by_cases B9:cap=0
        ·subst B9;have AY:len=0:=by omega
         subst AY;have:=grow M A9 hm A6 A2 ao 0 0 AF [] [] (cy.nil ..) rfl (λw' _=>by cases ao<;>simp[Builtin.firstCells,loadCells,loadCellsFrom]) (by omega) H AU AN;simpa using this
        ·obtain⟨rfl,BF⟩:=Ag (by omega);obtain⟨arr,elem,hh,Az,Ah,BL⟩:=oy A8 (by omega);have Ar:=((BL.drop off).take len (by simp;omega));exact grow M A9 hm A6 A2 _ len cap AF _ ((aj.drop off).take len) Ar BK (λw' Af=>by
          refine run_firstCells_some (P:=P) w' i.size len _ len cap _ (by rw[Ar.1,BK]) (λj u T=>?_);rw[fU,show w'.cell? ⟨L.dO,L.base+off*L.sz+j,none⟩=w.cell? ⟨L.dO,L.base+off*L.sz+j,none⟩ by simp[World.cell?,Af],gY hh,BJ];rw[ads]at T;split at T
          ·rw[adK,ads]at T;split at T
           ·rw[adK]at T;rw[adB];simpa using T
           ·cases T
          ·cases T) (by omega) H AU AN
     ·trivial
    ·rename_i Aj;split
     ·rename_i key v cont AP;refine aN.sS ?_;rintro ⟨AG,AN,BI,H,AU⟩ φ G a w M;obtain⟨hm,AH,L,A6,A2,A8⟩:=M.mem.get AP;simp only at AH A2;subst AH;have Z:=M.aq s I;have Ak:=M.aq x AE;rw[Aj]at Z;obtain⟨J,A9⟩:=NZ (P:=P) M.mem AO (by rw[Ad];exact AN) AN (As _ _) Ak Au AG BI;generalize AF:a.eval s=Ba at Z;cases Z;by_cases B':E=[]
      ·subst B';have AX:=sg (P:=P) (ty:=o.type) (ao:=none) (len:=0) (cap:=0) A0 hi U A9 (aa7 _);obtain⟨φ',AJ,AK,AL,AM⟩:=M.mem.dp (e':=⟨keyOf o,v+1,.vec i.size []⟩) hm A6 rfl (L':=⟨v+1,0,i.size,0,0,[]⟩) (by simp only;omega) (λhh=>by simp only at hh;omega) rfl
        (w':=w) (λ_ _ _=>rfl) (aa7 _) (λ_ AD=>absurd AD.1 (by simp)) rfl rfl rfl (λφ' CG Ax=>
         ⟨rfl,by simp,by simp,λAG=>by simp at AG⟩)
       refine⟨_,w,φ',.inl (AI a w w _ (by rw[AF];exact AX)),?_,AJ,AK,AM⟩;exact .vec _ (v+1) 0 _ _ _ AL (aa7 _) (λ_=>⟨_,_,rfl,by simp,λh=>by omega⟩) rfl
      ·have BN:0<E.length:=List.length_pos_iff.2 B';have:=grow M A9 hm A6 A2 none 0 0 AF [] [] (cy.nil ..) rfl (λw' _=>by simp[Builtin.firstCells]) (by omega) (by simpa using H) (by simpa using AU) AN;simpa using this
     ·trivial
    ·trivial
   ·exact adZ P S o s x t u AD I AE A0 hi U Ad AO
  ·trivial
 ·trivial
def yK(P:Program)(m:Mem)(AK:Nat)(t:TypeId)(l c:AV):dF:=
 match tk P t with
 | .slice e=>match fT P e,Ay P e,m8 P e,l,c,Mem.get m AK with
  |some sz,some AW,some A6,.d (.int .i64 n),.d (.int .i64 AX),some ⟨_,v,_⟩=>
   .dp (n=AX/\0<=n/\n*AW<=140737488355328/\n<=4611686018427387904/\A6.size=sz) (.vec AK (v+1) 0 n.toNat) ⟨AK,v+1,.vec sz (List.replicate n.toNat A6)⟩
  |_,_,_,_,_,_=>.no
 |_=>.no
theorem wrap_small{n:Int}(V:0<=n)(h:n<=4611686018427387904):IntKind.i64.wrap n=n:=IntWalk.i64_in _ (by omega)
theorem RL(z:Array Value)(n sz:Nat)(T:z.size=sz)(d:D)(AC:d.size=sz)(J:∀v∈z,cG v=true)(w:World)(F:Nat->Prop)(Ak:∃v,aQ w F d v/\v.cells=z):
 cy w F sz (List.replicate n d) ((Array.range (n*sz)).map (z[·%z.size]!)).toList:=by
 obtain⟨v,A',Al⟩:=Ak;refine⟨by simp,?_,?_,?_⟩
 ·intro x M;simp only[Array.toList_map,abz]at M;obtain⟨i,hi,rfl⟩:=M;have hi:i<n*sz:=by simpa using hi
  have An:0<z.size:=by
   rw[T];rcases ajK sz with V|V
   ·simp[V]at hi
   ·exact V
  rw[getElem!_pos z _ (Nat.mod_lt _ An)];exact J _ (by simp)
 ·intro x M;rw[List.eq_of_mem_replicate M,AC]
 ·intro i x M;have hi:i<n:=by have:=(aa1.1 M).1;simpa using this
  have Ao:x=d:=by rw[anX]at M;split at M<;>simp_all
  subst Ao;refine⟨v,A',λj c AL=>?_⟩;have Ap:=xB A' AC AL;have Aq:i*sz+j<n*sz:=by
   have:i*sz+sz<=n*sz:=by rw[<-agC];exact adt _ hi
   omega
  rw[Al]at AL;have hm:(i*sz+j)%sz=j:=by rw[Nat.mul_comm,Nat.mul_add_mod];exact Nat.mod_eq_of_lt Ap
  simp only[Array.toList_map,adz,Array.toList_range,List.getElem?_range Aq,agv,T,hm];rw[getElem!_pos z j (by omega)];rw[<-AL];simp[show j<z.size by omega]
theorem run_makeSlice{P:Program}{w:World}{t e:TypeId}{i:TypeInfo}{z:Value}{n:Int}(U:P.underlying t=some (.slice e))(hi:P.info? e=some i)(T:i.zero=some z)
 (V:0<=n) (Z:n*i.bytes<=140737488355328) (AD:n<=4611686018427387904):
 (Instr.makeSlice t (.int .i64 n) (.int .i64 n)).run P w=.ok (.slice (some ⟨w.heap.size,0,none⟩) n.toNat n.toNat) (w.alloc (.cells ((Array.range (n.toNat*i.size)).map (z.cells[·%z.cells.size]!)) e)):=by
 have hw:=wrap_small V AD;have J:¬n<0:=by omega
 have AE:¬((i.bytes:Int)*n>281474976710656):=by rw[Int.mul_comm];omega
 have AY:¬(n.toNat*i.bytes>roomBytes):=by
  unfold roomBytes;have:((n.toNat*i.bytes:Nat):Int)=n*i.bytes:=by rw[Int.natCast_mul,Int.toNat_of_nonneg V]
  omega
 by_cases AF:n.toNat*i.size=0
 ·have Ar:n.toNat=0\/i.size=0:=Nat.mul_eq_zero.1 AF;simp[Instr.makeSlice,run_underlying U,asInt,asIntOf,typeInfo,sizeOf,hi,hw,J,AE,askRoom,AF,iM,show Array.range 0=#[]from rfl]
 ·have Ar:¬(n.toNat=0\/i.size=0):=λh=>AF (Nat.mul_eq_zero.2 h);simp[Instr.makeSlice,run_underlying U,asInt,asIntOf,typeInfo,sizeOf,zeroValue,hi,T,hw,J,AE,askRoom,iM];exact λh=>absurd h AF
theorem ad0(P:Program)(S:St)(o:Oper)(t:TypeId)(l c:Operand)(A0:o.op=.makeSlice t l c)(As:(S.aq l).1=true)(AM:(S.aq c).1=true):aN P S o (yK P S.mem (keyOf o) t (S.aq l).2 (S.aq c).2):=by
 unfold yK;split
 ·rename_i e AN;have U:=gr AN;split
  ·rename_i sz AW A6 n AX key v cont J AE AY Au Av AO;refine aN.sS ?_;rintro ⟨rfl,V,Z,AD,AZ⟩ φ G a w O;obtain⟨i,z,hi,rfl,rfl,T,Aw,Ax,Az⟩:=N0 J AE AY;obtain⟨hm,A7,L,A1,A2,A3⟩:=O.mem.get AO;simp only at A7 A2;subst A7;have A4:=O.aq l As;have AP:=O.aq c AM;rw[Au]at A4;rw[Av]at AP;have B':a.eval l=.int .i64 n:=by
    generalize a.eval l=x at A4;cases A4 with|d _ _ h=>cases h;rfl
   have AQ:a.eval c=.int .i64 n:=by
    generalize a.eval c=x at AP;cases AP with|d _ _ h=>cases h;rfl
   have B0:=run_makeSlice (P:=P) (w:=w) U hi T V Z AD;obtain⟨φ',A8,A9,AR,AA⟩:=O.mem.fresh (e:=⟨keyOf o,v,cont⟩) hm A1 A2 w rfl rfl rfl rfl
    ((Array.range (n.toNat*i.size)).map (z.cells[·%z.cells.size]!)) e i.size n.toNat (.vec i.size (List.replicate n.toNat A6)) (λ_ Z=>Z.2) (λφ' hle B1 A_ B2=>by
     refine wR (cs:=((Array.range (n.toNat*i.size)).map (z.cells[·%z.cells.size]!)).toList) (rest:=[]) (elem:=e) rfl rfl (RL z.cells n.toNat i.size (by rw[Aw,AZ]) A6 AZ Ax _ _ (Az _ _)) (by simp) (by simp) (by simp) (λ_=>?_);refine fu.new ?_;rw[B2,afy,an6])
   refine⟨.slice (some ⟨w.heap.size,0,none⟩) n.toNat n.toNat,_,φ',.inl ?_,?_,A8,A9,AA⟩
   ·simp[execOp,A0,B',AQ,B0]
   ·exact .vec _ (v+1) 0 _ _ _ AR (aa7 _) (λ_=>⟨_,_,rfl,aa7 _,λ_=>⟨by simp,by simp⟩⟩) rfl
  ·trivial
 ·trivial
def yL(P:Program)(m:Mem)(t:TypeId)(s x:AV):dF:=
 match tk P t with
 | .slice e=>match fT P e with
  |some sz=>match il m sz x with
   |some (c,E)=>match s with
    | .vec k ak off len=>match Mem.get m k with
     |some ⟨_,v,.vec H aj⟩=>.dp (c/\v=ak/\off+len<=aj.length/\H=sz/\(∀d∈E,d.size=sz))
      (.d (.int .i64 (min E.length len:Nat))) ⟨k,ak,.vec sz (bB aj off (E.take len))⟩
     |_=>.no
    |_=>.no
   |none=>.no
  |none=>.no
 |_=>.no
theorem CN{w F sz}{aj E:List D}{cs I:List Value}{off:Nat}(h:cy w F sz aj cs)(AS:cy w F sz E I)(hle:off+E.length<=aj.length):
 cy w F sz (bB aj off E) (bB cs (off*sz) I):=by
 have AG:off*sz+I.length<=cs.length:=by rw[h.1,AS.1,<-afP];exact adt _ hle
 rw[dI _ _ _ hle,dI _ _ _ AG];have:=((h.take off (by omega)).append AS).append (h.drop (off+E.length));rw[afP,<-AS.1]at this;exact this
theorem I0{α:Type}{cs I:List α}{o n:Nat}(h:o+I.length<=n)(AD:n<=cs.length):bB (cs.take n) o I++cs.drop n=bB cs o I:=by
 rw[dI _ _ _ (by simp;omega),dI _ _ _ (by omega),List.take_take,ajm (by omega),afw (List.take _ _++_)];congr 1;rw[List.drop_take];have AQ:cs.drop n=(cs.drop (o+I.length)).drop (n-(o+I.length)):=by rw[an0];congr 1;omega
 rw[AQ,ajS]
theorem JJ{P:Program}{w w':World}{t u ty e:TypeId}{sz:Nat}(U:P.underlying t=some (.slice e))(J:fT P e=some sz){ao:Option Addr}{len cap:Nat}{x:Value}{m:Nat}{I:List Value}
 (Aa:(Builtin.lenOf x).run P w=.ok m w) (A5:(Builtin.firstCells sz (min m len) x).run P w=.ok I.toArray w)
 (Y:(match ao with|some a=>storeCells a I|none=>pure ()).run P w=.ok () w'):
 (Builtin.copy_ #[t,u] ty #[.slice ao len cap,x]).run P w=.ok (.int .i64 (min m len:Nat)) w':=by
 have hm:Nat.min m len=min m len:=rfl;cases ao with
 |none=>
  simp only[Sem.run_pure,Result.ok.injEq,anU]at Y;subst Y;simp[Builtin.copy_,run_underlying U,Aa,hm,run_sizeOf J,A5,goInt]
 |some a=>
  simp only at Y;simp[Builtin.copy_,run_underlying U,Aa,hm,run_sizeOf J,A5,Y,goInt]
theorem ad1(P:Program)(S:St)(o:Oper)(s x:Operand)(t u:TypeId)(A0:o.op=.call {callee:=.builtin .copy,args:=#[s,x],argTypes:=#[t,u]})
 (AC:(S.aq s).1=true) (M:(S.aq x).1=true):aN P S o (yL P S.mem t (S.aq s).2 (S.aq x).2):=by
 unfold yL;split
 ·rename_i e AN;have U:=gr AN;split
  ·rename_i sz J;split
   ·rename_i c E B3;split
    ·rename_i k ak off len B4;split
     ·rename_i key v H aj AO;refine aN.sS ?_;rintro ⟨AM,rfl,hle,rfl,B5⟩ φ G a w O;obtain⟨hm,A7,L,A1,A2,A3⟩:=O.mem.get AO;simp only at A7;subst A7;have A':=O.aq s AC;have B6:=O.aq x M;rw[B4]at A';obtain⟨I,AH⟩:=JC (P:=P) O.mem B6 B3 AM B5;generalize A4:a.eval s=BK at A';cases A' with
      |vec _ _ _ _ _ L' Ab _ h _=>
       rw[A1]at Ab;cases Ab;obtain⟨ao,cap,rfl,BL,B7⟩:=h A2.symm;clear h;have Ac:L.sz=H:=A3.1;have Ad:min E.length len<=E.length:=Nat.min_le_left _ _;have A5:=AH.UT (min E.length len) Ad w (λ_ _=>rfl);have Ae:(E.take len).length=min E.length len:=by rw[agA,Nat.min_comm]
       by_cases B8:len=0
       ·subst B8;obtain⟨φ',A8,A9,AR,AA⟩:=O.mem.dp (e':=⟨key,v,.vec H (bB aj off (E.take 0))⟩) hm A1 rfl (L':=L) (aa7 _) (λ_=>rfl) A2
         (w':=w) (λ_ _ _=>rfl) (aa7 _) (λ_ A0=>.inl A0) rfl rfl rfl (λφ' Af AG=>by
          have e:bB aj off (E.take 0)=aj:=by rw[dI _ _ _ (by simp;omega)];simp
          rw[e];refine A3.mono AG (λ_ _ _=>rfl) (aa7 _) (λb Z=>?_) (λ_ _=>rfl);rintro (B9|⟨y,BA,BB,AI,Ag⟩)
          ·exact .inl B9
          ·right;rcases (Mem.mem_set O.mem.nodup).1 BA with ⟨rfl,_⟩|⟨BC,Ah⟩
           ·subst Af;simp at AI;subst AI;exact⟨_,hm,L,A1,Ag⟩
           ·subst Af;simp at Ah;simp[Ah]at AI;exact⟨y,BC,BB,AI,Ag⟩)
        refine⟨_,w,φ',.inl ?_,.d _ _ (.int _ _),A8,A9,AA⟩;have BD:I.take (min E.length 0*H)=[]:=by simp
        rw[BD]at A5;have:=JJ (P:=P) (ty:=o.type) (u:=u) (ao:=ao) (len:=0) (cap:=cap) U J (AH.len w) A5 (w':=w) (by cases ao<;>simp[storeCells]);simp[execOp,A0,resolve,invoke,builtin,A4,this]
       ·obtain⟨rfl,BM⟩:=B7 (by omega);obtain⟨arr,elem,hh,BN,Ai,BE⟩:=oy A3 (by omega);have AT:cy w (Fo G φ S.mem) H (E.take len) (I.take (min E.length len*H)):=by
         have:=AH.aj.take (min E.length len) Ad;have e:E.take (min E.length len)=E.take len:=by
          rcases Nat.le_total E.length len with h|h
          ·rw[ajm h,aiC (aa7 _),aiC h]
          ·rw[Nat.min_eq_right h]
         rw[e]at this;exact this
        have Aj:off+(E.take len).length<=aj.length:=by rw[Ae];omega
        have BF:=CN BE AT Aj;have AB:=AT.1;rw[Ae]at AB;have AU:(off+min E.length len)*H<=aj.length*H:=adt _ (by omega);have BO:aj.length*H<=L.cap*H:=adt _ A3.2.1;have AJ:L.base+off*H+(I.take (min E.length len*H)).length<=arr.toList.length:=by
         rw[afP]at AU;rw[AB];simp only[adF];omega
        have ⟨BG,BH,BI⟩:=hh;have Y:=ka (P:=P) L.dO (L.base+off*H) elem BG (I.take (min E.length len*H)) 0 arr w BH BI (by simpa using AJ) (λx M=>o7 (AT.2.1 x M));simp only[af5]at Y;rw[<-dI _ _ _ AJ]at Y;have BJ:arr.toList.take L.base++(bB ((arr.toList.drop L.base).take (aj.length*H)) (off*H) (I.take (min E.length len*H))++(arr.toList.drop L.base).drop (aj.length*H))=bB arr.toList (L.base+off*H) (I.take (min E.length len*H)):=by
         rw[I0 (by rw[AB,<-afP];exact AU) (by simp only[ags,adF];omega)];rw[dI _ _ _ (by rw[AB];rw[afP]at AU;simp only[ags,adF];omega),dI _ _ _ AJ,an0,List.take_add];simp only[afw,adB]
        obtain⟨φ',A8,A9,AR,AA⟩:=O.mem.store (e:=⟨key,v,.vec H aj⟩) hm A1 A2 (b0:=L.dO) ⟨by omega,rfl⟩ (bB arr.toList (L.base+off*H) (I.take (min E.length len*H))).toArray v (aa7 _) (.vec H (bB aj off (E.take len))) (λ_ Z=>Z) (λφ' AG B1 A_=>by
         refine ur (pre:=arr.toList.take L.base) (cs:=bB ((arr.toList.drop L.base).take (aj.length*H)) (off*H) (I.take (min E.length len*H))) (rest:=(arr.toList.drop L.base).drop (aj.length*H)) (elem:=elem) Ac (BF.mono A_) ?_ ?_ ?_ ?_ ?_ (λ_=>?_)
         ·simp only[agA,adF];omega
         ·intro z T;exact Ai z (by simpa using afr T)
         ·intro z T;exact Ai z (by simpa using adM (adM T))
         ·rw[bX _ _ _ Aj];exact A3.2.1
         ·show _=L.cap*H;rw[aa9,bX _ _ _ (by rw[AB,<-afP];simp only[agA,ags,adF];omega),<-aa9,ajS];simp only[ags,adF];omega
         ·rw[BJ];exact hh.setRow _ (by show (bB arr.toList _ _).length=_;rw[bX _ _ _ AJ];simp))
        refine⟨_,_,φ',.inl ?_,.d _ _ (.int _ _),A8,A9,AA⟩;have:=JJ (P:=P) (ty:=o.type) (u:=u) (ao:=some ⟨L.dO,L.base+off*L.sz,none⟩) (len:=len) (cap:=cap) U J (AH.len w) A5 (by rw[Ac];exact Y);simp[execOp,A0,resolve,invoke,builtin,A4,this]
     ·trivial
    ·trivial
   ·trivial
  ·trivial
 ·trivial
theorem wT{P:Program}{s:TypeId}{f n b o:Nat}{w:World}(h:yE P s f=some n):(Instr.fieldAt s (.pointer (some ⟨b,o,none⟩)) f).run P w=.ok (.pointer (some ⟨b,o+n,none⟩)) w:=by
 unfold yE at h;split at h
 ·rename_i AQ hu;split at h
  ·rename_i fl AF;split at h
   ·rename_i i hi;split at h
    ·cases h
    ·rename_i AG;simp at h;subst h;have Y:(sizeOf fl.type).run P w=.ok i.size w:=run_sizeOf (by simp[fT,hi]);simp[Instr.fieldAt,run_underlying hu,AF,Instr.sureAddr,fieldPlace,Y,AG,fU]
   ·cases h
  ·cases h
 ·cases h
def pv(P:Program)(m:Mem)(s:TypeId)(f:Nat)(p:AV):dF:=
 match yE P s f with
 |some n=>match p with
  | .ptr k ak off=>match Mem.get m k with
   |some ⟨_,v,_⟩=>.val (v=ak) (.ptr k ak (off+n))
   |none=>.no
  | .cS k ak i j=>match Mem.get m k with
   |some ⟨_,v,_⟩=>.val (v=ak) (.cS k ak i (j+n))
   |none=>.no
  | .ea x j=>.val True (.ea x (j+n))
  |_=>.no
 |none=>.no
theorem YF(P:Program)(S:St)(o:Oper)(s:TypeId)(x:Operand)(f:Nat)(Z:o.op=.fieldAddr s x f)(O:(S.aq x).1=true):aN P S o (pv P S.mem s f (S.aq x).2):=by
 unfold pv;split
 ·rename_i n A6;split
  ·rename_i k ak off M;split
   ·rename_i key v cont V;refine aN.pure ?_;rintro rfl φ G a w H;have E:=H.aq x O;rw[M]at E;obtain⟨hm,A1,L,I,J,_⟩:=H.mem.get V;simp only at J;have e:=E.se I J;refine⟨.pointer (some ⟨L.dO,off+n,none⟩),by simp[execOp,Z,e,wT A6],.ptr k v _ _ L I (by omega) (λ_=>rfl) rfl⟩
   ·trivial
  ·rename_i k ak i j M;split
   ·rename_i key v cont V;refine aN.pure ?_;rintro rfl φ G a w H;have E:=H.aq x O;rw[M]at E;obtain⟨hm,A1,L,I,J,_⟩:=H.mem.get V;simp only at J;have e:=E.lj I J;refine⟨.pointer (some ⟨L.dO,L.base+i*L.sz+j+n,none⟩),by simp[execOp,Z,e,wT A6],.cS k v _ _ _ L I (by omega) (λ_=>by rw[adB]) rfl⟩
   ·trivial
  ·rename_i d j M;refine aN.pure ?_;rintro _ φ G a w H;have E:=H.aq x O;rw[M]at E;generalize A0:a.eval x=av at E;cases E with
   |ea _ _ b off A8 A2 A3 A9 A4=>
    refine⟨.pointer (some ⟨b,off+(j+n),none⟩),by simp[execOp,Z,A0,wT A6,adB],.ea d (j+n) b off A8 A2 A3 A9 A4⟩
  ·trivial
 ·trivial
def jG(m:Mem)(p:AV):dF:=
 match p with
 | .ptr k ak off=>match Mem.get m k with
  |some ⟨_,v,_⟩=>.val (v=ak) (.ptr k ak off)
  |none=>.no
 | .cS k ak i j=>match Mem.get m k with
  |some ⟨_,v,_⟩=>.val (v=ak) (.cS k ak i j)
  |none=>.no
 | .ea x j=>.val True (.ea x j)
 |_=>.no
theorem No(P:Program)(S:St)(o:Oper)(x:Operand)(Z:o.op=.nilCheck x)(O:(S.aq x).1=true):aN P S o (jG S.mem (S.aq x).2):=by
 unfold jG;split
 ·rename_i k ak off M;split
  ·rename_i key v cont V;refine aN.pure ?_;rintro rfl φ G a w H;have E:=H.aq x O;rw[M]at E;obtain⟨hm,A1,L,I,J,_⟩:=H.mem.get V;simp only at J;have e:=E.se I J;exact⟨_,by simp only[execOp,Z,e];rfl,.ptr k v _ _ L I (by omega) (λ_=>rfl) rfl⟩
  ·trivial
 ·rename_i k ak i j M;split
  ·rename_i key v cont V;refine aN.pure ?_;rintro rfl φ G a w H;have E:=H.aq x O;rw[M]at E;obtain⟨hm,A1,L,I,J,_⟩:=H.mem.get V;simp only at J;have e:=E.lj I J;exact⟨_,by simp only[execOp,Z,e];rfl,.cS k v _ _ _ L I (by omega) (λ_=>rfl) rfl⟩
  ·trivial
 ·rename_i d j M;refine aN.pure ?_;rintro _ φ G a w H;have E:=H.aq x O;rw[M]at E;generalize A0:a.eval x=av at E;cases E with
  |ea _ _ b off A8 A2 A3 A9 A4=>
   exact⟨.pointer (some ⟨b,off+j,none⟩),by simp only[execOp,Z,A0];rfl,.ea d j b off A8 A2 A3 A9 A4⟩
 ·trivial
theorem kh{φ w F k n v}(h:aF φ w F (.d (.int k n)) v):v=.int k n:=by cases h with|d _ _ h=>cases h;rfl
theorem tY{φ w F b v}(h:aF φ w F (.d (.bool b)) v):v=.bool b:=by cases h with|d _ _ h=>cases h;rfl
theorem uy{φ w F s v}(h:aF φ w F (.d (.str s)) v):∃b:ByteArray,v=.string b/\b.data.toList=s:=by cases h with|d _ _ h=>cases h with|str b _ h=>exact⟨b,rfl,h⟩
theorem uz{P:Program}{t:TypeId}{n e}(h:tk P t=.arr n e):P.underlying t=some (.array n e):=by
 unfold tk at h;split at h<;>simp_all
theorem oB{P:Program}{t:TypeId}(h:tk P t=.str):P.underlying t=some .string:=by
 unfold tk at h;split at h<;>simp_all
theorem GH{P:Program}{t:TypeId}(h:tk P t=.bool):P.underlying t=some .bool:=by
 unfold tk at h;split at h<;>simp_all
theorem xE{P:Program}{t:TypeId}{k}(h:tk P t=.int k):P.underlying t=some (.int k):=by
 unfold tk at h;split at h<;>simp_all
def nb(P:Program)(m:Mem)(t:TypeId)(p i:AV):dF:=
 match i with
 | .d (.int _ n)=>match tk P t with
  | .slice e=>match fT P e with
   |some sz=>match p with
    | .d (.list xs)=>.val (0<=n/\n.toNat<xs.length/\(D.at xs n.toNat).size=sz) (.ea (D.at xs n.toNat) 0)
    | .vec k ak off len=>match Mem.get m k with
     |some ⟨_,v,.vec A7 _⟩=>.val (v=ak/\0<=n/\n.toNat<len/\A7=sz) (.cS k ak (off+n.toNat) 0)
     |some ⟨_,v,.vv _ _⟩=>.val (v=ak/\0<=n/\n.toNat<len/\sz=1) (.cS k ak (off+n.toNat) 0)
     |_=>.no
    |_=>.no
   |none=>.no
  | .arr len e=>match fT P e with
   |some sz=>match p with
    | .ptr k ak off=>match Mem.get m k with
     |some ⟨_,v,_⟩=>.val (v=ak/\0<=n/\n.toNat<len) (.ptr k ak (off+n.toNat*sz))
     |none=>.no
    | .cS k ak i j=>match Mem.get m k with
     |some ⟨_,v,.vec A7 _⟩=>if A7=1/\sz=1/\j=0 then .val (v=ak/\0<=n/\n.toNat<len) (.cS k ak (i+n.toNat) 0)else .val (v=ak/\0<=n/\n.toNat<len) (.cS k ak i (j+n.toNat*sz))
     |some ⟨_,v,_⟩=>.val (v=ak/\0<=n/\n.toNat<len) (.cS k ak i (j+n.toNat*sz))
     |none=>.no
    | .ea x j=>.val (0<=n/\n.toNat<len) (.ea x (j+n.toNat*sz))
    |_=>.no
   |none=>.no
  |_=>.no
 |_=>.no
theorem qR{P:Program}{t e:TypeId}{sz b o len cap:Nat}{k:IntKind}{n:Int}{w:World}(A':P.underlying t=some (.slice e))(Y:fT P e=some sz)(T:0<=n)(U:n.toNat<len):
 (Instr.indexAt t (.slice (some ⟨b,o,none⟩) len cap) (.int k n)).run P w=.ok (.pointer (some ⟨b,o+n.toNat*sz,none⟩)) w:=by
 have A6:n<(len:Int):=by omega
 simp[Instr.indexAt,asIntOf,run_underlying A',run_sizeOf Y,T,A6,fU]
theorem nc{P:Program}{t e:TypeId}{sz b o len:Nat}{k:IntKind}{n:Int}{w:World}(A':P.underlying t=some (.array len e))(Y:fT P e=some sz)(T:0<=n)(U:n.toNat<len):
 (Instr.indexAt t (.pointer (some ⟨b,o,none⟩)) (.int k n)).run P w=.ok (.pointer (some ⟨b,o+n.toNat*sz,none⟩)) w:=by
 have A6:n<(len:Int):=by omega
 simp[Instr.indexAt,Instr.sureAddr,asIntOf,run_underlying A',run_sizeOf Y,T,A6,fU]
theorem ad2{w F xs b off cap len}(h:aQ w F (.list xs) (.slice (some ⟨b,off,none⟩) len cap)){i sz:Nat}(hi:i<xs.length)(Y:(D.at xs i).size=sz):
 len=xs.length/\b<w.heap.size/\¬F b/\∃v,aQ w F (D.at xs i) v/\∀(j:Nat) c,v.cells[j]?=some c->w.cell? ⟨b,off+i*sz+j,none⟩=some c:=by
 generalize O:D.list xs=x at h;generalize E:Value.slice (some ⟨b,off,none⟩) len cap=v at h;cases h with
 |nil a c=>simp at O;subst O;simp at hi
 |list AR AS AT AU A7 vs AW A2 A3 AC AH A4=>
  simp at O E;obtain⟨⟨rfl,rfl⟩,rfl,rfl⟩:=E;subst O;have:A7=sz:=by rw[<-Y,AC _ (abk (j9 hi))]
  subst this;exact⟨rfl,A2,A3,vs i,AH i _ (j9 hi),λj c AI=>A4 i j c hi AI⟩
 |_=>simp at O
theorem UZ{w F xs v}(h:aQ w F (.list xs) v)(AJ:xs≠[]):∃b off cap,v=.slice (some ⟨b,off,none⟩) xs.length cap:=by
 cases h with
 |nil a c=>exact absurd rfl AJ
 |list b off cap sz vs=>exact⟨_,_,_,rfl⟩
theorem YG(P:Program)(S:St)(o:Oper)(t:TypeId)(x i:Operand)(Z:o.op=.indexAddr t x i)(O:(S.aq x).1=true)(hi:(S.aq i).1=true):aN P S o (nb P S.mem t (S.aq x).2 (S.aq i).2):=by
 unfold nb;split
 ·rename_i AK n AL;have A5:∀{φ G a w},Rel φ G S a w->a.eval i=.int AK n:=λH=>by
   have:=H.aq i hi;rw[AL]at this;exact kh this
  split
  ·rename_i e AD;have A':=gr AD;split
   ·rename_i sz Y;split
    ·rename_i xs M;refine aN.pure ?_;rintro ⟨T,U,AC⟩ φ G a w H;have E:=H.aq x O;rw[M]at E;generalize A0:a.eval x=av at E;cases E with
     |d _ _ h=>
      obtain⟨b,off,cap,rfl⟩:=UZ h (by intro hh;subst hh;simp at U);obtain⟨_,A2,A3,v,E,A4⟩:=ad2 h U AC;refine⟨_,by simp only[execOp,Z,A0,A5 H,Sem.run_bind,qR A' Y T U];rfl,?_⟩;exact .ea (D.at xs n.toNat) 0 b (off+n.toNat*sz) v A2 A3 E A4
    ·rename_i k ak off len M;split
     ·rename_i key v A7 aj V;refine aN.pure ?_;rintro ⟨rfl,T,U,rfl⟩ φ G a w H;have E:=H.aq x O;rw[M]at E;obtain⟨hm,A1,L,I,J,AA⟩:=H.mem.get V;simp only at J;generalize A0:a.eval x=av at E;cases E with
      |vec _ _ _ _ _ L' AB _ h _=>
       rw[I]at AB;cases AB;obtain⟨ao,cap,rfl,AM,AE⟩:=h J.symm;clear h;obtain⟨rfl,AN⟩:=AE (by omega);refine⟨_,by simp only[execOp,Z,A0,A5 H,Sem.run_bind,qR A' Y T U];rfl,?_⟩;exact .cS k v _ 0 _ L I (by omega) (λ_=>by rw[AA.1,afP,af5,adB]) rfl
     ·rename_i key v aj y V;refine aN.pure ?_;rintro ⟨rfl,T,U,rfl⟩ φ G a w H;have E:=H.aq x O;rw[M]at E;obtain⟨hm,A1,L,I,J,AA⟩:=H.mem.get V;simp only at J;generalize A0:a.eval x=av at E;cases E with
      |vec _ _ _ _ _ L' AB _ h _=>
       rw[I]at AB;cases AB;obtain⟨ao,cap,rfl,AM,AE⟩:=h J.symm;clear h;obtain⟨rfl,AN⟩:=AE (by omega);refine⟨_,by simp only[execOp,Z,A0,A5 H,Sem.run_bind,qR A' Y T U];rfl,?_⟩;exact .cS k v _ 0 _ L I (by omega) (λ_=>by rw[AA.1.1,afP,af5,adB]) rfl
     ·trivial
    ·trivial
   ·trivial
  ·rename_i len e AD;have A':=uz AD;split
   ·rename_i sz Y;split
    ·rename_i k ak off M;split
     ·rename_i key v cont V;refine aN.pure ?_;rintro ⟨rfl,T,U⟩ φ G a w H;have E:=H.aq x O;rw[M]at E;obtain⟨hm,A1,L,I,J,_⟩:=H.mem.get V;simp only at J;have e:=E.se I J;refine⟨_,by simp only[execOp,Z,e,A5 H,Sem.run_bind,nc A' Y T U];rfl,.ptr k v _ _ L I (by omega) (λ_=>rfl) rfl⟩
     ·trivial
    ·rename_i k ak AX j M;split
     ·rename_i key v A7 aj V;split
      ·rename_i AO;obtain⟨rfl,rfl,rfl⟩:=AO;refine aN.pure ?_;rintro ⟨rfl,T,U⟩ φ G a w H;have E:=H.aq x O;rw[M]at E;obtain⟨hm,A1,L,I,J,AA⟩:=H.mem.get V;simp only at J;have e:=E.lj I J;have AP:L.sz=1:=AA.1;refine⟨_,by simp only[execOp,Z,e,A5 H,Sem.run_bind,nc A' Y T U];rfl,.cS k v _ _ _ L I (by omega) (λ_=>by rw[AP];simp[adB]) rfl⟩
      ·refine aN.pure ?_;rintro ⟨rfl,T,U⟩ φ G a w H;have E:=H.aq x O;rw[M]at E;obtain⟨hm,A1,L,I,J,_⟩:=H.mem.get V;simp only at J;have e:=E.lj I J;refine⟨_,by simp only[execOp,Z,e,A5 H,Sem.run_bind,nc A' Y T U];rfl,.cS k v _ _ _ L I (by omega) (λ_=>by rw[adB]) rfl⟩
     ·rename_i key v cont _ V;refine aN.pure ?_;rintro ⟨rfl,T,U⟩ φ G a w H;have E:=H.aq x O;rw[M]at E;obtain⟨hm,A1,L,I,J,_⟩:=H.mem.get V;simp only at J;have e:=E.lj I J;refine⟨_,by simp only[execOp,Z,e,A5 H,Sem.run_bind,nc A' Y T U];rfl,.cS k v _ _ _ L I (by omega) (λ_=>by rw[adB]) rfl⟩
     ·trivial
    ·rename_i d j M;refine aN.pure ?_;rintro ⟨T,U⟩ φ G a w H;have E:=H.aq x O;rw[M]at E;generalize A0:a.eval x=av at E;cases E with
     |ea _ _ b off A8 A2 A3 A9 A4=>
      refine⟨.pointer (some ⟨b,off+(j+n.toNat*sz),none⟩),by simp[execOp,Z,A0,A5 H,nc A' Y T U,adB],.ea d _ b off A8 A2 A3 A9 A4⟩
    ·trivial
   ·trivial
  ·trivial
 ·trivial
def fG(op:BinOp)(k:IntKind)(a b:Int):Option (Bool×D):=
 match op with
 | .add=>some (true,.int k (k.wrap (a+b)))
 | .sub=>some (true,.int k (k.wrap (a-b)))
 | .mul=>some (true,.int k (k.wrap (a*b)))
 | .quo=>some (b≠0,.int k (k.wrap (a.tdiv b)))
 | .rem=>some (b≠0,.int k (a.tmod b))
 | .and=>some (true,.int k (k.wrap (BitVec.ofInt k.bits a &&& BitVec.ofInt k.bits b).toNat))
 | .or=>some (true,.int k (k.wrap (BitVec.ofInt k.bits a ||| BitVec.ofInt k.bits b).toNat))
 | .xor=>some (true,.int k (k.wrap (BitVec.ofInt k.bits a ^^^ BitVec.ofInt k.bits b).toNat))
 | .andNot=>some (true,.int k (k.wrap (BitVec.ofInt k.bits a &&& ~~~BitVec.ofInt k.bits b).toNat))
 | .eql=>some (true,.bool (a == b))
 | .neq=>some (true,.bool (a != b))
 | .lss=>some (true,.bool (decide (a<b)))
 | .leq=>some (true,.bool (decide (a<=b)))
 | .gtr=>some (true,.bool (decide (b<a)))
 | .geq=>some (true,.bool (decide (b<=a)))
 |_=>none
def DA(op:BinOp)(k:IntKind)(a b:Int):Option (Bool×D):=
 match op with
 | .shl=>some (0<=b,.int k (k.wrap (a*2^(min b.toNat k.bits))))
 | .shr=>some (0<=b,.int k (a.fdiv (2^(min b.toNat k.bits))))
 |_=>none
def nf(op:BinOp)(s t:List UInt8):Option (Bool×D):=
 match op with
 | .add=>some (s.length+t.length<=4611686018427387904,.str (s++t))
 | .eql=>some (true,.bool (s == t))
 | .neq=>some (true,.bool (!(s == t)))
 | .lss=>some (true,.bool (Op.bytesLess s t))
 | .leq=>some (true,.bool (Op.bytesLess s t||s == t))
 | .gtr=>some (true,.bool (!(Op.bytesLess s t||s == t)))
 | .geq=>some (true,.bool (!Op.bytesLess s t))
 |_=>none
def uA:TK->D->D->Option Bool
 | .int _,.int k a,.int A7 b=>if k=A7 then some (a == b)else none
 | .bool,.bool a,.bool b=>some (a == b)
 | .str,.str a,.str b=>some (a == b)
 |_,_,_=>none
def eI:List TK->List D->List D->Option Bool
 |[],[],[]=>some true
 |k::ks,x::xs,y::T=>match uA k x y,eI ks xs T with
  |some a,some b=>some (a&&b)
  |_,_=>none
 |_,_,_=>none
def AG(rec:TypeId->Option (List TK)):List Field->Nat->Option (List TK)
 |[],_=>some []
 |f::A0,o=>if f.name≠ "_" /\f.offset=o then (match rec f.type with
  |some ks=>match AG rec A0 (o+ks.length)with
   |some r=>some (ks++r)
   |none=>none
  |none=>none)else none
def EM(P:Program):Nat->TypeId->Option (List TK)
 |0,_=>none
 |n+1,t=>match tk P t with
  | .int k=>some [.int k]
  | .bool=>some [.bool]
  | .str=>some [.str]
  | .struct=>match P.underlying t with
   |some (.struct A0)=>if P.stoodInHeld t=false then (match AG (EM P n) A0.toList 0 with
    |some ks=>if fT P t=some ks.length then some ks else none
    |none=>none)else none
   |_=>none
  |_=>none
def cB(P:Program)(t:TypeId):Option (List TK):=
 match P.underlying t with
 |some (.struct _)=>if P.eqGuardType P.depth t=false then EM P 8 t else none
 |_=>none
def qT(P:Program)(op:BinOp)(t:TypeId)(x y:AV):dF:=
 match x,y with
 | .d (.int k a),.d (.int A7 b)=>match op with
  | .shl=>.val (0<=b) (.d (.int k (k.wrap (a*2^(min b.toNat k.bits)))))
  | .shr=>.val (0<=b) (.d (.int k (a.fdiv (2^(min b.toNat k.bits)))))
  |op=>match fG op k a b with
   |some (c,d)=>.val (k=A7/\c) (.d d)
   |none=>.no
 | .d (.str a),.d (.str b)=>match nf op a b with
  |some (c,d)=>.val c (.d d)
  |none=>.no
 | .d (.bool a),.d (.bool b)=>match op with
  | .eql=>.val (tk P t=.bool) (.d (.bool (a == b)))
  | .neq=>.val (tk P t=.bool) (.d (.bool (a != b)))
  |_=>.no
 | .d (.agg a),.d (.agg b)=>match cB P t with
  |some ks=>match eI ks a b with
   |some r=>match op with
    | .eql=>.val True (.d (.bool r))
    | .neq=>.val True (.d (.bool (!r)))
    |_=>.no
   |none=>.no
  |none=>.no
 |_,_=>.no
theorem JM(P:Program)(w:World)(op:BinOp)(t:TypeId)(x y:Operand)(a b:Value)(h:(∀c,a≠.agg c)/\a≠.nilIface):(eqGuard op t x y a b).run P w=.ok () w:=by
 unfold eqGuard;cases a<;>first|exact absurd rfl (h.1 _)|exact absurd rfl h.2|(cases op<;>simp)
theorem RN(P:Program)(w:World)(op:BinOp)(t:TypeId)(k:IntKind)(a b:Int)(c d)(h:fG op k a b=some (c,d))(J:c=true):∃v,(binOp op t (.int k a) (.int k b)).run P w=.ok v w/\∀F,aQ w F d v:=by
 cases op<;>simp only[fG,abp,adI,reduceCtorEq]at h<;>(try exact h.elim)<;>obtain⟨rfl,rfl⟩:=h<;>(try simp only[aa8]at J)<;>
  refine⟨_,by simp only[binOp,Op.intArith,Op.intDiv,Op.intBits,Op.intCmp,ne_eq,not_true_eq_false,adW,J,Sem.run_pure,gt_iff_lt,ge_iff_le];rfl,λF=>by first|exact .int _ _|exact .bool _⟩
theorem AH(P:Program)(w:World)(op:BinOp)(t:TypeId)(k A7:IntKind)(a b:Int)(c d)(h:DA op k a b=some (c,d))(J:c=true):∃v,(binOp op t (.int k a) (.int A7 b)).run P w=.ok v w/\∀F,aQ w F d v:=by
 cases op<;>simp only[DA,abp,adI,reduceCtorEq]at h<;>(try exact h.elim)<;>obtain⟨rfl,rfl⟩:=h<;>(try simp only[aa8]at J)<;>
  refine⟨_,by simp[binOp,Op.shift,show ¬b<0 by omega];rfl,λF=>by first|exact .int _ _|exact .bool _⟩
theorem RO(P:Program)(w:World)(op:BinOp)(t:TypeId)(a b:ByteArray)(c d)(h:nf op a.data.toList b.data.toList=some (c,d))(J:c=true):∃v,(binOp op t (.string a) (.string b)).run P w=.ok v w/\∀F,aQ w F d v:=by
 have Ag:a.size=a.data.toList.length:=by rw[adF];rfl
 have Ah:b.size=b.data.toList.length:=by rw[adF];rfl
 cases op<;>simp only[nf,abp,adI,reduceCtorEq]at h<;>(try exact h.elim)<;>obtain⟨rfl,rfl⟩:=h
 case add=>
  simp only[aa8]at J;have B6:¬(9223372036854775807<((a.size:Int)+(b.size:Int))):=by omega
  refine⟨.string (a++b),?_,λF=>.str _ _ (by simp)⟩;have Ar:IntKind.i64.max=9223372036854775807:=by decide
  have:¬(((a.size+b.size:Nat):Int)>IntKind.i64.max):=by rw[Ar];push_cast;omega
  simp only[binOp,Op.stringOp,this,adW,Sem.run_pure]
 all_goals
  refine⟨_,by simp only[binOp,Op.stringOp,ByteArray.toList_eq,Sem.run_pure],λF=>.bool _⟩
theorem RQ{P:Program}{w:World}{F:Nat->Prop}{x y:D}{a b:Value}{r:Bool}{t:TypeId}(d:Nat)(h:uA (tk P t) x y=some r)(A':aQ w F x a)(A1:aQ w F y b):
 (Op.equalIn (d+1) t a b).run P w=.ok r w:=by
 unfold uA at h;split at h
 ·rename_i A7 k n Ai m AA;split at h
  ·rename_i he;subst he;simp at h;subst h;cases A';cases A1;exact run_equalIn_int w d t k _ n m (xE AA)
  ·cases h
 ·rename_i n m AA;simp at h;subst h;cases A';cases A1;exact run_equalIn_bool' w d t n m (GH AA)
 ·rename_i n m AA;simp at h;subst h;cases A' with|str n _ As=>cases A1 with|str m _ hm=>
  subst As;subst hm;rw[run_equalIn_string w d t n m (oB AA),ByteArray.toList_eq,ByteArray.toList_eq]
 ·cases h
theorem uB{P:Program}{w:World}{t:TypeId}{cs:Array Value}{off:Nat}{v:Value}(h:(tk P t).agg=false)(A8:tk P t≠.other)(H:cs[off]?=some v):(part t cs off).run P w=.ok v w:=by
 simp[part,sd A8,h,H]
theorem rK:∀{ks:List TK}{xs T:List D}{r:Bool},eI ks xs T=some r->xs.length=ks.length/\T.length=ks.length
 |[],[],[],_,_=>⟨rfl,rfl⟩
 |k::ks,x::xs,y::T,r,h=>by
  simp only[eI]at h;split at h
  ·rename_i M;obtain⟨a,b⟩:=rK M;simp[a,b]
  ·cases h
 |[],[],_::_,_,h=>by simp[eI]at h
 |[],_::_,_,_,h=>by simp[eI]at h
 |_::_,[],_,_,h=>by simp[eI]at h
 |_::_,_::_,[],_,h=>by simp[eI]at h
theorem CY:∀{a b:List TK}{xs T:List D}{r:Bool},eI (a++b) xs T=some r->∃p q,eI a (xs.take a.length) (T.take a.length)=some p/\eI b (xs.drop a.length) (T.drop a.length)=some q/\r=(p&&q)
 |[],b,xs,T,r,h=>⟨true,r,by simp[eI],by simpa using h,by simp⟩
 |k::a,b,x::xs,y::T,r,h=>by
  simp only[agd,eI]at h;split at h
  ·rename_i u v O M;obtain⟨p,q,A4,A5,Au⟩:=CY M;cases h;refine⟨u&&p,q,?_,by simpa using A5,by rw[Au,Bool.and_assoc]⟩;simp only[abb,List.take_succ_cons,eI,O,A4]
  ·cases h
 |_::_,_,[],_,_,h=>by simp[eI]at h
 |_::_,_,_::_,[],_,h=>by simp[eI]at h
theorem yM{P:Program}{w:World}{F:Nat->Prop}{rec:TypeId->Option (List TK)}{Aj:Nat}{V Y:Array Value}
 (ih:∀(t:TypeId)(ks:List TK),rec t=some ks->∀(o:Nat)(xs T:List D)(r:Bool),eI ks xs T=some r->(∀(i:Nat) c v,xs[i]?=some c->V[o+i]?=some v->aQ w F c v)->(∀(i:Nat) c v,T[i]?=some c->Y[o+i]?=some v->aQ w F c v)->
  o+xs.length<=V.size->o+T.length<=Y.size->∃a b,(part t V o).run P w=.ok a w/\(part t Y o).run P w=.ok b w/\(Op.equalIn Aj t a b).run P w=.ok r w):
 ∀(A0:List Field)(o:Nat)(ks:List TK),AG rec A0 o=some ks->∀(xs T:List D)(r:Bool),eI ks xs T=some r->(∀(i:Nat) c v,xs[i]?=some c->V[o+i]?=some v->aQ w F c v)->(∀(i:Nat) c v,T[i]?=some c->Y[o+i]?=some v->aQ w F c v)->
  o+xs.length<=V.size->o+T.length<=Y.size->(Op.eqFields Aj V Y A0).run P w=.ok r w
 |[],o,ks,U,xs,T,r,h,_,_,_,_=>by
  simp only[AG,abp]at U;subst U;cases xs<;>cases T<;>simp[eI]at h;subst h;simp[Op.eqFields]
 |f::A0,o,ks,U,xs,T,r,h,A',A1,AN,AO=>by
  simp only[AG]at U;split at U
  ·rename_i AB;obtain⟨Av,Aw⟩:=AB;split at U
   ·rename_i AJ O;split at U
    ·rename_i Ai M;cases U;obtain⟨p,q,A4,A5,rfl⟩:=CY h;obtain⟨AK,AL⟩:=rK h;simp only[aa9]at AK AL;obtain⟨a,b,g1,g2,g3⟩:=ih f.type AJ O o _ _ p A4 (λi c v J H=>A' i c v (by rw[ads]at J;split at J;exact J;cases J) H) (λi c v J H=>A1 i c v (by rw[ads]at J;split at J;exact J;cases J) H) (by simp;omega) (by simp;omega);have g4:=yM ih A0 (o+AJ.length) Ai M _ _ q A5 (λi c v J H=>A' (AJ.length+i) c v (by rw[adK]at J;exact J) (by rw[<-adB];exact H)) (λi c v J H=>A1 (AJ.length+i) c v (by rw[adK]at J;exact J) (by rw[<-adB];exact H)) (by simp;omega) (by simp;omega);rw[<-Aw]at g1 g2;simp only[Op.eqFields,Av,ne_eq,not_false_eq_true,afz,Sem.run_bind,g1,g2,g3,Result.andThen_ok,Sem.run_ite,Sem.run_pure,g4];cases p<;>simp
    ·cases U
   ·cases U
  ·cases U
theorem JO{P:Program}{w:World}{F:Nat->Prop}(d:Nat):∀(n:Nat)(V Y:Array Value)(t:TypeId)(ks:List TK),EM P n t=some ks->∀(o:Nat)(xs T:List D)(r:Bool),eI ks xs T=some r->
 (∀(i:Nat) c v,xs[i]?=some c->V[o+i]?=some v->aQ w F c v)->(∀(i:Nat) c v,T[i]?=some c->Y[o+i]?=some v->aQ w F c v)->o+xs.length<=V.size->o+T.length<=Y.size->
 ∃a b,(part t V o).run P w=.ok a w/\(part t Y o).run P w=.ok b w/\(Op.equalIn (d+n) t a b).run P w=.ok r w
 |0,_,_,_,_,U,_,_,_,_,_,_,_,_,_=>by cases U
 |n+1,V,Y,t,ks,U,o,xs,T,r,h,A',A1,AN,AO=>by
  have one:∀k:TK,tk P t=k->k.agg=false->k≠.other->ks=[k]->∃a b,(part t V o).run P w=.ok a w/\(part t Y o).run P w=.ok b w/\(Op.equalIn (d+(n+1)) t a b).run P w=.ok r w:=by
   rintro k A2 Ak Al rfl;obtain⟨AK,AL⟩:=rK h;match xs,T,AK,AL with
   |[x],[y],_,_=>
    simp only[eI]at h;split at h
    ·rename_i u v O M;cases h;have H:v=true:=by simpa using M.symm
     subst H;simp only[anV];simp only[abb,abn]at AN AO;have A4:=uB (P:=P) (w:=w) (t:=t) (by rw[A2];exact Ak) (by rw[A2];exact Al) (show V[o]?=some V[o] by simp[show o<V.size by omega]);have A5:=uB (P:=P) (w:=w) (t:=t) (by rw[A2];exact Ak) (by rw[A2];exact Al) (show Y[o]?=some Y[o] by simp[show o<Y.size by omega]);exact⟨_,_,A4,A5,RQ (d+n) (by rw[A2];exact O) (A' 0 x _ rfl (by simp[show o<V.size by omega])) (A1 0 y _ rfl (by simp[show o<Y.size by omega]))⟩
    ·cases h
  unfold EM at U;split at U
  ·rename_i k A2;exact one _ A2 rfl (by simp) (by cases U;rfl)
  ·rename_i A2;exact one _ A2 rfl (by simp) (by cases U;rfl)
  ·rename_i A2;exact one _ A2 rfl (by simp) (by cases U;rfl)
  ·rename_i A2;split at U
   ·rename_i A0 hu;split at U
    ·rename_i AP;split at U
     ·rename_i AE AQ;split at U
      ·rename_i Ax;cases U;obtain⟨AK,AL⟩:=rK h;have An:∀cs:Array Value,(part t cs o).run P w=.ok (.agg (cs.extract o (o+ks.length))) w:=by
        intro cs;have Ag:=sd (P:=P) (t:=t) (w:=w) (by rw[A2];simp);simp[part,Ag,A2,TK.agg,run_sizeOf Ax]
       refine⟨_,_,An V,An Y,?_⟩;have AB:P.fieldsOf t=A0:=by simp[Program.fieldsOf,hu]
       show (Op.equalIn (d+n+1) t _ _).run P w=_;rw[run_equalIn_struct w (d+n) t _ _ (by rw[AB];exact hu) AP,AB];have hex:∀(cs:Array Value)(i:Nat)(v:Value),i<ks.length->(cs.extract o (o+ks.length))[0+i]?=some v->cs[o+i]?=some v:=by
        intro cs i v hi H;rw[afO,Array.getElem?_extract]at H;split at H
        ·exact H
        ·cases H
       refine yM (F:=F) (λA9 AE AR AS AT AU AW AX AY AZ A_ Aa=>JO d n _ _ A9 AE AR AS AT AU AW AX AY AZ A_ Aa) A0.toList 0 ks AQ xs T r h (λi c v J H=>?_) (λi c v J H=>?_) ?_ ?_
       ·have hi:=(aa1.1 J).1;exact A' i c v J (hex V i v (by omega) H)
       ·have hi:=(aa1.1 J).1;exact A1 i c v J (hex Y i v (by omega) H)
       ·simp;omega
       ·simp;omega
      ·cases U
     ·cases U
    ·cases U
   ·cases U
  ·cases U
theorem N3(P:Program)(S:St)(o:Oper)(op:BinOp)(t A9:TypeId)(x y:Operand)(A8:o.op=.binOp op t x y A9)(A':(S.aq x).1=true)(A1:(S.aq y).1=true):aN P S o (qT P op t (S.aq x).2 (S.aq y).2):=by
 have AD:∀(a:Act)(w:World)(v:Value),(∀c,a.eval x≠.agg c)->a.eval x≠.nilIface->(binOp op t (a.eval x) (a.eval y)).run P w=.ok v w->(execOp a.eval o).run P w=.ok (.value v) w:=by
  intro a w v O M h;simp[execOp,A8,JM P w op t x y _ (a.eval y) ⟨O,M⟩,h]
 unfold qT;split
 ·rename_i k n A7 m Z AC;have I:∀{φ G a w},Rel φ G S a w->a.eval x=.int k n/\a.eval y=.int A7 m:=λE=>by
   have O:=E.aq x A';have M:=E.aq y A1;rw[Z]at O;rw[AC]at M;exact⟨kh O,kh M⟩
  split
  ·refine aN.pure λJ φ G a w E=>?_;obtain⟨v,O,M⟩:=AH P w .shl t k A7 n m _ _ rfl (af7 J);exact⟨v,AD a w v (by simp[(I E).1]) (by simp[(I E).1]) (by rw[(I E).1,(I E).2];exact O),.d _ _ (M _)⟩
  ·refine aN.pure λJ φ G a w E=>?_;obtain⟨v,O,M⟩:=AH P w .shr t k A7 n m _ _ rfl (af7 J);exact⟨v,AD a w v (by simp[(I E).1]) (by simp[(I E).1]) (by rw[(I E).1,(I E).2];exact O),.d _ _ (M _)⟩
  ·split
   ·rename_i c d h;refine aN.pure ?_;rintro ⟨rfl,J⟩ φ G a w E;obtain⟨v,O,M⟩:=RN P w op t k n m c d h J;exact⟨v,AD a w v (by simp[(I E).1]) (by simp[(I E).1]) (by rw[(I E).1,(I E).2];exact O),.d _ _ (M _)⟩
   ·trivial
 ·rename_i s u Z AC;split
  ·rename_i c d h;refine aN.rJ λJ φ G a w E=>?_;have O:=E.aq x A';have M:=E.aq y A1;rw[Z]at O;rw[AC]at M;obtain⟨Ay,A4,rfl⟩:=uy O;obtain⟨Az,A5,rfl⟩:=uy M;obtain⟨v,Ab,Ac⟩:=RO P w op t Ay Az c d h J;exact⟨v,AD a w v (by simp[A4]) (by simp[A4]) (by rw[A4,A5];exact Ab),.d _ _ (Ac _)⟩
  ·trivial
 ·rename_i n m Z AC;have I:∀{φ G a w},Rel φ G S a w->a.eval x=.bool n/\a.eval y=.bool m:=λE=>by
   have O:=E.aq x A';have M:=E.aq y A1;rw[Z]at O;rw[AC]at M;exact⟨tY O,tY M⟩
  split
  ·refine aN.pure λJ φ G a w E=>⟨.bool (n == m),AD a w _ (by simp[(I E).1]) (by simp[(I E).1]) ?_,.d _ _ (.bool _)⟩;rw[(I E).1,(I E).2];simp[binOp,Op.equal,Op.maxDepth,run_equalIn_bool' w 9999 t n m (GH J)]
  ·refine aN.pure λJ φ G a w E=>⟨.bool (n != m),AD a w _ (by simp[(I E).1]) (by simp[(I E).1]) ?_,.d _ _ (.bool _)⟩;rw[(I E).1,(I E).2];simp[binOp,Op.equal,Op.maxDepth,run_equalIn_bool' w 9999 t n m (GH J),bne]
  ·trivial
 ·rename_i xs T Z AC;split
  ·rename_i ks A3;split
   ·rename_i r B';have key:∀{φ G a w},Rel φ G S a w->∃V Y,a.eval x=.agg V/\a.eval y=.agg Y/\(Op.equal t (.agg V) (.agg Y)).run P w=.ok r w/\(eqGuard op t x y (.agg V) (.agg Y)).run P w=.ok () w:=by
     intro φ G a w E;have O:=E.aq x A';have M:=E.aq y A1;rw[Z]at O;rw[AC]at M;generalize a.eval x=B7 at O;generalize a.eval y=B8 at M;cases O with|d _ _ O=>
     cases M with|d _ _ M=>
     cases O with|agg _ V AN B9 B0=>
     cases M with|agg _ Y AO BA B1=>
     unfold cB at A3;split at A3
     ·rename_i A0 hu;split at A3
      ·rename_i B2;have AB:P.fieldsOf t=A0:=by simp[Program.fieldsOf,hu]
       have AA:tk P t=.struct:=by simp[tk,hu]
       unfold EM at A3;simp only[AA,hu]at A3;split at A3
       ·rename_i AP;split at A3
        ·rename_i AE AQ;split at A3
         ·cases A3;refine⟨V,Y,rfl,rfl,?_,?_⟩
          ·unfold Op.equal Op.maxDepth;rw[run_equalIn_struct w 9999 t V Y (by rw[AB];exact hu) AP,AB];exact yM (F:=Fo G φ S.mem) (λA9 AE AR AS AT AU AW AX AY AZ A_ Aa=>JO 9992 7 _ _ A9 AE AR AS AT AU AW AX AY AZ A_ Aa) A0.toList 0 ks AQ xs T r B' (λi c v J H=>B0 i c v J (by simpa using H)) (λi c v J H=>B1 i c v J (by simpa using H)) (by omega) (by omega)
          ·cases op<;>simp[eqGuard,B2]
         ·cases A3
        ·cases A3
       ·cases A3
      ·cases A3
     ·cases A3
    split
    ·refine aN.pure λ_ φ G a w E=>?_;obtain⟨V,Y,A4,A5,O,M⟩:=key E;exact⟨.bool r,by simp[execOp,A8,A4,A5,M,binOp,O],.d _ _ (.bool _)⟩
    ·refine aN.pure λ_ φ G a w E=>?_;obtain⟨V,Y,A4,A5,O,M⟩:=key E;exact⟨.bool (!r),by simp[execOp,A8,A4,A5,M,binOp,O],.d _ _ (.bool _)⟩
    ·trivial
   ·trivial
  ·trivial
 ·trivial
def j7(P:Program)(m:Mem)(neg:Bool)(t:TypeId)(x:AV):Value->dF
 | .slice none 0 0=>match tk P t with
  | .slice _=>match x with
   | .d (.list (_::_))=>.val true (.d (.bool neg))
   | .lit (.slice none 0 0)=>.val true (.d (.bool (!neg)))
   | .nn=>.val true (.d (.bool neg))
   | .vec k ak _ len=>match Mem.get m k with
    |some ⟨_,v,.vec _ _⟩=>.val (v=ak/\0<len) (.d (.bool neg))
    |_=>.no
   |_=>.no
  |_=>.no
 | .pointer none=>match tk P t with
  | .ptr _=>match x with
   | .lit (.pointer none)=>.val true (.d (.bool (!neg)))
   | .ptr k ak _=>match Mem.get m k with
    |some ⟨_,v,_⟩=>.val (v=ak) (.d (.bool neg))
    |_=>.no
   |_=>.no
  |_=>.no
 | .nilIface=>match tk P t with
  | .iface=>match x with
   | .im _ _=>.val true (.d (.bool neg))
   | .err=>.val true (.d (.bool neg))
   | .lit .nilIface=>.val true (.d (.bool (!neg)))
   |_=>.no
  |_=>.no
 |_=>.no
theorem RR{φ w F d Ad v}(h:aF φ w F (.d (.list (d::Ad))) v):∃b off cap,v=.slice (some ⟨b,off,none⟩) (Ad.length+1) cap:=by
 cases h with|d _ _ h=>
 cases h with|list _ b off cap sz vs=>exact⟨b,off,cap,rfl⟩
theorem afK{P:Program}{t e:TypeId}(h:tk P t=.ptr e):P.underlying t=some (.pointer e):=by
 unfold tk at h;split at h<;>simp_all
theorem YH{P:Program}{t:TypeId}(h:tk P t=.iface):∃ms,P.underlying t=some (.interface ms):=by
 unfold tk at h;split at h<;>simp_all
theorem rL{P:Program}(w:World)(d:Nat){t e:TypeId}(a:Option Addr)(n c:Nat)(h:P.underlying t=some (.slice e)):
 (Op.equalIn (d+1) t (.slice a n c) (.slice none 0 0)).run P w=.ok a.isNone w:=by
 cases a<;>simp[Op.equalIn,run_underlying h]
theorem HH{P:Program}(w:World)(d:Nat){t e:TypeId}(a:Option Addr)(h:P.underlying t=some (.pointer e)):
 (Op.equalIn (d+1) t (.pointer a) (.pointer none)).run P w=.ok a.isNone w:=by
 cases a<;>simp[Op.equalIn,run_underlying h]
theorem CZ{P:Program}(w:World)(d:Nat){t:TypeId}{ms}(B3:TypeId)(v:Value)(h:P.underlying t=some (.interface ms)):
 (Op.equalIn (d+1) t (.iface B3 v) .nilIface).run P w=.ok false w:=by
 simp[Op.equalIn,run_underlying h]
theorem JQ{P:Program}(w:World)(d:Nat){t:TypeId}{ms}(h:P.underlying t=some (.interface ms)):
 (Op.equalIn (d+1) t .nilIface .nilIface).run P w=.ok true w:=by
 simp[Op.equalIn,run_underlying h]
theorem ad3{P:Program}{o:Oper}{neg:Bool}{t A9:TypeId}{x:Operand}{v:Value}(A8:o.op=.binOp (if neg then .neq else .eql) t x (.const v) A9){a:Act}{w:World}{b:Bool}
 (O:∀c,a.eval x≠.agg c) (Ao:v=.slice none 0 0\/v=.pointer none\/v=.nilIface) (Ap:(∀k n,a.eval x≠.int k n)/\(∀k n,a.eval x≠.float k n)/\(∀k n m,a.eval x≠.complex k n m)/\(∀s,a.eval x≠.string s))
 (h:(Op.equalIn 10000 t (a.eval x) v).run P w=.ok b w):(execOp a.eval o).run P w=.ok (.value (.bool (if neg then !b else b))) w:=by
 have e:a.eval (.const v)=v:=rfl;have AF:(eqGuard (if neg then .neq else .eql) t x (.const v) (a.eval x) v).run P w=.ok () w:=by
  unfold eqGuard;generalize a.eval x=u at O⊢;rcases Ao with rfl|rfl|rfl<;>cases u<;>cases neg<;>simp
 have Ah:(binOp (if neg then .neq else .eql) t (a.eval x) v).run P w=.ok (.bool (if neg then !b else b)) w:=by
  generalize a.eval x=u at h Ap⊢;obtain⟨g1,g2,g3,g4⟩:=Ap;rcases Ao with rfl|rfl|rfl<;>cases u<;>cases neg<;>simp_all [binOp,Op.equal,Op.maxDepth]
 simp only[execOp,A8,e,Sem.run_bind,AF,Result.andThen_ok,Ah,Sem.run_pure]
theorem N4(P:Program)(S:St)(o:Oper)(neg:Bool)(t A9:TypeId)(x:Operand)(v:Value)(A8:o.op=.binOp (if neg then .neq else .eql) t x (.const v) A9)(A':(S.aq x).1=true):aN P S o (j7 P S.mem neg t (S.aq x).2 v):=by
 have go:∀{φ G a w}{b:Bool},Rel φ G S a w->(∀c,a.eval x≠.agg c)->(v=.slice none 0 0\/v=.pointer none\/v=.nilIface)->((∀k n,a.eval x≠.int k n)/\(∀k n,a.eval x≠.float k n)/\(∀k n m,a.eval x≠.complex k n m)/\(∀s,a.eval x≠.string s))->
  (Op.equalIn 10000 t (a.eval x) v).run P w=.ok b w->∃AM,(execOp a.eval o).run P w=.ok (.value AM) w/\aF φ w (Fo G φ S.mem) (.d (.bool (if neg then !b else b))) AM:=by
  intro φ G a w b E O M Ab Ac;exact⟨_,ad3 A8 O M Ab Ac,.d _ _ (.bool _)⟩
 have BB:∀{b:Bool},(if neg=true then !b else b)=(if neg=true then !b else b):=rfl;unfold j7;split
 ·split
  ·rename_i e AI;have A6:=gr AI;split
   ·rename_i d Ad Z;refine aN.rJ λ_ φ G a w E=>?_;have H:=E.aq x A';rw[Z]at H;obtain⟨b,off,cap,I⟩:=RR H;have:=go (b:=false) E (by simp[I]) (.inl rfl) (by simp[I]) (by rw[I];exact rL w 9999 _ _ _ A6);cases neg<;>simpa using this
   ·rename_i Z;refine aN.rJ λ_ φ G a w E=>?_;have H:=E.aq x A';rw[Z]at H;generalize I:a.eval x=u at H;cases H;have:=go (b:=true) E (by simp[I]) (.inl rfl) (by simp[I]) (by rw[I];exact rL w 9999 _ _ _ A6);cases neg<;>simpa using this
   ·rename_i Z;refine aN.rJ λ_ φ G a w E=>?_;have H:=E.aq x A';rw[Z]at H;generalize I:a.eval x=u at H;cases H;have:=go (b:=false) E (by simp[I]) (.inl rfl) (by simp[I]) (by rw[I];exact rL w 9999 _ _ _ A6);cases neg<;>simpa using this
   ·rename_i k ak off len Z;split
    ·rename_i key AM sz aj AF;refine aN.pure ?_;rintro ⟨rfl,BC⟩ φ G a w E;have H:=E.aq x A';rw[Z]at H;obtain⟨hm,U,L,Ae,Af,B4⟩:=E.mem.get AF;generalize I:a.eval x=u at H;cases H with
     |vec _ _ _ _ _ L' Aq _ h _=>
      rw[Ae]at Aq;cases Aq;obtain⟨ao,cap,rfl,BD,B5⟩:=h Af.symm;obtain⟨rfl,_⟩:=B5 (by omega);have:=go (b:=false) E (by simp[I]) (.inl rfl) (by simp[I]) (by rw[I];exact rL w 9999 _ _ _ A6);cases neg<;>simpa using this
    ·trivial
   ·trivial
  ·trivial
 ·split
  ·rename_i e AI;have A6:=afK AI;split
   ·rename_i Z;refine aN.rJ λ_ φ G a w E=>?_;have H:=E.aq x A';rw[Z]at H;generalize I:a.eval x=u at H;cases H;have:=go (b:=true) E (by simp[I]) (.inr (.inl rfl)) (by simp[I]) (by rw[I];exact HH w 9999 _ A6);cases neg<;>simpa using this
   ·rename_i k ak off Z;split
    ·rename_i key AM c AF;refine aN.pure ?_;rintro rfl φ G a w E;have H:=E.aq x A';rw[Z]at H;obtain⟨hm,U,L,Ae,Af,B4⟩:=E.mem.get AF;have I:=H.se Ae Af;have:=go (b:=false) E (by simp[I]) (.inr (.inl rfl)) (by simp[I]) (by rw[I];exact HH w 9999 _ A6);cases neg<;>simpa using this
    ·trivial
   ·trivial
  ·trivial
 ·split
  ·rename_i AI;obtain⟨ms,A6⟩:=YH AI;split
   ·rename_i BE BF Z;refine aN.rJ λ_ φ G a w E=>?_;have H:=E.aq x A';rw[Z]at H;generalize I:a.eval x=u at H;cases H;have:=go (b:=false) E (by simp[I]) (.inr (.inr rfl)) (by simp[I]) (by rw[I];exact CZ w 9999 _ _ A6);cases neg<;>simpa using this
   ·rename_i Z;refine aN.rJ λ_ φ G a w E=>?_;have H:=E.aq x A';rw[Z]at H;generalize I:a.eval x=u at H;cases H;have:=go (b:=false) E (by simp[I]) (.inr (.inr rfl)) (by simp[I]) (by rw[I];exact CZ w 9999 _ _ A6);cases neg<;>simpa using this
   ·rename_i Z;refine aN.rJ λ_ φ G a w E=>?_;have H:=E.aq x A';rw[Z]at H;generalize I:a.eval x=u at H;cases H;have:=go (b:=true) E (by simp[I]) (.inr (.inr rfl)) (by simp[I]) (by rw[I];exact JQ w 9999 A6);cases neg<;>simpa using this
   ·trivial
  ·trivial
 ·trivial
def jA(s:List UInt8)(i:Nat):UInt8:=s[i]?.getD 0
def qU(P:Program)(t:TypeId)(x i:AV):dF:=
 match i with
 | .d (.int _ n)=>match x with
  | .d (.str s)=>.val (tk P t=.str/\0<=n/\n.toNat<s.length) (.d (.int .u8 (jA s n.toNat).toNat))
  | .d (.agg cs)=>match tk P t with
   | .arr len e=>match (tk P e).agg,fT P e with
    |false,some 1=>.val (0<=n/\n.toNat<len/\len<=cs.length/\tk P e≠.other) (.d (D.at cs n.toNat))
    |true,some sz=>.val (0<=n/\n.toNat<len/\len*sz<=cs.length) (.d (.agg ((cs.drop (n.toNat*sz)).take sz)))
    |_,_=>.no
   |_=>.no
  |_=>.no
 |_=>.no
theorem U3(b:ByteArray)(i:Nat):b[i]?=b.data.toList[i]?:=by
 by_cases h:i<b.size
 ·have AK:i<b.data.size:=h;rw[getElem?_pos b i h,agh,getElem?_pos b.data i AK];rfl
 ·have AK:¬i<b.data.size:=h;rw[getElem?_neg b i h,agh,getElem?_neg b.data i AK]
theorem JR{P:Program}{w:World}{t:TypeId}{b:ByteArray}{k:IntKind}{n:Int}(AC:tk P t=.str)(V:0<=n)(J:n.toNat<b.data.toList.length):
 (Instr.index t (.string b) (.int k n)).run P w=.ok (.int .u8 (jA b.data.toList n.toNat).toNat) w:=by
 have e:b[n.toNat]?=some (jA b.data.toList n.toNat):=by rw[U3];simp only[jA];rw[adv J];rfl
 simp only[Instr.index,asIntOf,Sem.run_bind,Sem.run_pure,Result.andThen_ok,run_underlying (oB AC),V,afz,e]
theorem HI{P:Program}{w:World}{t:TypeId}{cs:Array Value}{off n:Nat}(h:(tk P t).agg=true)(A':fT P t=some n):(part t cs off).run P w=.ok (.agg (cs.extract off (off+n))) w:=by
 have M:tk P t≠.other:=by intro AK;rw[AK]at h;cases h
 simp[part,sd M,h,run_sizeOf A']
theorem Ab{w F}{cs:List D}{a:Array Value}(h:aQ w F (.agg cs) (.agg a))(o n:Nat)(hle:o+n<=cs.length):aQ w F (.agg ((cs.drop o).take n)) (.agg (a.extract o (o+n))):=by
 have Y:=h.cells;cases h with|agg _ _ J Ae H=>
 have O:=aQ.pk (w:=w) (F:=F) (cs:=(cs.drop o).take n) (vs:=(a.toList.drop o).take n) (by simp;omega)
  (λv AH=>Y.2.1 v (by simpa [Value.cells]using adM (afr AH)))
  (λi c v E O=>by
   rw[ads]at E O;split at E
   ·rename_i hi;simp only[hi,afz]at O;exact H (o+i) c v (by simpa using E) (by simpa using O)
   ·cases E)
 have e:((a.toList.drop o).take n).toArray=a.extract o (o+n):=by
  apply Array.ext';simp
 rwa [e]at O
theorem U4(P:Program)(S:St)(o:Oper)(t:TypeId)(x i:Operand)(M:o.op=.index t x i)(I:(S.aq x).1=true)(hi:(S.aq i).1=true):aN P S o (qU P t (S.aq x).2 (S.aq i).2):=by
 unfold qU;split
 ·rename_i k n AY;split
  ·rename_i s T;refine aN.pure ?_;rintro ⟨AC,V,J⟩ φ G a w H;have E:=H.aq x I;have O:=H.aq i hi;rw[T]at E;rw[AY]at O;obtain⟨b,A3,rfl⟩:=uy E;exact⟨_,by simp only[execOp,M,A3,kh O,Sem.run_bind,JR AC V J];rfl,.d _ _ (.int _ _)⟩
  ·rename_i cs T;split
   ·rename_i len e U;split
    ·rename_i AZ A';refine aN.pure ?_;rintro ⟨V,J,hle,A_⟩ φ G a w H;have E:=H.aq x I;have O:=H.aq i hi;rw[T]at E;rw[AY]at O;generalize Z:a.eval x=av at E;cases E with|d _ _ E=>
     cases E with|agg _ A6 As Au Af=>
     have AD:n<(len:Int):=by omega
     have Ag:n.toNat<A6.size:=by omega
     refine⟨A6[n.toNat],?_,.d _ _ (Af n.toNat _ _ (j9 (by omega)) (by simp[Ag]))⟩;have AE:=uB (P:=P) (w:=w) (t:=e) (cs:=A6) (off:=n.toNat*1) AZ A_ (v:=A6[n.toNat]) (by simp[Ag]);simp only[ajt]at AE;simp[execOp,M,Z,kh O,Instr.index,asIntOf,run_underlying (uz U),V,AD,run_sizeOf A',AE]
    ·rename_i sz AZ A';refine aN.pure ?_;rintro ⟨V,J,hle⟩ φ G a w H;have E:=H.aq x I;have O:=H.aq i hi;rw[T]at E;rw[AY]at O;generalize Z:a.eval x=av at E;cases E with|d _ _ E=>
     have Av:=E;cases E with|agg _ A6 As Au Af=>
     have AD:n<(len:Int):=by omega
     have Aw:n.toNat*sz+sz<=cs.length:=by
      have:(n.toNat+1)*sz<=len*sz:=adt _ J;rw[afP]at this;omega
     refine⟨_,?_,.d _ _ (Ab Av (n.toNat*sz) sz Aw)⟩;have AE:=HI (P:=P) (w:=w) (t:=e) (cs:=A6) (off:=n.toNat*sz) AZ A';simp[execOp,M,Z,kh O,Instr.index,asIntOf,run_underlying (uz U),V,AD,run_sizeOf A',AE]
    ·trivial
   ·trivial
  ·trivial
 ·trivial
def bound(m:Option AV)(AP:Int):Option Int:=
 match m with
 |none=>some AP
 |some (.d (.int _ n))=>some n
 |some _=>none
def ly(P:Program)(m:Mem)(t:TypeId)(x:AV)(lo hi:Option AV):dF:=
 match x with
 | .d (.str s)=>match bound lo 0,bound hi s.length with
  |some l,some h=>.val (tk P t=.str/\0<=l/\l<=h/\h.toNat<=s.length) (.d (.str ((s.take h.toNat).drop l.toNat)))
  |_,_=>.no
 | .d (.list xs)=>match tk P t with
  | .slice e=>match fT P e,bound lo 0,bound hi xs.length with
   |some sz,some l,some h=>.val (0<=l/\l<=h/\h.toNat<=xs.length/\(∀d∈xs,d.size=sz)) (.d (.list ((xs.take h.toNat).drop l.toNat)))
   |_,_,_=>.no
  |_=>.no
 | .vec k ak off len=>match tk P t,Mem.get m k with
  | .slice e,some ⟨_,v,.vec A4 _⟩=>match fT P e,bound lo 0,bound hi len with
   |some sz,some l,some h=>.val (v=ak/\A4=sz/\0<=l/\l<=h/\h.toNat<=len) (.vec k ak (off+l.toNat) (h.toNat-l.toNat))
   |_,_,_=>.no
  | .slice e,some ⟨_,v,.vv _ _⟩=>match fT P e,bound lo 0,bound hi len with
   |some sz,some l,some h=>.val (v=ak/\sz=1/\0<=l/\l<=h/\h.toNat<=len) (.vec k ak (off+l.toNat) (h.toNat-l.toNat))
   |_,_,_=>.no
  |_,_=>.no
 | .cS k ak i j=>match tk P t,Mem.get m k with
  | .arr n e,some ⟨_,v,.vec A4 aj⟩=>match fT P e,bound lo 0,bound hi n with
   |some sz,some l,some h=>.val (v=ak/\A4=sz/\i=0/\j=0/\n<=aj.length/\0<=l/\l<=h/\h.toNat<=n) (.vec k ak l.toNat (h.toNat-l.toNat))
   |_,_,_=>.no
  |_,_=>.no
 | .ptr k ak off=>match tk P t,Mem.get m k with
  | .arr n e,some ⟨_,v,.box cs⟩=>match fT P e,bound lo 0,bound hi n with
   |some sz,some l,some h=>.val (v=ak/\sz=1/\off+n<=cs.length/\0<=l/\l<=h/\h.toNat<=n) (.vec k ak (off+l.toNat) (h.toNat-l.toNat))
   |_,_,_=>.no
  |_,_=>.no
 |_=>.no
theorem jg{P:Program}{w:World}{isS:Bool}{len cap:Nat}{lo hi:Option Value}{l h:Int}
 (A8:(lo=none/\l=0)\/∃k,lo=some (.int k l)) (A9:(hi=none/\h=len)\/∃k,hi=some (.int k h)) (V:0<=l) (hle:l<=h) (A2:h.toNat<=cap):
 (Instr.sliceBounds isS len cap lo hi none).run P w=.ok (l.toNat,h.toNat,cap) w:=by
 have E:h<=(cap:Int):=by omega
 have O:0<=h:=by omega
 have AL:l<=(h.toNat:Int):=by omega
 rcases A8 with ⟨rfl,rfl⟩|⟨k,rfl⟩<;>rcases A9 with ⟨rfl,rfl⟩|⟨B9,rfl⟩<;>
  simp_all [Instr.sliceBounds,Instr.sliceBound,asIntOf]
theorem ir{S:St}{φ G a w}(H:Rel φ G S a w){x:Option Operand}{AP n:Int}(I:∀y,x=some y->(S.aq y).1=true)(h:bound (x.map λy=>(S.aq y).2) AP=some n):
 (x.map a.eval=none/\n=AP)\/∃k,x.map a.eval=some (.int k n):=by
 cases x with
 |none=>simp[bound]at h;exact .inl ⟨rfl,h.symm⟩
 |some y=>
  right;simp only[agv]at h⊢;unfold bound at h;split at h
  ·rename_i heq;cases heq
  ·rename_i k m heq;simp at h heq;subst h;have:=H.aq y (I y rfl);rw[heq]at this;exact⟨k,by rw[kh this]⟩
  ·cases h
theorem RU{w F xs v sz}(h:aQ w F (.list xs) v)(A':∀d∈xs,d.size=sz){l hh:Nat}(hle:l<=hh)(Ax:hh<=xs.length):
 ∃ao cap,v=.slice ao xs.length cap/\xs.length<=cap/\(ao=none->cap=0)/\∀AI AM,(AM=none->AI=0)->hh-l<=AI->(AM=ao.map (·.add (l*sz))\/(hh-l=0))->aQ w F (.list ((xs.take hh).drop l)) (.slice AM (hh-l) AI):=by
 have J:((xs.take hh).drop l).length=hh-l:=by simp;omega
 generalize I:D.list xs=x at h;cases h with
 |nil a c Aa=>
  simp at I;subst I;refine⟨a,c,rfl,by simp,Aa,λAI AM Ac _ _=>?_⟩;have E:hh-l=0:=by simp at Ax;omega
  rw[E];simp;exact .nil _ _ Ac
 |list AN b off cap A4 vs A2 Ay Az AQ AH Y=>
  simp at I;subst I;refine⟨_,cap,rfl,A2,by simp,λAI AM Ac AR AS=>?_⟩;by_cases Ah:hh-l=0
  ·have e:(xs.take hh).drop l=[]:=abv (by omega);rw[e,Ah];exact .nil _ _ Ac
  ·have AS:=AS.resolve_right Ah;have B':A4=sz:=by
    have Ai:0<xs.length:=by omega
    rw[<-AQ xs[0] (af8 Ai),A' xs[0] (af8 Ai)]
   subst B';simp only[agv,fU]at AS;rw[AS,<-J];refine .list _ b (off+l*A4) AI A4 (λi=>vs (l+i)) (by rw[J];exact AR) Ay Az (λd AA=>AQ d (afr (adM AA))) (λi d AA=>?_) (λi j c hi B0=>?_)
   ·rw[adK,ads]at AA;split at AA
    ·exact AH _ d AA
    ·cases AA
   ·have:=Y (l+i) j c (by rw[J]at hi;omega) B0;rw[afP,<-adB]at this;exact this
 |_=>simp at I
theorem YJ(P:Program)(S:St)(o:Oper)(t:TypeId)(x:Operand)(lo hi:Option Operand)(M:o.op=.slice t x lo hi none)(I:(S.aq x).1=true)(A8:∀y,lo=some y->(S.aq y).1=true)(A9:∀y,hi=some y->(S.aq y).1=true):
 aN P S o (ly P S.mem t (S.aq x).2 (lo.map λy=>(S.aq y).2) (hi.map λy=>(S.aq y).2)):=by
 unfold ly;split
 ·rename_i s T;split
  ·rename_i l h J hh;refine aN.pure ?_;rintro ⟨AC,V,hle,A2⟩ φ G a w H;have E:=H.aq x I;rw[T]at E;obtain⟨b,A3,rfl⟩:=uy E;have AT:b.size=b.data.toList.length:=by rw[adF];rfl
   have A5:=jg (P:=P) (w:=w) (isS:=false) (len:=b.size) (cap:=b.size) (ir H A8 J) (by have:=ir H A9 hh;rw[<-AT]at this;exact this) V hle (by rw[AT];exact A2);refine⟨.string (b.extract l.toNat h.toNat),?_,.d _ _ (.str _ _ ?_)⟩
   ·simp[execOp,M,A3,Instr.sliceAt,Instr.slice,run_underlying (oB AC),A5]
   ·simp[ByteArray.data_extract,List.drop_take]
  ·trivial
 ·rename_i xs T;split
  ·rename_i e U;split
   ·rename_i sz l h A' J hh;refine aN.pure ?_;rintro ⟨V,hle,A2,AQ⟩ φ G a w H;have E:=H.aq x I;rw[T]at E;generalize Z:a.eval x=av at E;cases E with|d _ _ E=>
    obtain⟨ao,cap,rfl,BA,Aa,B1⟩:=RU E AQ (l:=l.toNat) (hh:=h.toNat) (by omega) A2;have Y:h.toNat<=cap:=by omega
    have A5:=jg (P:=P) (w:=w) (isS:=true) (len:=xs.length) (cap:=cap) (ir H A8 J) (ir H A9 hh) V hle Y;refine⟨.slice (if cap=l.toNat then ao else ao.map (·.add (l.toNat*sz))) (h.toNat-l.toNat) (cap-l.toNat),?_,.d _ _ (B1 _ _ (λAD=>?_) (by omega) ?_)⟩
    ·simp[execOp,M,Z,Instr.sliceAt,Instr.slice,run_underlying (gr U),A5,run_sizeOf A']
    ·have:ao=none:=by split at AD<;>simp_all
     have:=Aa this;omega
    ·by_cases B2:cap=l.toNat
     ·exact .inr (by omega)
     ·exact .inl (by simp[B2])
   ·trivial
  ·trivial
 ·rename_i k ak off len T;split
  ·rename_i e key v A4 aj U A7;split
   ·rename_i sz l h A' J hh;refine aN.pure ?_;rintro ⟨rfl,rfl,V,hle,A2⟩ φ G a w H;have E:=H.aq x I;rw[T]at E;obtain⟨hm,AU,L,A1,A0,AF⟩:=H.mem.get A7;simp only at A0;generalize Z:a.eval x=av at E;cases E with
    |vec _ _ _ _ _ L' AB _ AG _=>
     rw[A1]at AB;cases AB;obtain⟨ao,cap,rfl,Aj,AW⟩:=AG A0.symm;clear AG;have A5:=jg (P:=P) (w:=w) (isS:=true) (len:=len) (cap:=cap) (ir H A8 J) (ir H A9 hh) V hle (by omega);refine⟨.slice (if cap=l.toNat then ao else ao.map (·.add (l.toNat*A4))) (h.toNat-l.toNat) (cap-l.toNat),?_,?_⟩
     ·simp[execOp,M,Z,Instr.sliceAt,Instr.slice,run_underlying (gr U),A5,run_sizeOf A']
     ·refine .vec k v _ _ _ L A1 (by omega) (λ_=>⟨_,_,rfl,by omega,λY=>?_⟩) rfl;obtain⟨rfl,B3⟩:=AW (by omega);refine⟨?_,by omega⟩;rw[aa4 (by omega)];simp only[agv,fU,AF.1,afP,adB]
   ·trivial
  ·rename_i e key v aj y U A7;split
   ·rename_i sz l h A' J hh;refine aN.pure ?_;rintro ⟨rfl,rfl,V,hle,A2⟩ φ G a w H;have E:=H.aq x I;rw[T]at E;obtain⟨hm,AU,L,A1,A0,AF⟩:=H.mem.get A7;simp only at A0;generalize Z:a.eval x=av at E;cases E with
    |vec _ _ _ _ _ L' AB _ AG _=>
     rw[A1]at AB;cases AB;obtain⟨ao,cap,rfl,Aj,AW⟩:=AG A0.symm;clear AG;have A5:=jg (P:=P) (w:=w) (isS:=true) (len:=len) (cap:=cap) (ir H A8 J) (ir H A9 hh) V hle (by omega);refine⟨.slice (if cap=l.toNat then ao else ao.map (·.add (l.toNat*1))) (h.toNat-l.toNat) (cap-l.toNat),?_,?_⟩
     ·simp[execOp,M,Z,Instr.sliceAt,Instr.slice,run_underlying (gr U),A5,run_sizeOf A']
     ·refine .vec k v _ _ _ L A1 (by omega) (λ_=>⟨_,_,rfl,by omega,λY=>?_⟩) rfl;obtain⟨rfl,B3⟩:=AW (by omega);refine⟨?_,by omega⟩;rw[aa4 (by omega)];simp only[agv,fU,AF.1.1,afP,adB]
   ·trivial
  ·trivial
 ·rename_i k ak i j T;split
  ·rename_i n e key v A4 aj U A7;split
   ·rename_i sz l h A' J hh;refine aN.pure ?_;rintro ⟨rfl,rfl,rfl,rfl,AD,V,hle,A2⟩ φ G a w H;have E:=H.aq x I;rw[T]at E;obtain⟨hm,AU,L,A1,A0,AF⟩:=H.mem.get A7;simp only at A0;have A3:=E.lj A1 A0;have A5:=jg (P:=P) (w:=w) (isS:=false) (len:=n) (cap:=n) (ir H A8 J) (ir H A9 hh) V hle A2;refine⟨.slice (some (if n=l.toNat then ⟨L.dO,L.base,none⟩else ⟨L.dO,L.base+l.toNat*A4,none⟩)) (h.toNat-l.toNat) (n-l.toNat),?_,?_⟩
    ·simp[execOp,M,A3,Instr.sliceAt,Instr.sureAddr,run_underlying (uz U),A5,run_sizeOf A',fU]
    ·refine .vec k v _ _ _ L A1 (by omega) (λ_=>⟨_,_,rfl,by omega,λY=>⟨?_,by have:=AF.2.1;omega⟩⟩) rfl;rw[aa4 (by omega),AF.1]
   ·trivial
  ·trivial
 ·rename_i k ak off T;split
  ·rename_i n e key v cs U A7;split
   ·rename_i sz l h A' J hh;refine aN.pure ?_;rintro ⟨rfl,rfl,AD,V,hle,A2⟩ φ G a w H;have E:=H.aq x I;rw[T]at E;obtain⟨hm,AU,L,A1,A0,⟨B4,z2,z3⟩,_⟩:=H.mem.get A7;simp only at A0;have A3:=E.se A1 A0;have A5:=jg (P:=P) (w:=w) (isS:=false) (len:=n) (cap:=n) (ir H A8 J) (ir H A9 hh) V hle A2;refine⟨.slice (some (if n=l.toNat then ⟨L.dO,off,none⟩else ⟨L.dO,off+l.toNat,none⟩)) (h.toNat-l.toNat) (n-l.toNat),?_,?_⟩
    ·simp[execOp,M,A3,Instr.sliceAt,Instr.sureAddr,run_underlying (uz U),A5,run_sizeOf A',fU]
    ·refine .vec k v _ _ _ L A1 (by omega) (λ_=>⟨_,_,rfl,by omega,λY=>⟨?_,by omega⟩⟩) rfl;rw[aa4 (by omega),B4,z2];simp
   ·trivial
  ·trivial
 ·trivial
def EO(t:Bool)(x y:D):D:=
 match x,y with
 | .bool a,.bool b=>.bool (bif t then a else b)
 |x,y=>bif t then x else y
def uC(t:Bool)(x y:AV):AV:=
 match x,y with
 | .d x,.d y=>.d (EO t x y)
 |x,y=>bif t then x else y
def I9(c a b:Bool×AV):dF:=
 match c.2 with
 | .d (.bool t)=>.val (c.1=true/\(t=true->a.1=true)/\(t=false->b.1=true)) (uC t a.2 b.2)
 |_=>.no
theorem ad4(P:Program)(S:St)(o:Oper)(c x y:Operand)(M:o.op=.pick c x y):aN P S o (I9 (S.aq c) (S.aq x) (S.aq y)):=by
 unfold I9;split
 ·rename_i t Y;refine aN.pure ?_;rintro ⟨E,O,AL⟩ φ G a w H;have Ak:=H.aq c E;rw[Y]at Ak;have e:=tY Ak;cases t
  ·have AX:=H.aq y (AL rfl);refine⟨a.eval y,by simp[execOp,M,e,asBool],?_⟩;have AO:uC false (S.aq x).2 (S.aq y).2=(S.aq y).2:=by
    unfold uC;split
    ·rename_i u v Al An;rw[An];congr 1;unfold EO;split<;>rfl
    ·rfl
   rw[AO];exact AX
  ·have I:=H.aq x (O rfl);refine⟨a.eval x,by simp[execOp,M,e,asBool],?_⟩;have AO:uC true (S.aq x).2 (S.aq y).2=(S.aq x).2:=by
    unfold uC;split
    ·rename_i u v Al An;rw[Al];congr 1;unfold EO;split<;>rfl
    ·rfl
   rw[AO];exact I
 ·trivial
theorem ad5(P:Program)(S:St)(o:Oper)(x:Operand)(M:o.op=.move x\/o.op=.assign x)(I:(S.aq x).1=true):aN P S o (.val True (S.aq x).2):=by
 refine aN.pure λ_ φ G a w H=>⟨a.eval x,?_,H.aq x I⟩;rcases M with M|M<;>simp[execOp,M]
def JS(op:UnOp)(x:AV):dF:=
 match op,x with
 | .not,.d (.bool b)=>.val True (.d (.bool (!b)))
 | .neg,.d (.int k n)=>.val True (.d (.int k (k.wrap (0-n))))
 | .xor,.d (.int k n)=>.val True (.d (.int k (k.wrap (BitVec.ofInt k.bits (if k.signed then-1 else k.max) ^^^ BitVec.ofInt k.bits n).toNat)))
 |_,_=>.no
theorem akH(P:Program)(S:St)(o:Oper)(op:UnOp)(t:TypeId)(x:Operand)(M:o.op=.unOp op t x)(I:(S.aq x).1=true):aN P S o (JS op (S.aq x).2):=by
 unfold JS;split
 ·rename_i b T;refine aN.pure λ_ φ G a w H=>?_;have E:=H.aq x I;rw[T]at E;exact⟨.bool (!b),by simp[execOp,M,tY E,Op.unary],.d _ _ (.bool _)⟩
 ·rename_i k n T;refine aN.pure λ_ φ G a w H=>?_;have E:=H.aq x I;rw[T]at E;exact⟨.int k (k.wrap (0-n)),by simp only[execOp,M,kh E,Op.unary,Op.intArith,Sem.run_bind,Sem.run_pure,Result.andThen_ok],.d _ _ (.int _ _)⟩
 ·rename_i k n T;refine aN.pure λ_ φ G a w H=>?_;have E:=H.aq x I;rw[T]at E;exact⟨_,by simp only[execOp,M,kh E,Op.unary,Op.intBits,Sem.run_bind,Sem.run_pure,Result.andThen_ok],.d _ _ (.int _ _)⟩
 ·trivial
def uD(i:Nat)(x:AV):dF:=
 match x with
 | .bg vs=>match vs[i]? with
  |some v=>.val True v
  |none=>.no
 |_=>.no
theorem RV(P:Program)(S:St)(o:Oper)(x:Operand)(i:Nat)(M:o.op=.extract x i)(I:(S.aq x).1=true):aN P S o (uD i (S.aq x).2):=by
 unfold uD;split
 ·rename_i vs T;split
  ·rename_i v AH;refine aN.pure λ_ φ G a w H=>?_;have E:=H.aq x I;rw[T]at E;generalize Z:a.eval x=av at E;cases E with|bg _ A6 J Y=>
   have hi:i<A6.size:=by rw[<-J];exact (aa1.1 AH).1
   exact⟨A6[i],by simp[execOp,M,Z,Instr.extract,hi],Y i v _ AH (by simp[hi])⟩
  ·trivial
 ·trivial
def py(f:Fn)(first cap:List AV):dF:=
 match f,first with
 | .func f,[]=>.val (f<ta) (.fn f cap)
 | .func f,x::r=>match cap with
  |[]=>.val True (.fn (f+ta) (x::r))
  |_=>.no
 |_,_=>.no
theorem Np(P:Program)(S:St)(o:Oper)(f:Fn)(first cap:Array Operand)(M:o.op=.makeFunc f first cap)(Ae:∀x∈first.toList,(S.aq x).1=true)(Y:∀x∈cap.toList,(S.aq x).1=true):aN P S o (py f (first.toList.map λx=>(S.aq x).2) (cap.toList.map λx=>(S.aq x).2)):=by
 have key:∀(l:Array Operand),(∀x∈l.toList,(S.aq x).1=true)->∀φ G a w,Rel φ G S a w->∀(i:Nat)(c:AV)(v:Value),(l.toList.map λx=>(S.aq x).2)[i]?=some c->(l.map a.eval)[i]?=some v->aF φ w (Fo G φ S.mem) c v:=by
  intro l J φ G a w H i c v E O;simp only[adz,agh,aba]at E;simp only[Array.getElem?_map,aba]at O;obtain⟨x,I,rfl⟩:=E;obtain⟨y,AX,rfl⟩:=O;rw[I]at AX;cases AX;exact H.aq x (J x (by simpa using Array.mem_of_getElem? I))
 generalize Ao:(first.toList.map λx=>(S.aq x).2)=BB;generalize Ap:(cap.toList.map λx=>(S.aq x).2)=cs;unfold py;split
 ·rename_i f;refine aN.pure λB5 φ G a w H=>?_;have B6:first=#[]:=by cases first;simp_all
  refine⟨.func (.func f) #[] (cap.map a.eval),by simp[execOp,M,Instr.makeFunc,B6],.fn f _ _ B5 (by simp[<-Ap]) (λi c v E O=>?_)⟩;rw[<-Ap]at E;exact key cap Y φ G a w H i c v E O
 ·rename_i f x r;split
  ·refine aN.pure λ_ φ G a w H=>?_;have B7:cap=#[]:=by cases cap;simp_all
   refine⟨.func (.func f) (first.map a.eval) #[],by simp[execOp,M,Instr.makeFunc,B7],.tc f _ _ (by rw[<-Ao];simp) (λi c v E O=>?_)⟩;rw[<-Ao]at E;exact key first Ae φ G a w H i c v E O
  ·trivial
 ·trivial
def tG(P:Program)(t:TypeId)(x:AV):dF:=
 match x.norm with
 | .d d=>.val (tk P t≠.iface/\tk P t≠.other) (.im t d)
 |_=>.no
theorem DB{P:Program}{t:TypeId}(h:tk P t≠.other):∃d,P.underlying t=some d:=by
 unfold tk at h;cases hu:P.underlying t with
 |none=>simp[hu]at h
 |some d=>exact⟨d,rfl⟩
theorem JT(P:Program)(S:St)(o:Oper)(t:TypeId)(x:Operand)(M:o.op=.makeInterface t x)(I:(S.aq x).1=true):aN P S o (tG P t (S.aq x).2):=by
 unfold tG;split
 ·rename_i d T;refine aN.pure ?_;rintro ⟨E,O⟩ φ G a w H;have AL:=(H.aq x I).norm;rw[T]at AL;obtain⟨Aq,hu⟩:=DB O;refine⟨.iface t (a.eval x),?_,?_⟩
  ·have A_:∀ms,Aq≠.interface ms:=by rintro ms rfl;simp[tk,hu]at E
   simp only[execOp,M,Instr.makeInterface,Sem.run_bind,run_underlying hu,Result.andThen_ok];cases Aq<;>first|rfl|exact absurd rfl (A_ _)
  ·cases AL with|d _ _ h=>exact .im t d _ h
 ·trivial
def oR(P:Program)(m:Mem)(t:TypeId)(x:AV):dF:=
 match x with
 | .d (.str s)=>.val (tk P t=.str) (.d (.int .i64 s.length))
 | .d (.list xs)=>match tk P t with
  | .slice _=>.val True (.d (.int .i64 xs.length))
  |_=>.no
 | .vec k ak _ len=>match tk P t,Mem.get m k with
  | .slice _,some ⟨_,v,_⟩=>.val (v=ak) (.d (.int .i64 len))
  |_,_=>.no
 | .lit (.slice none 0 0)=>match tk P t with
  | .slice _=>.val True (.d (.int .i64 0))
  |_=>.no
 | .nn=>match tk P t with
  | .slice _=>.val True (.d (.int .i64 0))
  |_=>.no
 |_=>match tk P t with
  | .arr n _=>.val True (.d (.int .i64 n))
  |_=>.no
theorem run_len_slice{P:Program}{w:World}{t ty e:TypeId}{ao len cap}(h:tk P t=.slice e):(Builtin.len_ #[t] ty #[.slice ao len cap]).run P w=.ok (.int .i64 len) w:=by
 simp[Builtin.len_,run_underlying (gr h),goInt]
theorem afL(P:Program)(S:St)(o:Oper)(x:Operand)(t:TypeId)(M:o.op=.call {callee:=.builtin .len,args:=#[x],argTypes:=#[t]})(I:(S.aq x).1=true):aN P S o (oR P S.mem t (S.aq x).2):=by
 have AJ:∀(a:Act)(w:World)(v:Value),(Builtin.len_ #[t] o.type #[a.eval x]).run P w=.ok v w->(execOp a.eval o).run P w=.ok (.value v) w:=by
  intro a w v h;simp[execOp,M,resolve,invoke,builtin,h]
 unfold oR;split
 ·rename_i s T;refine aN.pure λAC φ G a w H=>?_;have E:=H.aq x I;rw[T]at E;obtain⟨b,A3,rfl⟩:=uy E;have AT:b.size=b.data.toList.length:=by rw[adF];rfl
  refine⟨.int .i64 b.data.toList.length,AJ a w _ ?_,.d _ _ (.int _ _)⟩;simp only[Builtin.len_,A3,af4,List.getElem?_cons_zero,Sem.run_bind,run_underlying (oB AC),Result.andThen_ok,Sem.run_pure,goInt,<-AT]
 ·rename_i xs T;split
  ·rename_i e U;refine aN.pure λ_ φ G a w H=>?_;have E:=H.aq x I;rw[T]at E;generalize Z:a.eval x=av at E;cases E with|d _ _ h=>
   have J:∃ao cap,av=.slice ao xs.length cap:=by cases h<;>exact⟨_,_,rfl⟩
   obtain⟨ao,cap,rfl⟩:=J;exact⟨_,AJ a w _ (by rw[Z];exact run_len_slice U),.d _ _ (.int _ _)⟩
  ·trivial
 ·rename_i k ak off len T;split
  ·rename_i e key v cont U A7;refine aN.pure ?_;rintro rfl φ G a w H;have E:=H.aq x I;rw[T]at E;obtain⟨hm,AU,L,A1,A0,AF⟩:=H.mem.get A7;simp only at A0;generalize Z:a.eval x=av at E;cases E with
   |vec _ _ _ _ _ L' AB _ AG _=>
    rw[A1]at AB;cases AB;obtain⟨ao,cap,rfl,Aj,AW⟩:=AG A0.symm;exact⟨_,AJ a w _ (by rw[Z];exact run_len_slice U),.d _ _ (.int _ _)⟩
  ·trivial
 ·rename_i T;split
  ·rename_i e U;refine aN.pure λ_ φ G a w H=>?_;have E:=H.aq x I;rw[T]at E;generalize Z:a.eval x=av at E;cases E;exact⟨_,AJ a w _ (by rw[Z];exact run_len_slice U),.d _ _ (.int _ _)⟩
  ·trivial
 ·rename_i T;split
  ·rename_i e U;refine aN.pure λ_ φ G a w H=>?_;have E:=H.aq x I;rw[T]at E;generalize Z:a.eval x=av at E;cases E;exact⟨_,AJ a w _ (by rw[Z];exact run_len_slice U),.d _ _ (.int _ _)⟩
  ·trivial
 ·split
  ·rename_i n e U;refine aN.pure λ_ φ G a w H=>?_;refine⟨.int .i64 n,AJ a w _ ?_,.d _ _ (.int _ _)⟩;simp[Builtin.len_,run_underlying (uz U),goInt]
  ·trivial
def nI(isMax:Bool):AV->List AV->Option D
 | .d (.int k a),[]=>some (.int k a)
 | .d (.int k a),y::r=>match y with
  | .d (.int _ b)=>nI isMax (.d (.int k (if isMax then (if b>a then b else a)else (if b<a then b else a)))) r
  |_=>none
 |_,_=>none
def GI(isMax:Bool)(xs:List AV):dF:=
 match xs with
 |x::r=>match nI isMax x r with
  |some d=>.val True (.d d)
  |none=>.no
 |[]=>.no
theorem Nq{P:Program}{φ w F}(isMax:Bool):∀(xs:List AV)(x:AV)(vs:List Value)(v:Value)(d:D),nI isMax x xs=some d->aF φ w F x v->xs.length=vs.length->
 (∀(i:Nat) c u,xs[i]?=some c->vs[i]?=some u->aF φ w F c u)->
 ∃u,(vs.foldlM (if isMax then Builtin.max2 else Builtin.min2) v).run P w=.ok u w/\aQ w F d u:=by
 intro xs;induction xs with
 |nil=>
  intro x vs v d h I J Y;have:vs=[]:=abv (by simpa using J.symm);subst this;unfold nI at h;split at h<;>simp_all;subst h;rw[kh I];exact .int _ _
 |cons y AN ih=>
  intro x vs v d h I J Y;cases vs with
  |nil=>simp at J
  |cons u us=>
   unfold nI at h;split at h
   ·simp_all
   ·rename_i k a BC r heq;simp at heq;obtain⟨rfl,rfl⟩:=heq;split at h
    ·rename_i B8 b;have A3:=kh I;have AO:=kh (Y 0 (.d (.int B8 b)) u (by simp) (by simp));subst A3;subst AO;have AR:∀(i:Nat) c u,AN[i]?=some c->us[i]?=some u->aF φ w F c u:=λi c u E O=>Y (i+1) c u (by simpa using E) (by simpa using O);cases isMax
     ·obtain⟨Ad,E,O⟩:=ih _ us (.int k (if b<a then b else a)) d h (.d _ _ (.int _ _)) (by simpa using J) AR;refine⟨Ad,?_,O⟩;simp only[agb,adW]at E⊢;simp only[List.foldlM_cons,Builtin.min2,pure_bind];exact E
     ·obtain⟨Ad,E,O⟩:=ih _ us (.int k (if b>a then b else a)) d h (.d _ _ (.int _ _)) (by simpa using J) AR;refine⟨Ad,?_,O⟩;simp only[afz]at E⊢;simp only[List.foldlM_cons,Builtin.max2,pure_bind];exact E
    ·cases h
   ·cases h
theorem U6(P:Program)(S:St)(o:Oper)(isMax:Bool)(args:Array Operand)(ts:Array TypeId)(M:o.op=.call {callee:=.builtin (if isMax then .max else .min),args,argTypes:=ts})(I:∀x∈args.toList,(S.aq x).1=true):aN P S o (GI isMax (args.toList.map λx=>(S.aq x).2)):=by
 unfold GI;split
 ·rename_i x r heq;split
  ·rename_i d AA;refine aN.pure λ_ φ G a w H=>?_;obtain⟨l,J⟩:∃l,args.toList=l:=⟨_,rfl⟩;rw[J]at heq I;cases l with
   |nil=>simp at heq
   |cons y AN=>
    simp at heq;obtain⟨rfl,rfl⟩:=heq;obtain⟨u,E,O⟩:=Nq (P:=P) (φ:=φ) (w:=w) (F:=Fo G φ S.mem) isMax _ _ (AN.map a.eval) (a.eval y) d AA (H.aq y (I y (by simp))) (by simp) (λi c u E O=>by
     simp only[adz,aba]at E O;obtain⟨p,AE,rfl⟩:=E;obtain⟨q,Ar,rfl⟩:=O;rw[AE]at Ar;cases Ar;exact H.aq p (I p (by simp[abk AE])))
    refine⟨u,?_,.d _ _ O⟩;have BD:(args.map a.eval).toList=a.eval y::AN.map a.eval:=by simp[J]
    cases isMax
    ·simp only[agb,adW]at E M;simp[execOp,M,resolve,invoke,builtin,Builtin.min_,J,E]
    ·simp only[afz]at E M;simp[execOp,M,resolve,invoke,builtin,Builtin.max_,J,E]
  ·trivial
 ·trivial
theorem HJ(off:Nat):∀(l:List Value)(k:Nat)(cs:Array Value),off+k+l.length<=cs.size->
 ((l.zipIdx k).foldl (λcs x=>cs.setIfInBounds (off+x.2) x.1) cs).toList=cs.toList.take (off+k)++l++cs.toList.drop (off+k+l.length)
 |[],k,cs,_=>by simp
 |v::l,k,cs,h=>by
  simp only[List.zipIdx_cons,agc,abb]at h⊢;rw[HJ off l (k+1) _ (by simp;omega),Array.toList_setIfInBounds];have:=list_seg_step cs.toList (off+k) v l (by simp;omega);rw[show off+(k+1)=off+k+1 by omega,show off+k+(l.length+1)=off+k+1+l.length by omega];simpa [abb,adB,Nat.add_comm 1]using this
theorem JU(cs v:Array Value)(off:Nat)(h:off+v.size<=cs.size):
 (v.zipIdx.foldl (λcs (x:Value×Nat)=>cs.setIfInBounds (off+x.2) x.1) cs).toList=bB cs.toList off v.toList:=by
 rw[<-Array.foldl_toList,Array.toList_zipIdx,HJ off v.toList 0 cs (by simpa using h),dI _ _ _ (by simpa using h)];simp
def rM(place:Nat->Option (Nat×Nat)):List (Nat×AV)->Bool->List AV->Option (Bool×List AV)
 |[],c,cs=>some (c,cs)
 |(i,x)::r,c,cs=>match place i with
  |some (off,n)=>rM place r (c/\x.lV=true/\x.cells.length=n/\off+n<=cs.length) (bB cs off x.cells)
  |none=>none
theorem AM{φ w F}(place:Nat->Option (Nat×Nat)):∀(ps:List (Nat×AV))(Y c:Bool)(cs U:List AV)(vs:List (Nat×Value))(H:Array Value),
 rM place ps Y cs=some (c,U)->c=true->cs.length=H.size->(∀v∈H,cG v=true)->(∀(i:Nat) x v,cs[i]?=some x->H[i]?=some v->aF φ w F x v)->
 ps.length=vs.length->(∀(i:Nat) p v,ps[i]?=some p->vs[i]?=some v->p.1=v.1/\aF φ w F p.2 v.2)->
 ∃E,Instr.fill place H vs=some E/\Y=true/\U.length=E.size/\(∀v∈E,cG v=true)/\∀(i:Nat) x v,U[i]?=some x->E[i]?=some v->aF φ w F x v
 |[],Y,c,cs,U,vs,H,h,T,J,I,M,Z,A0=>by
  have:vs=[]:=abv (by simpa using Z.symm);subst this;simp only[rM,abp,adI]at h;obtain⟨rfl,rfl⟩:=h;exact⟨H,rfl,T,J,I,M⟩
 |(i,x)::ps,Y,c,cs,U,vs,H,h,T,J,I,M,Z,A0=>by
  cases vs with
  |nil=>simp at Z
  |cons v vs=>
   obtain⟨j,v⟩:=v;obtain⟨AF,A1⟩:=A0 0 (i,x) (j,v) (by simp) (by simp);simp only at AF A1;subst AF;simp only[rM]at h;split at h
   ·rename_i off n AS
    --AG condition of AG rest holds AG condition of this part
    obtain⟨q,A4⟩:∃q:Bool,q=decide (Y=true/\x.lV=true/\x.cells.length=n/\off+n<=cs.length):=⟨_,rfl⟩;have AT:c=true->q=true:=by
     rw[<-A4]at h;clear A4;revert h
     generalize bB cs off x.cells=AU;clear A0 Z M I J A1 T;induction ps generalizing q AU with
     |nil=>intro h;simp only[rM,abp,adI]at h;obtain⟨rfl,_⟩:=h;exact id
     |cons p ps ih=>
      intro h AH;simp only[rM]at h;split at h
      ·exact (adL (ih _ _ h AH)).1
      ·cases h
    have A2:=AT T;rw[A4]at A2;replace A2:=adL A2;obtain⟨AW,AX,Af,hle⟩:=A2;obtain⟨AI,AJ⟩:=A1.lV AX;have AK:off+v.cells.size<=H.size:=by omega
    have A3:=JU H v.cells off AK;obtain⟨A5,AL⟩:∃A5,A5=v.cells.zipIdx.foldl (λcs (x:Value×Nat)=>cs.setIfInBounds (off+x.2) x.1) H:=⟨_,rfl⟩;rw[<-AL]at A3;have AN:off+v.cells.toList.length<=H.toList.length:=by simpa using AK
    obtain⟨E,A',AH,AY,AZ,A_⟩:=AM (φ:=φ) (w:=w) (F:=F) place ps _ c _ U vs A5 h T
     (by rw[bX _ _ _ (by omega),<-adF,A3,bX _ _ _ AN];simpa using J)
     (λu hu=>by
      rw[<-Array.mem_toList_iff,A3]at hu;rcases lq AN hu with hu|hu
      ·exact I u (by simpa using hu)
      ·exact AJ u (by simpa using hu))
     (λi y u Aa hu=>by
      rw[<-agh,A3]at hu;exact um (R:=λx v=>aF φ w F x v) (by simpa using J) (by simpa using AI.symm) (by omega) (λi c v h D=>M i c v h (by simpa using D)) (λi c v h D=>A1.cells AJ AI i c v h (by simpa using D)) i y u Aa hu)
     (by simpa using Z) (λi p v h D=>A0 (i+1) p v (by simpa using h) (by simpa using D))
    refine⟨E,?_,AW,AY,AZ,A_⟩;simp only[Instr.fill,AS];rw[aa4 (by simp;omega)];rw[<-A',AL]
   ·cases h
def bF(P:Program)(t:TypeId):Option (List (Nat×Nat)):=
 match P.underlying t with
 |some (.struct O)=>O.toList.mapM λf=>(P.info? f.type).map λi=>(f.offset,i.size)
 |_=>none
theorem C0{P:Program}{w:World}:∀(O:List Field)(l:List (Nat×Nat)),(O.mapM λf=>(P.info? f.type).map λi=>(f.offset,i.size))=some l->
 (O.mapM λf=>(do pure (f.offset,<-sizeOf f.type):Sem (Nat×Nat))).run P w=.ok l w
 |[],l,h=>by simp at h;subst h;simp
 |f::O,l,h=>by
  simp only[List.mapM_cons]at h⊢;cases hi:P.info? f.type with
  |none=>simp[hi]at h
  |some i=>
   simp only[hi,agv,Option.pure_def,Option.bind_eq_bind,adV]at h;cases hm:(O.mapM λf=>(P.info? f.type).map λi=>(f.offset,i.size))with
   |none=>simp[hm]at h
   |some Ab=>
    simp[hm]at h;subst h;have A6:(sizeOf f.type).run P w=.ok i.size w:=run_sizeOf (by simp[fT,hi]);have ih:=C0 (P:=P) (w:=w) O Ab hm;simp only[Sem.run_bind,A6,Result.andThen_ok,Sem.run_pure,ih]
def EP(P:Program)(t:TypeId)(ps:List (Nat×AV)):dF:=
 match vE P t with
 |some zs=>match bF P t with
  |some l=>match rM (λi=>l[i]?) ps true zs with
   |some (c,cs)=>.val c (B8 cs)
   |none=>.no
  |none=>match tk P t with
   | .arr _ e=>match fT P e with
    |some sz=>match rM (λi=>some (i*sz,sz)) ps true zs with
     |some (c,cs)=>.val c (B8 cs)
     |none=>.no
    |none=>.no
   |_=>.no
 |none=>.no
theorem YK(P:Program)(S:St)(o:Oper)(t:TypeId)(ps:Array (Nat×Operand))(AO:o.op=.build t ps)(Ac:∀x∈ps.toList,(S.aq x.2).1=true):
 aN P S o (EP P t (ps.toList.map λx=>(x.1,(S.aq x.2).2))):=by
 have parts:∀{φ G a w},Rel φ G S a w->∀(i:Nat)(p:Nat×AV)(v:Nat×Value),(ps.toList.map λx=>(x.1,(S.aq x.2).2))[i]?=some p->(ps.toList.map λx=>(x.1,a.eval x.2))[i]?=some v->p.1=v.1/\aF φ w (Fo G φ S.mem) p.2 v.2:=by
  intro φ G a w M i p v I V;simp only[adz,aba]at I V;obtain⟨x,AP,rfl⟩:=I;obtain⟨y,AQ,rfl⟩:=V;rw[AP]at AQ;cases AQ;exact⟨rfl,M.aq _ (Ac x (abk AP))⟩
 unfold EP;split
 ·rename_i zs AR;split
  ·rename_i l J;split
   ·rename_i c cs A';refine aN.rJ λT φ G a w M=>?_;obtain⟨z,A7,A8,I,A9⟩:=pn AR w;obtain⟨E,V,_,AA,AB,AC⟩:=AM (φ:=φ) (w:=w) (F:=Fo G φ S.mem) _ _ _ _ _ _ (ps.toList.map λx=>(x.1,a.eval x.2)) z.cells A' T A8.symm I (λi x v h D=>A9 _ _ _ i x v h D) (by simp) (parts M);unfold bF at J;split at J
    ·rename_i O hu;have hm:=C0 (P:=P) (w:=w) O.toList l J;refine⟨.agg E,?_,?_⟩
     ·have Ad:(O.mapM λf=>(do pure (f.offset,<-sizeOf f.type):Sem (Nat×Nat))).run P w=.ok l.toArray w:=by
       rw[Array.mapM_eq_mapM_toList];simp only[Sem.run_map,hm,Result.andThen_ok]
      simp only[execOp,AO,Instr.build,Sem.run_bind,A7,Result.andThen_ok,run_underlying hu,Ad];have e:(λ(i:Nat)=>l.toArray[i]?)=λ(i:Nat)=>l[i]?:=by funext i;simp
      have AD:(Array.map (λx=>(x.1,a.eval x.2)) ps).toList=ps.toList.map λx=>(x.1,a.eval x.2):=by simp
      rw[e,AD,V];rfl
     ·have:=Aw (φ:=φ) (w:=w) (F:=Fo G φ S.mem) (cs:=cs) (vs:=E.toList) (by simpa using AA) (λv AE=>AB v (by simpa using AE)) (λi c v h D=>AC i c v h (by simpa using D));simpa using this
    ·cases J
   ·trivial
  ·split
   ·rename_i n e Ae;split
    ·rename_i sz A6;split
     ·rename_i c cs A';refine aN.rJ λT φ G a w M=>?_;obtain⟨z,A7,A8,I,A9⟩:=pn AR w;obtain⟨E,V,_,AA,AB,AC⟩:=AM (φ:=φ) (w:=w) (F:=Fo G φ S.mem) _ _ _ _ _ _ (ps.toList.map λx=>(x.1,a.eval x.2)) z.cells A' T A8.symm I (λi x v h D=>A9 _ _ _ i x v h D) (by simp) (parts M);refine⟨.agg E,?_,?_⟩
      ·simp only[execOp,AO,Instr.build,Sem.run_bind,A7,Result.andThen_ok,run_underlying (uz Ae),run_sizeOf A6];have AD:(Array.map (λx=>(x.1,a.eval x.2)) ps).toList=ps.toList.map λx=>(x.1,a.eval x.2):=by simp
       rw[AD,V];rfl
      ·have:=Aw (φ:=φ) (w:=w) (F:=Fo G φ S.mem) (cs:=cs) (vs:=E.toList) (by simpa using AA) (λv AE=>AB v (by simpa using AE)) (λi c v h D=>AC i c v h (by simpa using D));simpa using this
     ·trivial
    ·trivial
   ·trivial
 ·trivial
theorem DC(sz:Nat):∀(vs:List (Nat×Value))(k:Nat)(cells:Array Value),vs.map (·.1)=List.range' k vs.length->(∀v∈vs,v.2.cells.size=sz)->(k+vs.length)*sz=cells.size->
 ∃out,Instr.fill (λi=>some (i*sz,sz)) cells vs=some out/\out.toList=cells.toList.take (k*sz)++vs.flatMap (λv=>v.2.cells.toList)
 |[],k,cells,_,_,U=>by
  refine⟨cells,rfl,?_⟩;simp only[abn,af5]at U;simp only[U,List.flatMap_nil,afy];rw[<-adF,List.take_length]
 |(i,v)::vs,k,cells,hi,V,U=>by
  simp only[adC,abb,aiU,List.cons.injEq]at hi;obtain⟨rfl,hi⟩:=hi;have O:=V (i,v) (by simp);simp only at O;simp only[abb]at U;have Ad:i*sz+v.cells.size<=cells.size:=by
   rw[O,<-U,<-agC];exact adt _ (by omega)
  have I:=JU cells v.cells (i*sz) Ad;obtain⟨AS,As⟩:∃AS,AS=v.cells.zipIdx.foldl (λcs (x:Value×Nat)=>cs.setIfInBounds (i*sz+x.2) x.1) cells:=⟨_,rfl⟩;rw[<-As]at I;have Au:i*sz+v.cells.toList.length<=cells.toList.length:=by simpa using Ad
  have A6:AS.size=cells.size:=by rw[<-adF,I,bX _ _ _ Au];simp
  obtain⟨out,Y,AT⟩:=DC sz vs (i+1) AS hi (λx M=>V x (by simp[M])) (by rw[A6,<-U];congr 1;omega);refine⟨out,?_,?_⟩
  ·simp only[Instr.fill];rw[aa4 (by simp;omega),<-Y,As]
  ·rw[AT,I,dI _ _ _ Au];have BR:v.cells.toList.length=sz:=by simpa using O
   rw[agC,ajC (by simp;omega),aiC (by simp;omega)];simp
theorem ER{φ w F}{sz:Nat}:∀(E:List D)(vs:List Value),E.length=vs.length->(∀d∈E,d.size=sz)->(∀(i:Nat) d v,E[i]?=some d->vs[i]?=some v->aF φ w F (.d d) v)->
 cy w F sz E (vs.flatMap λv=>v.cells.toList)
 |[],vs,U,_,_=>by
  have:vs=[]:=abv (by simpa using U.symm);subst this;exact cy.nil ..
 |d::E,vs,U,V,H=>by
  cases vs with
  |nil=>simp at U
  |cons v vs=>
   have ih:=ER (φ:=φ) (w:=w) (F:=F) E vs (by simpa using U) (λx M=>V x (by simp[M])) (λi d v h A9=>H (i+1) d v (by simpa using h) (by simpa using A9));have AA:=H 0 d v (by simp) (by simp);cases AA with|d _ _ AA=>
   have AB:=V d (by simp);have AU:v.cells.size=sz:=by rw[AA.size,AB]
   have one:cy w F sz [d] v.cells.toList:=by
    refine⟨by simp[AU],λu hu=>AA.cells.2.1 u (by simpa using hu),λx M=>by simp at M;subst M;exact AB,λi x M=>?_⟩;cases i with
    |zero=>simp at M;subst M;exact⟨v,AA,λj c AE=>by simpa using AE⟩
    |succ i=>simp at M
   simpa using one.append ih
theorem JW{w:World}{F F':Nat->Prop}{sz:Nat}{E:List D}{cs rest:List Value}{elem:TypeId}{fr}{T:World}{arr:Array Value}(H:cy w F sz E cs)(hh:T.heap[w.heap.size]?=some (.cells arr elem fr))(AF:arr.toList=cs++rest)
 (hm:∀x v,aQ w F x v->aQ T F' x v) (B1:¬F' w.heap.size) (cap:Nat) (AK:E.length<=cap):aQ T F' (.list E) (.slice (some ⟨w.heap.size,0,none⟩) E.length cap):=by
 obtain⟨BS,a2,a3,a4⟩:=H;have Ae:∀i,∃v,∀d,E[i]?=some d->aQ w F d v/\∀(j:Nat) c,v.cells[j]?=some c->cs[i*sz+j]?=some c:=by
  intro i;cases J:E[i]? with
  |none=>exact⟨undef,λd h=>by cases h⟩
  |some d=>obtain⟨v,I,Y⟩:=a4 i d J;exact⟨v,λAv h=>by cases h;exact⟨I,Y⟩⟩
 obtain⟨vs,AU⟩:=Classical.axiomOfChoice Ae;refine .list E w.heap.size 0 cap sz vs AK ?_ B1 a3 (λi d J=>hm _ _ (AU i d J).1) (λi j c hi AE=>?_)
 ·exact (adU.1 hh).1
 ·obtain⟨I,Y⟩:=AU i E[i] (by simp[hi]);have AT:=Y j c AE;rw[Hz hh,<-agh,AF,afO,abl (aa1.1 AT).1];exact AT
theorem JX{φ:bW}{G:Fr}{m:Mem}{w T:World}(hold:∀b,b<w.heap.size->T.heap[b]?=w.heap[b]?)(V:w.heap.size<=T.heap.size)(x v)(M:aQ w (Fo G φ m) x v):aQ T (Fo G φ m) x v:=
 M.mono (λb A0 _=>hold b A0) V (λ_ _ h=>h)
def sl:List (Nat×AV)->Option (List D)
 |[]=>some []
 |(_,x)::r=>match x.norm,sl r with
  | .d d,some E=>some (d::E)
  |_,_=>none
theorem ES{φ w F}:∀(ps:List (Nat×AV))(E:List D)(vs:List Value),sl ps=some E->ps.length=vs.length->(∀(i:Nat) p v,ps[i]?=some p->vs[i]?=some v->aF φ w F p.2 v)->
 E.length=vs.length/\∀(i:Nat) d v,E[i]?=some d->vs[i]?=some v->aF φ w F (.d d) v
 |[],E,vs,h,U,_=>by
  simp[sl]at h;subst h;exact⟨by simpa using U,λi d v A9=>by simp at A9⟩
 |(i,x)::ps,E,vs,h,U,H=>by
  simp only[sl]at h;split at h<;>simp at h;rename_i d B2 M AB;subst h;cases vs with
  |nil=>simp at U
  |cons v vs=>
   have ih:=ES (φ:=φ) (w:=w) (F:=F) ps B2 vs AB (by simpa using U) (λi p v h A9=>H (i+1) p v (by simpa using h) (by simpa using A9));refine⟨by simp[ih.1],λj Av Aw h A9=>?_⟩;cases j with
   |zero=>
    simp at h A9;subst h;subst A9;have:=(H 0 (i,x) v (by simp) (by simp)).norm;simp only[M]at this;exact this
   |succ j=>exact ih.2 j Av Aw (by simpa using h) (by simpa using A9)
def hY(P:Program)(t:TypeId)(A3:Nat)(len:Nat):List (Nat×AV)->Option cJ->Option dF
 |[(0,.lit (.slice none 0 0))],some ⟨_,v,_⟩=>match tk P t with
  | .slice e=>match fT P e,m8 P e with
   |some sz,some _=>some (.dp (sz=1/\len=1) (.vec A3 (v+1) 0 1) ⟨A3,v+1,.box [.lit (.slice none 0 0)]⟩)
   |_,_=>none
  |_=>none
 |_,_=>none
def rN(P:Program)(m:Mem)(A3:Nat)(t:TypeId)(len:Nat)(ps:List (Nat×AV)):dF:=
 match tk P t with
 | .slice e=>match fT P e,m8 P e,sl ps with
  |some sz,some A7,some E=>match Mem.get m A3 with
   |some ⟨_,v,_⟩=>.dp (A7.size=sz/\len*sz<=2^24/\ps.map (·.1)=List.range' 0 len/\(∀d∈E,d.size=sz)) (.vec A3 (v+1) 0 len) ⟨A3,v+1,.vec sz E⟩
   |none=>.val (A7.size=sz/\len*sz<=2^24/\ps.map (·.1)=List.range' 0 len/\(∀d∈E,d.size=sz)) (.d (.list E))
  |_,_,_=>.no
 |_=>.no
def kH(P:Program)(m:Mem)(A3:Nat)(t:TypeId)(len:Nat)(ps:List (Nat×AV)):dF:=
 match hY P t A3 len ps (Mem.get m A3)with
 |some r=>r
 |none=>rN P m A3 t len ps
theorem xG{P:Program}{w:World}{t e:TypeId}{sz len:Nat}{A7:D}(AW:tk P t=.slice e)(V:fT P e=some sz)(AG:m8 P e=some A7)(A0:len*sz<=2^24)
 {vs:List (Nat×Value)} (hi:vs.map (·.1)=List.range' 0 len) (O:∀v∈vs,v.2.cells.size=sz):
 ∃arr:Array Value,arr.toList=vs.flatMap (λv=>v.2.cells.toList)/\(Instr.buildSlice t len vs.toArray).run P w=.ok (.slice (some ⟨w.heap.size,0,none⟩) len len) (w.alloc (.cells arr e)):=by
 obtain⟨z,A1,BT,BU,_⟩:=EK AG w;have Z:vs.length=len:=by
  have:=agt List.length hi;simpa using this
 have B3:¬(len*sz>2^24):=by omega
 by_cases AA:len*sz=0
 ·obtain⟨out,I,Y⟩:=DC sz vs 0 #[] (by rw[Z];exact hi) O (by rw[Z];simp[AA]);refine⟨out,by simpa using Y,?_⟩;simp only[Instr.buildSlice,Sem.run_bind,run_underlying (gr AW),Result.andThen_ok,run_sizeOf V,AA,afz,show Array.range 0=#[]from rfl,Array.map_empty,I,show ¬(0>2^24) by decide,adW,Sem.run_bind,Sem.run_pure,iM]
 ·obtain⟨out,I,Y⟩:=DC sz vs 0 ((Array.range (len*sz)).map (z.cells[·%z.cells.size]!)) (by rw[Z];exact hi) O (by rw[Z];simp);refine⟨out,by simpa using Y,?_⟩;simp only[Instr.buildSlice,Sem.run_bind,run_underlying (gr AW),Result.andThen_ok,run_sizeOf V,B3,adW,AA,A1,Sem.run_pure,I,iM]
theorem I1(P:Program)(S:St)(o:Oper)(t:TypeId)(len:Nat)(ps:Array (Nat×Operand))(AX:o.op=.buildSlice t len ps)(M:∀x∈ps.toList,(S.aq x.2).1=true):
 aN P S o (kH P S.mem (keyOf o) t len (ps.toList.map λx=>(x.1,(S.aq x.2).2))):=by
 have parts:∀{φ G a w},Rel φ G S a w->∀(i:Nat)(p:Nat×AV)(v:Value),(ps.toList.map λx=>(x.1,(S.aq x.2).2))[i]?=some p->(ps.toList.map λx=>a.eval x.2)[i]?=some v->aF φ w (Fo G φ S.mem) p.2 v:=by
  intro φ G a w H i p v I Y;simp only[adz,aba]at I Y;obtain⟨x,Ax,rfl⟩:=I;obtain⟨y,Ay,rfl⟩:=Y;rw[Ax]at Ay;cases Ay;exact H.aq _ (M x (abk Ax))
 have main:∀{e sz A7 E},tk P t=.slice e->fT P e=some sz->m8 P e=some A7->sl (ps.toList.map λx=>(x.1,(S.aq x.2).2))=some E->A7.size=sz->len*sz<=2^24->
  (ps.toList.map λx=>(x.1,(S.aq x.2).2)).map (·.1)=List.range' 0 len->(∀d∈E,d.size=sz)->∀{φ G a w},Rel φ G S a w->
  E.length=len/\∃arr:Array Value,cy w (Fo G φ S.mem) sz E arr.toList/\(execOp a.eval o).run P w=.ok (.value (.slice (some ⟨w.heap.size,0,none⟩) len len)) (w.alloc (.cells arr e)):=by
  intro e sz A7 E AW V AG AB AY A0 hi A6 φ G a w H;obtain⟨I,Y⟩:=ES (φ:=φ) (w:=w) (F:=Fo G φ S.mem) _ E (ps.toList.map λx=>a.eval x.2) AB (by simp) (parts H);have AH:=ER E _ I A6 Y;have B4:(ps.toList.map λx=>(x.1,a.eval x.2)).map (·.1)=List.range' 0 len:=by rw[<-hi];simp
  have O:∀v∈(ps.toList.map λx=>(x.1,a.eval x.2)),v.2.cells.size=sz:=by
   intro v O;simp only[abz]at O;obtain⟨x,B5,rfl⟩:=O;obtain⟨i,Az,B6⟩:=an4.1 B5;have hid:i<E.length:=by rw[I];simpa using Az
   have:=Y i E[i] (a.eval x.2) (by simp[hid]) (by simp[adv Az,B6]);cases this with|d _ _ h=>rw[h.size];exact A6 _ (af8 hid)
  obtain⟨arr,Af,A1⟩:=xG (P:=P) (w:=w) AW V AG A0 B4 O;refine⟨?_,arr,?_,?_⟩
  ·have:=agt List.length hi;simp at this;rw[I];simp;exact this
  ·rw[Af];have e:(ps.toList.map λx=>(x.1,a.eval x.2)).flatMap (λv=>v.2.cells.toList)=(ps.toList.map λx=>a.eval x.2).flatMap (λv=>v.cells.toList):=by simp[List.flatMap_map]
   rw[e];exact AH
  ·have B7:(ps.map λx=>(x.1,a.eval x.2))=(ps.toList.map λx=>(x.1,a.eval x.2)).toArray:=by apply Array.ext';simp
   simp only[execOp,AX,Sem.run_bind];have Ag:(ps.map λ(i,x)=>(i,a.eval x))=(ps.toList.map λx=>(x.1,a.eval x.2)).toArray:=B7;rw[Ag,A1];rfl
 have nil:∀r,hY P t (keyOf o) len (ps.toList.map λx=>(x.1,(S.aq x.2).2)) (Mem.get S.mem (keyOf o))=some r->aN P S o r:=by
  intro r A4;unfold hY at A4;split at A4
  ·rename_i key v cont AN AL;split at A4
   ·rename_i e AZ;split at A4
    ·rename_i sz A7 V AG;cases A4;refine aN.sS ?_;rintro ⟨rfl,rfl⟩ φ G a w H;have B8:ps.toList.length=1:=by have:=agt List.length AN;simpa using this
     obtain⟨q,Ah⟩:∃q,ps.toList=[q]:=by
      match BV:ps.toList,B8 with
      |[q],_=>exact⟨q,rfl⟩
     have Ai:=parts H 0 (0,.lit (.slice none 0 0)) (a.eval q.2) (by rw[AN];rfl) (by rw[Ah];rfl);simp only at Ai;have Aj:a.eval q.2=.slice none 0 0:=by
      generalize a.eval q.2=u at Ai;cases Ai;rfl
     have B9:q.1=0:=by
      rw[Ah]at AN;simp only[adC,List.map_nil,List.cons.injEq,adI]at AN;exact AN.1.1
     obtain⟨arr,Af,A1⟩:=xG (P:=P) (w:=w) (len:=1) AZ V AG (by decide) (vs:=[(0,.slice none 0 0)]) rfl (by simp[Value.cells]);have AF:arr=#[.slice none 0 0]:=by apply Array.ext';rw[Af];simp[Value.cells]
     subst AF;obtain⟨hm,AI,L,AO,AJ,_⟩:=H.mem.get AL;simp only at AI AJ;subst AI;obtain⟨φ',Ak,Al,An,Ao⟩:=H.mem.fresh (e:=⟨keyOf o,v,cont⟩) hm AO AJ w rfl rfl rfl rfl #[.slice none 0 0] e 1 1 (.box [.lit (.slice none 0 0)]) (λ_ A0=>A0) (λφ' hle BA B' AC=>by
      refine⟨⟨rfl,rfl,rfl⟩,#[.slice none 0 0],e,.new AC,rfl,by simp[cG],λn c u A5 hu=>?_⟩;cases n with
      |zero=>simp at A5 hu;subst A5;subst hu;exact .lit _ rfl
      |succ n=>simp at A5)
     refine⟨.slice (some ⟨w.heap.size,0,none⟩) 1 1,_,φ',.inl ?_,.vec _ (v+1) 0 _ _ _ An (aa7 _) (λ_=>⟨_,_,rfl,aa7 _,λ_=>⟨by simp,by simp⟩⟩) rfl,Ak,Al,Ao⟩;have Ag:(ps.map λ(i,x)=>(i,a.eval x))=#[(0,.slice none 0 0)]:=by
      apply Array.ext';simp[Ah,B9,Aj]
     simp only[execOp,AX,Sem.run_bind];rw[Ag];have BB:(Instr.buildSlice t 1 #[(0,Value.slice none 0 0)]).run P w=_:=A1;rw[BB];rfl
    ·cases A4
   ·cases A4
  ·cases A4
 unfold kH;split
 ·rename_i r A4;exact nil r A4
 rename_i A4;clear A4 nil;unfold rN;split
 ·rename_i e AZ;split
  ·rename_i sz A7 E V AG AB;split
   ·rename_i key v cont AL;refine aN.sS ?_;rintro ⟨AY,A0,hi,A6⟩ φ G a w H;obtain⟨Z,arr,AH,A1⟩:=main AZ V AG AB AY A0 hi A6 H;obtain⟨hm,AI,L,AO,AJ,_⟩:=H.mem.get AL;simp only at AI AJ;subst AI;obtain⟨φ',Ak,Al,An,Ao⟩:=H.mem.fresh (e:=⟨keyOf o,v,cont⟩) hm AO AJ w rfl rfl rfl rfl arr e sz len (.vec sz E) (λ_ A0=>A0.2) (λφ' hle BA B' AC=>by
     refine wR (cs:=arr.toList) (rest:=[]) (elem:=e) rfl rfl (AH.mono B') (by simp) (by simpa using Nat.le_of_eq Z) (by rw[afy,AH.1,Z]) (λ_=>?_);refine fu.new ?_;rw[AC,afy,an6])
    exact⟨_,_,φ',.inl A1,.vec _ (v+1) 0 _ _ _ An (aa7 _) (λ_=>⟨_,_,rfl,aa7 _,λ_=>⟨by simp,by simp⟩⟩) rfl,Ak,Al,Ao⟩
   ·refine aN.apt ?_;rintro ⟨AY,A0,hi,A6⟩ φ G a w H;obtain⟨Z,arr,AH,A1⟩:=main AZ V AG AB AY A0 hi A6 H;have hold:∀b,b<w.heap.size->(w.alloc (.cells arr e)).heap[b]?=w.heap[b]?:=λb A0=>RowKit.Below.heap_alloc w _ b A0;have AC:=heap_alloc_new w (.cells arr e);refine⟨_,_,.inl A1,.d _ _ ?_,hold,by simp,rfl,rfl,rfl⟩;have:=JW (cap:=len) AH AC (rest:=[]) (by simp) (λx v h=>JX hold (by simp) x v h) (λh=>absurd (Dz H.mem _ h) (Nat.lt_irrefl _)) (Nat.le_of_eq Z);rw[Z]at this;exact this
  ·trivial
 ·trivial
def sm(s:List UInt8):List D:=s.map λb=>.int .u8 b.toNat
def byteOf:D->UInt8
 | .int _ n=>UInt8.ofNat n.toNat
 |_=>0
def D.isByte:D->Bool
 | .int .u8 _=>true
 |_=>false
theorem D.U7{d:D}(h:d.isByte=true):∃n,d=.int .u8 n:=by
 unfold D.isByte at h;split at h<;>simp_all
def mV(P:Program)(m:Mem)(A3:Nat)(src dst:TypeId)(x:AV):dF:=
 match tk P dst,x with
 | .int k,.d (.int _ n)=>.val (tk P src≠.other) (.d (.int k (k.wrap n)))
 | .str,.d (.int _ n)=>.val (tk P src≠.other) (.d (.str (Utf8.encode n).data.toList))
 | .str,.d (.str s)=>.val (tk P src=.str) (.d (.str s))
 | .str,x=>match tk P src with
  | .slice e=>match il m 1 x with
   |some (c,A8)=>.val (c/\tk P e=.int .u8/\fT P e=some 1/\∀d∈A8,d.isByte=true) (.d (.str (A8.map byteOf)))
   |none=>.no
  |_=>.no
 | .slice e,.d (.str s)=>match tk P src,tk P e,Mem.get m A3 with
  | .str,.int .u8,none=>.val True (.d (.list (sm s)))
  |_,_,_=>.no
 |_,_=>.no
theorem ET{P:Program}{w:World}:∀(cs:List Value)(AP:ByteArray)(A':List Int),cs=A'.map (Value.int .u8)->
 (forIn cs AP (λc s=>(match c with| .int .u8 n=>pure (ForInStep.yield (s.push (UInt8.ofNat n.toNat)))|_=>(do stuck "bytesToString: byte expected";pure (ForInStep.yield s)):Sem (ForInStep ByteArray)))).run P w=.ok ⟨(AP.data.toList++A'.map λn=>UInt8.ofNat n.toNat).toArray⟩ w
 |[],AP,A',h=>by
  have:A'=[]:=by simpa using h.symm
  subst this;simp
 |c::cs,AP,A',h=>by
  cases A' with
  |nil=>simp at h
  |cons n A'=>
   simp at h;obtain⟨rfl,rfl⟩:=h;simp only[List.forIn_cons,Sem.run_bind,Sem.run_pure,Result.andThen_ok];rw[ET (A'.map (Value.int .u8)) (AP.push (UInt8.ofNat n.toNat)) A' rfl];simp
theorem Nr{P:Program}{w:World}{e:TypeId}{b:ByteArray}:∃(arr:Array Value)(fr:Nat×Nat)(w':World)(cap:Nat)(rest:List Value),b.size<=cap/\(Conv.stringToBytes e b).run P w=.ok (.slice (some ⟨w.heap.size,0,none⟩) b.size cap) w'/\
 arr.toList=(b.data.toList.map λx=>Value.int .u8 x.toNat)++rest/\w'.heap[w.heap.size]?=some (.cells arr e fr)/\(∀k,k<w.heap.size->w'.heap[k]?=w.heap[k]?)/\w.heap.size<=w'.heap.size/\w'.os=w.os/\w'.tape=w.tape/\w'.output=w.output:=by
 obtain⟨cap,AK⟩:∃cap,cap=(Question.appendCap b.size 0 e).cut (w.tape w.drawn (.appendCap b.size 0 e)):=⟨_,rfl⟩;obtain⟨arr,AF⟩:∃arr:Array Value,arr=(b.data.map λx=>Value.int .u8 x.toNat)++Array.replicate (cap-b.size) (.int .u8 0):=⟨_,rfl⟩;obtain⟨T,AM⟩:∃T,T=w.drew.alloc (.cells arr e):=⟨_,rfl⟩;have AC:T.heap[w.heap.size]?=some (.cells arr e (0,0)):=by
  have:=heap_alloc_new w.drew (.cells arr e);rw[<-AM]at this;exact this
 have Ad:w.heap.size<T.heap.size:=(adU.1 AC).1;have BC:T.shape? w.heap.size=some (e,arr.size):=by simp[World.shape?,AC]
 refine⟨arr,(arr.size,arr.size+1),T.freeze ⟨w.heap.size,arr.size,none⟩ 1,cap,List.replicate (cap-b.size) (.int .u8 0),?_,?_,?_,?_,?_,?_,?_,?_,?_⟩
 ·rw[AK];simp[Question.cut]
 ·have Ae:(choose (.appendCap b.size 0 e)).run P w=.ok cap w.drew:=by
   rw[AK];rfl
  have BD:(newRow e arr).run P w.drew=.ok ⟨w.heap.size,0,none⟩ T:=by rw[AM];rfl
  have BE:(markStringish ⟨w.heap.size,0,none⟩).run P T=.ok () (T.freeze ⟨w.heap.size,arr.size,none⟩ 1):=by
   simp only[markStringish,shape,Sem.run_bind,Sem.run,BC,Result.andThen_ok,freeze]
  simp only[Conv.stringToBytes,Sem.run_bind,Ae,Result.andThen_ok,<-AF,BD,BE,Sem.run_pure]
 ·rw[AF];simp
 ·simp[World.freeze,ajl,AC]
 ·intro k AI;have I:(T.freeze ⟨w.heap.size,arr.size,none⟩ 1).heap[k]?=T.heap[k]?:=by
   simp only[World.freeze,Nat.one_ne_zero,adW,ajl];rw[aa4 (by omega)]
  rw[I,AM];exact RowKit.Below.heap_alloc w.drew _ k AI
 ·simp[World.freeze];omega
 ·simp[World.freeze,AM];rfl
 ·simp[World.freeze,AM]
 ·simp[World.freeze,AM];rfl
theorem RW(n:Int):byteOf (.int .u8 n)=UInt8.ofNat n.toNat:=rfl
theorem N5(P:Program)(S:St)(o:Oper)(src dst:TypeId)(x:Operand)(AX:o.op=.convert src dst x)(M:(S.aq x).1=true):aN P S o (mV P S.mem (keyOf o) src dst (S.aq x).2):=by
 have A1:∀(a:Act)(w w':World)(v:Value),(convert src dst (a.eval x)).run P w=.ok v w'->(execOp a.eval o).run P w=.ok (.value v) w':=by
  intro a w w' v h;simp[execOp,AX,h]
 unfold mV;split
 ·rename_i k BW n J A2;refine aN.pure λA5 φ G a w H=>?_;have I:=H.aq x M;rw[A2]at I;obtain⟨BF,hu⟩:=DB A5;refine⟨.int k (k.wrap n),A1 a w w _ ?_,.d _ _ (.int _ _)⟩;rw[kh I];simp[convert,run_underlying hu,run_underlying (xE J),Conv.intToInt]
 ·rename_i k n J A2;refine aN.pure λA5 φ G a w H=>?_;have I:=H.aq x M;rw[A2]at I;obtain⟨BF,hu⟩:=DB A5;refine⟨.string (Utf8.encode n),A1 a w w _ ?_,.d _ _ (.str _ _ rfl)⟩;rw[kh I];simp[convert,run_underlying hu,run_underlying (oB J),Conv.intToString]
 ·rename_i s J A2;refine aN.pure λA5 φ G a w H=>?_;have I:=H.aq x M;rw[A2]at I;obtain⟨b,Ap,rfl⟩:=uy I;refine⟨.string b,A1 a w w _ ?_,.d _ _ (.str _ _ rfl)⟩;rw[Ap];simp[convert,run_underlying (oB A5),run_underlying (oB J)]
 ·rename_i J _ _;split
  ·rename_i e A_;split
   ·rename_i c A8 AD;refine aN.pure ?_;rintro ⟨A5,Aa,BX,AQ⟩ φ G a w H;replace AQ:=λd J=>D.U7 (AQ d J);have A2:=H.aq x M;obtain⟨BG,Aq⟩:=JC (P:=P) H.mem A2 AD A5 (λd J=>by obtain⟨n,rfl⟩:=AQ d J;rfl);have Z:=Aq.len w;have AR:=Aq.first w (λ_ _=>rfl);obtain⟨BH,BY,BZ,BI⟩:=Aq.aj
    --B_ cells as numbers
    have Ab:∃A':List Int,BG=A'.map (Value.int .u8)/\A8=A'.map (D.int .u8):=by
     refine⟨A8.map λd=>(match d with| .int _ n=>n|_=>0),?_,?_⟩
     ·apply List.ext_getElem?;intro i;by_cases hi:i<A8.length
      ·obtain⟨v,O,BJ⟩:=BI i A8[i] (by simp[hi]);obtain⟨n,Ac⟩:=AQ A8[i] (af8 hi);rw[Ac]at O;cases O;have:=BJ 0 (.int .u8 n) rfl;simp only[ajt,af5]at this;rw[this];simp[hi,Ac]
      ·rw[age (by rw[BH];omega),age (by simp;omega)]
     ·apply List.ext_getElem?;intro i;by_cases hi:i<A8.length
      ·obtain⟨n,Ac⟩:=AQ A8[i] (af8 hi);simp[hi,Ac]
      ·rw[age (by omega),age (by simp;omega)]
    obtain⟨A',rfl,rfl⟩:=Ab;generalize Aj:a.eval x=Ar at Z AR A2;have O:(∃ao m cap,Ar=.slice ao m cap)\/(∃b,Ar=.string b):=by
     cases Ar<;>first|exact .inl ⟨_,_,_,rfl⟩|exact .inr ⟨_,rfl⟩|(simp[Builtin.lenOf,stuck]at Z)
    refine⟨.string ⟨(A'.map λn=>UInt8.ofNat n.toNat).toArray⟩,A1 a w w _ ?_,.d _ _ (.str _ _ ?_)⟩
    ·rw[Aj];rcases O with ⟨ao,m,cap,rfl⟩|⟨b,rfl⟩
     ·simp only[Builtin.lenOf,Sem.run_pure,Result.ok.injEq,and_true]at Z;subst Z;cases ao with
      |none=>
       have BK:A'=[]:=by
        simp only[Builtin.firstCells,Sem.run_pure,Result.ok.injEq,and_true]at AR;have:=agt Array.size AR;simp at this;exact abv this.symm
       subst BK;simp[convert,run_underlying (gr A_),run_underlying (oB J),run_underlying (xE Aa),Conv.bytesToString];rfl
      |some Ba=>
       simp only[Builtin.firstCells,ajt]at AR;have A0:=ET (P:=P) (w:=w) (A'.map (Value.int .u8)) ByteArray.empty A' rfl;simp only[convert,run_underlying (gr A_),run_underlying (oB J),run_underlying (xE Aa),Sem.run_bind,Result.andThen_ok,Conv.bytesToString,AR];rw[<-Array.forIn_toList];simp only[Sem.run_pure];refine Eq.trans (agt (λr=>Result.andThen r λa w'=>Result.ok (Value.string a) w') A0) ?_;rfl
     ·exfalso;have Ab:∀s,(S.aq x).2=.d (.str s)->False:=by assumption
      generalize (S.aq x).2=y at AD A2 Ab;unfold il at AD;split at AD
      ·cases A2 with|d _ _ h=>cases h
      ·exact Ab _ rfl
      ·cases A2
      ·cases A2
      ·split at AD
       ·rename_i key Aw Bb aj AL;simp only[abp,adI]at AD;obtain⟨rfl,_⟩:=AD;obtain⟨_,_,L,AO,AJ,_⟩:=H.mem.get AL;cases A2 with
        |vec _ _ _ _ _ L' B0 _ h _=>
         rw[AO]at B0;cases B0;obtain⟨_,_,Y,_⟩:=h (by rw[<-(adL A5).1];exact AJ.symm);cases Y
       ·cases AD
      ·cases AD
    ·simp[RW,Function.comp_def]
   ·trivial
  ·trivial
 ·rename_i e s J A2;split
  ·rename_i A_ Aa AL;intro _ φ G a w H;have I:=H.aq x M;rw[A2]at I;obtain⟨b,Ap,rfl⟩:=uy I;have BL:b.size=b.data.toList.length:=by rw[adF];rfl
   obtain⟨arr,fr,w',cap,rest,AK,BM,AF,hh,hold,A6,BN,BO,BP⟩:=Nr (P:=P) (w:=w) (e:=e) (b:=b);have AH:cy w (Fo G φ S.mem) 1 (sm b.data.toList) (b.data.toList.map λx=>Value.int .u8 x.toNat):=by
    refine⟨by simp[sm],?_,?_,?_⟩
    ·intro v O;simp only[abz]at O;obtain⟨y,_,rfl⟩:=O;rfl
    ·intro d J;simp only[sm,abz]at J;obtain⟨y,_,rfl⟩:=J;rfl
    ·intro i d J;simp only[sm,adz,aba]at J;obtain⟨y,BQ,rfl⟩:=J;refine⟨.int .u8 y.toNat,.int _ _,λj c AE=>?_⟩;cases j with
     |zero=>simp only[Value.cells]at AE;simp at AE;subst AE;simp only[adz,ajt,af5,BQ];rfl
     |succ j=>simp[Value.cells]at AE
   have U:=JW (cap:=cap) AH hh AF (λx v h=>JX hold A6 x v h) (λh=>absurd (Dz H.mem _ h) (Nat.lt_irrefl _)) (by simp[sm];exact AK);refine⟨_,w',.inl (A1 a w w' _ ?_),.d _ _ U,hold,A6,BN,BO,BP⟩;have Z:(sm b.data.toList).length=b.size:=by rw[BL];simp[sm]
   rw[Ap,Z];simp only[convert,run_underlying (oB A_),run_underlying (gr J),run_underlying (xE Aa),Sem.run_bind,Result.andThen_ok];exact BM
  ·trivial
 ·trivial
end Go.Am
end

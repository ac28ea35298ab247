/-
  Texts of one proof, one behind the other.
-/
import Derived.SizedLaws
import Derived.Handed
import Derived.Shelf.Vars
import Derived.WalkKit
import Derived.Laws.Rows
import Derived.Laws.CopyRow
import Derived.Laws.StructEq
set_option linter.all false
namespace Go.Am
open Go
def Ds:=@Bool.and_eq_true
def abM:=@List.getElem?_eq_some_iff
def abN:=@if_neg
def abO:=@Nat.le_refl
def abQ:=@decide_eq_true_eq
def abS:=@Option.map_eq_some_iff
def abT:=@if_pos
def abU:=@List.mem_of_getElem?
def abV:=@List.mem_cons
def abW:=@List.getElem?_append_left
def abX:=@Option.some.injEq
def abY:=@Array.getD_eq_getD_getElem?
def abZ:=@List.getElem?_take
def ab0:=@Nat.mul_le_mul_right
def ab1:=@List.getElem?_append_right
def ab2:=@List.all_eq_true
def ab3:=@List.mem_append
def ab4:=@List.mem_map
def ab7:=@List.mem_map_of_mem
def ab8:=@List.eq_nil_of_length_eq_zero
def ace:=@Array.length_toList
def acg:=@List.length_append
def ach:=@List.length_cons
def adF:=@List.mem_range
def adK:=@List.getElem?_map
def adL:=@Prod.mk.injEq
def adM:=@List.mem_of_mem_drop
def adN:=@Nat.add_assoc
def adV:=@List.mem_of_mem_take
def adY:=@List.getElem?_drop
def ad0:=@if_false
def ad1:=@Array.getElem?_eq_some_iff
def ad2:=@List.getElem?_eq_getElem
def ad7:=@of_decide_eq_true
def ad8:=@Bool.false_ne_true
def aed:=@List.not_mem_nil
def aei:=@List.mem_filter
def aej:=@List.take_of_length_le
def ael:=@List.mem_cons_of_mem
def aem:=@List.size_toArray
def aeo:=@List.length_drop
def aep:=@List.getElem_mem
def aeq:=@Nat.add_mul
def aer:=@Option.getD_some
def aes:=@if_true
def aeu:=@List.length_singleton
def aeB:=@decide_eq_false_iff_not
def aeC:=@List.map_cons
def aeE:=@Option.bind_some
def aeF:=@Nat.zero_add
def aeG:=@List.getElem?_toArray
def aeI:=@List.length_nil
def aeK:=@congrArg
def aeN:=@List.drop_eq_getElem_cons
def aeO:=@Array.getElem?_eq_getElem
def aeP:=@List.append_nil
def ae3:=@List.length_take
def afa:=@List.getElem?_eq_none
def afk:=@Array.getElem?_toList
def agR:=@Nat.add_zero
def ag4:=@List.getD_eq_getElem?_getD
def ag6:=@Array.getElem?_append_left
def ag9:=@List.foldl_cons
def ahf:=@List.append_assoc
def ahj:=@Option.map_some
def ahl:=@Ne.symm
def ahv:=@Nat.succ_mul
def ahw:=@List.filter_eq_nil_iff
def ahy:=@Bool.not_eq_true'
def ahz:=@Bool.or_eq_true
def ahA:=@Nat.lt_of_lt_of_le
def ahG:=@Bool.false_eq_true
def ahI:=@Nat.le_trans
def ah9:=@List.foldl_nil
def aia:=@List.all_cons
def aih:=@List.range'_succ
def aim:=@List.filter_filter
def aio:=@List.filter_append
def aiO:=@Bool.false_and
def aiT:=@List.takeWhile_prefix
def aiW:=@Array.getElem?_modify
def ame:=@Nat.min_eq_left
def amf:=@List.mem_append_left
def amg:=@List.filter_congr
def amh:=@Decidable.em
def ami:=@Option.isSome_iff_exists
def amj:=@Bool.true_and
def amk:=@decide_eq_true
def aml:=@Option.bind_eq_some_iff
def amm:=@Nat.mul_one
def amn:=@Nat.le_succ
def amo:=@Nat.eq_zero_or_pos
def amp:=@Nat.le_add_left
def amq:=@List.length_filter_lt_length_iff_exists
def amr:=@not_or
def ams:=@List.filter_cons_of_neg
def amt:=@or_false
def amu:=@List.tail_drop
def amv:=@List.mem_range'_1
def amw:=@List.drop_drop
def amx:=@Classical.not_not
def amz:=@List.take_append_drop
def ang:=@Nat.zero_le
def anh:=@List.take_append_of_le_length
def ani:=@List.mem_iff_getElem
def anj:=@List.getElem?_of_mem
def ank:=@Array.toArray_toList
end Go.Am
section
namespace Go.Am
open Go
inductive D where
 |int (k:IntKind) (n:Int)
 |bool (b:Bool)
 |str (s:List UInt8)
 |list (xs:List D)
 |agg (cs:List D)
 |yA
def D.size:D->Nat
 | .agg cs=>cs.length
 |_=>1
def D.flat:D->Bool
 | .agg _=>false
 |_=>true
def cA:Value->Bool
 | .agg _=>false
 | .tuple _=>false
 |_=>true
theorem dW{v:Value}(h:cA v=true):v.cells=#[v]:=by cases v<;>simp_all [cA,Value.cells]
inductive aO(w:World)(F:Nat->Prop):D->Value->Prop
 |int (k n):aO w F (.int k n) (.int k n)
 |bool (b):aO w F (.bool b) (.bool b)
 |yA (v:Value) (h:v=.nilIface\/∃t p,v=.iface t p):aO w F .yA v
 |str (b:ByteArray) (s:List UInt8) (h:b.data.toList=s):aO w F (.str s) (.string b)
 |agg (cs:List D) (a:Array Value) (E:cs.length=a.size)
  (T:∀d∈cs,d.flat=true) (H:∀(i:Nat)(d:D)(v:Value),cs[i]?=some d->a[i]?=some v->aO w F d v):aO w F (.agg cs) (.agg a)
 |nil (a:Option Addr) (cap:Nat) (A0:a=none->cap=0):aO w F (.list []) (.slice a 0 cap)
 |list (xs:List D) (b off cap sz:Nat) (vs:Nat->Value) (A1:xs.length<=cap) (N:b<w.heap.size) (M:¬F b) (A2:∀d∈xs,d.size=sz)
  (U:∀(i:Nat)(d:D),xs[i]?=some d->aO w F d (vs i))
  (H:∀(i j:Nat)(c:Value),i<xs.length->(vs i).cells[j]?=some c->w.cell? ⟨b,off+i*sz+j,none⟩=some c):
  aO w F (.list xs) (.slice (some ⟨b,off,none⟩) xs.length cap)
theorem aO.size{w F d v}(h:aO w F d v):v.cells.size=d.size:=by
 cases h
 case yA h=>rcases h with rfl|⟨t,p,rfl⟩<;>rfl
 all_goals simp_all [D.size,Value.cells]
theorem aO.one{w F d v}(h:aO w F d v)(T:d.flat=true):cA v=true:=by
 cases h
 case yA h=>rcases h with rfl|⟨t,p,rfl⟩<;>rfl
 all_goals simp_all [D.flat,Am.cA]
theorem j0{w w':World}{b o:Nat}(h:w'.heap[b]?=w.heap[b]?):w'.cell? ⟨b,o,none⟩=w.cell? ⟨b,o,none⟩:=by
 simp[World.cell?,h]
theorem aO.mono{w w':World}{F F':Nat->Prop}{d v}(h:aO w F d v)
 (V:∀b,b<w.heap.size->¬F b->w'.heap[b]?=w.heap[b]?) (q:w.heap.size<=w'.heap.size) (M:∀b,b<w.heap.size->F' b->F b):aO w' F' d v:=by
 induction h with
 |int k n=>exact .int k n
 |bool b=>exact .bool b
 |yA v h=>exact .yA v h
 |str b s h=>exact .str b s h
 |agg cs a E T _ ih=>exact .agg cs a E T ih
 |nil a cap A0=>exact .nil a cap A0
 |list xs b off cap sz vs A1 N Y A2 _ H ih=>
  exact .list xs b off cap sz vs A1 (by omega) (λh=>Y (M b N h)) A2 ih (λi j c hi A8=>by
   rw[j0 (V b N Y)];exact H i j c hi A8)
def r8:Nat:=1000000
inductive AV where
 |bf
 |d (x:D)
 |agg (cs:List AV)
 |ptr (k ak off:Nat)
 |vec (k ak off len:Nat)
 |cN (k ak i j:Nat)
 |dM (x:D) (j:Nat)
 |fn (f:FuncId) (cap:List AV)
 |bY (vs:List AV)
 |gw (t:TypeId) (x:D)
 |lit (v:Value)
 |nn
 |err
structure Loc where
 ak:Nat
 dw:Nat
 sz:Nat
 cap:Nat
 base:Nat
 cZ:List (Option Nat):=[]
abbrev bN:=Nat->Option Loc
inductive aB(φ:bN)(w:World)(F:Nat->Prop):AV->Value->Prop
 |bf (v):aB φ w F .bf v
 |d (x v) (h:aO w F x v):aB φ w F (.d x) v
 |agg (cs:List AV) (a:Array Value) (E:cs.length=a.size) (A:∀v∈a,cA v=true) (H:∀(i:Nat)(c:AV)(v:Value),cs[i]?=some c->a[i]?=some v->aB φ w F c v):aB φ w F (.agg cs) (.agg a)
 |ptr (k ak off:Nat) (v:Value) (L:Loc) (I:φ k=some L) (U:ak<=L.ak) (h:ak=L.ak->v=.pointer (some ⟨L.dw,off,none⟩)) (A:cA v=true):aB φ w F (.ptr k ak off) v
 |vec (k ak off len:Nat) (v:Value) (L:Loc) (I:φ k=some L) (U:ak<=L.ak)
  (h:ak=L.ak->∃a cap,v=.slice a len cap/\len<=cap/\(cap>0->a=some ⟨L.dw,L.base+off*L.sz,none⟩/\off+cap<=L.cap)) (A:cA v=true):aB φ w F (.vec k ak off len) v
 |cN (k ak i j:Nat) (v:Value) (L:Loc) (I:φ k=some L) (U:ak<=L.ak) (h:ak=L.ak->v=.pointer (some ⟨L.dw,L.base+i*L.sz+j,none⟩)) (A:cA v=true):aB φ w F (.cN k ak i j) v
 |dM (x:D) (j:Nat) (b off:Nat) (y:Value) (N:b<w.heap.size) (M:¬F b) (A3:aO w F x y)
  (H:∀(i:Nat)(c:Value),y.cells[i]?=some c->w.cell? ⟨b,off+i,none⟩=some c):aB φ w F (.dM x j) (.pointer (some ⟨b,off+j,none⟩))
 |fn (f:FuncId) (cap:List AV) (a:Array Value) (T:f<r8) (E:cap.length=a.size) (H:∀(i:Nat)(c:AV)(v:Value),cap[i]?=some c->a[i]?=some v->aB φ w F c v):aB φ w F (.fn f cap) (.func (.func f) #[] a)
 |r9 (f:FuncId) (cap:List AV) (a:Array Value) (E:cap.length=a.size) (H:∀(i:Nat)(c:AV)(v:Value),cap[i]?=some c->a[i]?=some v->aB φ w F c v):aB φ w F (.fn (f+r8) cap) (.func (.func f) a #[])
 |bY (vs:List AV) (a:Array Value) (E:vs.length=a.size) (H:∀(i:Nat)(c:AV)(v:Value),vs[i]?=some c->a[i]?=some v->aB φ w F c v):aB φ w F (.bY vs) (.tuple a)
 |gw (t:TypeId) (x:D) (v:Value) (h:aO w F x v):aB φ w F (.gw t x) (.iface t v)
 |lit (v) (A:cA v=true):aB φ w F (.lit v) v
 |nn (a:Addr) (cap:Nat):aB φ w F .nn (.slice (some a) 0 cap)
 |err (t:TypeId) (v:Value):aB φ w F .err (.iface t v)
def bN.le(φ φ':bN):Prop:=∀k L,φ k=some L->∃L',φ' k=some L'/\L.ak<=L'.ak/\(L'.ak=L.ak->L'={L with cZ:=L'.cZ})
theorem bN.le_refl(φ:bN):φ.le φ:=λ_ L h=>⟨L,h,abO _,λ_=>rfl⟩
theorem bN.le_trans{φ φ' A4:bN}(h:φ.le φ')(A9:φ'.le A4):φ.le A4:=by
 intro k L I;obtain⟨A5,A,AD,AA⟩:=h k L I;obtain⟨AB,AC,AE,A6⟩:=A9 k A5 A;refine⟨AB,AC,by omega,λe=>?_⟩;have J:A5.ak=L.ak:=by omega
 have O:=AA J;rw[O]at A6;exact A6 (by rw[e])
theorem aB.mono{φ φ':bN}{w w':World}{F F':Nat->Prop}{x v}(h:aB φ w F x v)(A':φ.le φ')
 (V:∀b,b<w.heap.size->¬F b->w'.heap[b]?=w.heap[b]?) (q:w.heap.size<=w'.heap.size) (M:∀b,b<w.heap.size->F' b->F b):aB φ' w' F' x v:=by
 induction h with
 |bf v=>exact .bf v
 |d x v h=>exact .d x v (h.mono V q M)
 |agg cs a E A _ ih=>exact .agg cs a E A ih
 |ptr k ak off v L I U h A=>
  obtain⟨L',Z,A7,he⟩:=A' k L I;exact .ptr k ak off v L' Z (by omega) (λe=>by
   have J:L'.ak=L.ak:=by omega
   have O:=he J;rw[O];exact h (by rw[e,J])) A
 |vec k ak off len v L I U h A=>
  obtain⟨L',Z,A7,he⟩:=A' k L I;exact .vec k ak off len v L' Z (by omega) (λe=>by
   have J:L'.ak=L.ak:=by omega
   have O:=he J;rw[O];exact h (by rw[e,J])) A
 |cN k ak i j v L I U h A=>
  obtain⟨L',Z,A7,he⟩:=A' k L I;exact .cN k ak i j v L' Z (by omega) (λe=>by
   have J:L'.ak=L.ak:=by omega
   have O:=he J;rw[O];exact h (by rw[e,J])) A
 |dM x j b off y N Y A3 H=>
  exact .dM x j b off y (by omega) (λh=>Y (M b N h)) (A3.mono V q M) (λi c hi=>by rw[j0 (V b N Y)];exact H i c hi)
 |fn f cap a T E _ ih=>exact .fn f cap a T E ih
 |r9 f cap a E _ ih=>exact .r9 f cap a E ih
 |bY vs a E _ ih=>exact .bY vs a E ih
 |gw t x v h=>exact .gw t x v (h.mono V q M)
 |lit v A=>exact .lit v A
 |nn a cap=>exact .nn a cap
 |err t v=>exact .err t v
inductive ay where
 |dead
 |box (cs:List AV)
 |vec (sz:Nat) (ai:List D)
 |vv (ai:List (List D)) (y:Option AV)
structure cB where
 key:Nat
 ak:Nat
 cont:ay
abbrev Mem:=List cB
def Mem.get:Mem->Nat->Option cB
 |[],_=>none
 |e::r,k=>if e.key=k then some e else Mem.get r k
def Mem.set:Mem->cB->Mem
 |[],_=>[]
 |e::r,x=>if e.key=x.key then x::r else e::Mem.set r x
theorem Mem.get_mem{m:Mem}{k e}(h:Mem.get m k=some e):e∈m/\e.key=k:=by
 induction m with
 |nil=>simp[Mem.get]at h
 |cons x r ih=>
  simp only[Mem.get]at h;split at h
  ·simp_all
  ·have:=ih h;simp_all
theorem Mem.get_of_mem{m:Mem}{e}(I:(m.map (·.key)).Nodup)(h:e∈m):Mem.get m e.key=some e:=by
 induction m with
 |nil=>simp at h
 |cons x r ih=>
  simp only[aeC,List.nodup_cons]at I;simp only[Mem.get];rcases abV.1 h with rfl|h
  ·simp
  ·have:x.key≠e.key:=λhe=>I.1 (by rw[he];exact ab7 h);simp[this,ih I.2 h]
theorem Mem.gx(m:Mem)(x:cB):(Mem.set m x).map (·.key)=m.map (·.key):=by
 induction m with
 |nil=>rfl
 |cons e r ih=>
  simp only[Mem.set];split
  ·simp_all
  ·simp[ih]
theorem Mem.mem_set{m:Mem}{x e:cB}(I:(m.map (·.key)).Nodup):e∈Mem.set m x↔(e=x/\x.key∈m.map (·.key))\/(e∈m/\e.key≠x.key):=by
 induction m with
 |nil=>simp[Mem.set]
 |cons y r ih=>
  simp only[aeC,List.nodup_cons]at I;simp only[Mem.set];split
  ·rename_i M;constructor
   ·intro h;rcases abV.1 h with rfl|h
    ·left;simp[M]
    ·right;refine⟨by simp[h],λhe=>I.1 ?_⟩;rw[M,<-he];exact ab7 h
   ·rintro (⟨rfl,_⟩|⟨h,V⟩)
    ·simp
    ·rcases abV.1 h with rfl|h
     ·exact absurd M V
     ·simp[h]
  ·rename_i M;simp only[abV,ih I.2,aeC];constructor
   ·rintro (rfl|⟨rfl,h⟩|⟨h,V⟩)
    ·right;exact⟨.inl rfl,M⟩
    ·left;exact⟨rfl,.inr h⟩
    ·right;exact⟨.inr h,V⟩
   ·rintro (⟨rfl,h⟩|⟨h,V⟩)
    ·rcases h with h|h
     ·exact absurd h.symm M
     ·right;left;exact⟨rfl,h⟩
    ·rcases h with rfl|h
     ·left;rfl
     ·right;right;exact⟨h,V⟩
theorem Mem.oP{m:Mem}{x:cB}(h:x.key∈m.map (·.key)):Mem.get (Mem.set m x) x.key=some x:=by
 induction m with
 |nil=>simp at h
 |cons y r ih=>
  simp only[Mem.set];split
  ·simp[Mem.get]
  ·rename_i M;simp only[Mem.get,M,ad0];exact ih (by simp only[aeC,abV]at h;rcases h with h|h;exact absurd h.symm M;exact h)
theorem Mem.oQ{m:Mem}{x:cB}{k:Nat}(h:x.key≠k):Mem.get (Mem.set m x) k=Mem.get m k:=by
 induction m with
 |nil=>rfl
 |cons y r ih=>
  simp only[Mem.set];split
  ·rename_i M;have:y.key≠k:=by rw[M];exact h
   simp[Mem.get,h,this]
  ·simp only[Mem.get,ih]
def ay.da(L:Loc):ay->Nat->Prop
 | .dead,_=>False
 | .box _,b=>L.dw=b
 | .vec _ _,b=>0<L.cap/\L.dw=b
 | .vv _ _,b=>(0<L.cap/\L.dw=b)\/some b∈L.cZ
def iw(φ:bN)(m:Mem)(b:Nat):Prop:=∃e∈m,∃L,φ e.key=some L/\e.cont.da L b
structure Fr where
 g:Nat->Prop
 dv:List Deferred
instance:CoeFun Fr (λ_=>Nat->Prop):=⟨Fr.g⟩
def Fo(G:Fr)(φ:bN)(m:Mem)(b:Nat):Prop:=G b\/iw φ m b
def eJ(w:World)(b:Nat)(arr:Array Value)(elem:TypeId):Prop:=∃fr:Nat×Nat,w.heap[b]?=some (.cells arr elem fr)/\(fr=(0,0)\/arr.size<=fr.1)
theorem eJ.same{w w':World}{b:Nat}{arr:Array Value}{elem:TypeId}(h:eJ w b arr elem)(O:w'.heap[b]?=w.heap[b]?):eJ w' b arr elem:=by
 obtain⟨fr,T,Y⟩:=h;exact⟨fr,by rw[O];exact T,Y⟩
theorem eJ.lt{w:World}{b:Nat}{arr:Array Value}{elem:TypeId}(h:eJ w b arr elem):b<w.heap.size:=by
 obtain⟨fr,T,Y⟩:=h;exact (ad1.1 T).1
theorem eJ.new{w:World}{b:Nat}{arr:Array Value}{elem:TypeId}(h:w.heap[b]?=some (.cells arr elem (0,0))):eJ w b arr elem:=⟨(0,0),h,.inl rfl⟩
def yV(w:World)(F:Nat->Prop)(v:Option Value)(xs:List D)(o:Option Nat):Prop:=
 match o with
 |none=>xs=[]/\∃a,v=some (.slice a 0 0)
 |some b=>∃(row:Array Value)(AF:TypeId)(off cap:Nat),v=some (.slice (some ⟨b,off,none⟩) xs.length cap)/\0<cap/\xs.length<=cap/\off+cap<=row.size/\eJ w b row AF/\(∀u∈row,cA u=true)/\
  ∀(i:Nat)(d:D),xs[i]?=some d->d.size=1/\∃u,aO w F d u/\∀(j:Nat)(c:Value),u.cells[j]?=some c->row[off+i*1+j]?=some c
theorem yV.mono{w w':World}{F F':Nat->Prop}{v xs o}(h:yV w F v xs o)(A0:∀d u,d∈xs->aO w F d u->aO w' F' d u)
 (A1:∀b,o=some b->w'.heap[b]?=w.heap[b]?):yV w' F' v xs o:=by
 cases o with
 |none=>exact h
 |some b=>
  obtain⟨row,AF,off,cap,T,Y,A3,A7,AK,Af,Ag⟩:=h;exact⟨row,AF,off,cap,T,Y,A3,A7,AK.same (A1 b rfl),Af,λj d AG=>let ⟨g1,u,g2,g3⟩:=Ag j d AG;⟨g1,u,A0 d u (abU AG) g2,g3⟩⟩
def kr(φ:bN)(w:World)(F:Nat->Prop)(L:Loc)(ai:List (List D))(y:Option AV):Prop:=
 (L.sz=1/\ai.length+y.toList.length<=L.cap/\L.cZ.length=ai.length)/\
  (∀(i j:Nat)(b:Nat),L.cZ[i]?=some (some b)->L.cZ[j]?=some (some b)->i=j)/\(∀b,some b∈L.cZ->0<L.cap/\b≠L.dw)/\
  (0<L.cap->∃(arr:Array Value)(elem:TypeId),eJ w L.dw arr elem/\arr.size=L.base+L.cap/\(∀v∈arr,cA v=true)/\
   (∀(i:Nat)(xs:List D)(o:Option Nat),ai[i]?=some xs->L.cZ[i]?=some o->yV w F arr[L.base+i]? xs o)/\
   ∀x,y=some x->∃v,arr[L.base+ai.length]?=some v/\aB φ w F x v)
theorem kr.mono{φ φ':bN}{w w':World}{F F':Nat->Prop}{L ai y}(f:AV->AV)(h:kr φ w F L ai y)
 (A0:∀xs∈ai,∀d∈xs,∀u,aO w F d u->aO w' F' d u) (AL:∀x,y=some x->∀v,aB φ w F x v->aB φ' w' F' (f x) v)
 (A1:∀b,((0<L.cap/\L.dw=b)\/some b∈L.cZ)->w'.heap[b]?=w.heap[b]?):kr φ' w' F' L ai (y.map f):=by
 obtain⟨Z,T,Y,h⟩:=h;refine⟨by cases y<;>exact Z,T,Y,λJ=>?_⟩;obtain⟨arr,elem,g1,g2,g3,g4,g5⟩:=h J;refine⟨arr,elem,g1.same (A1 _ (.inl ⟨J,rfl⟩)),g2,g3,λi xs o hi E=>(g4 i xs o hi E).mono (λd u hm=>A0 xs (abU hi) d hm u) (λb e=>A1 b (.inr (by subst e;exact abU E))),λx H=>?_⟩;cases y with
 |none=>cases H
 |some z=>
  cases H;obtain⟨v,q1,q2⟩:=g5 z rfl;exact⟨v,q1,AL z rfl v q2⟩
theorem kr.ai3{φ φ':bN}{w w':World}{F F':Nat->Prop}{L ai y}(h:kr φ w F L ai y)
 (A0:∀xs∈ai,∀d∈xs,∀u,aO w F d u->aO w' F' d u) (AL:∀x,y=some x->∀v,aB φ w F x v->aB φ' w' F' x v)
 (A1:∀b,((0<L.cap/\L.dw=b)\/some b∈L.cZ)->w'.heap[b]?=w.heap[b]?):kr φ' w' F' L ai y:=by
 have:=h.mono id A0 AL A1;cases y<;>exact this
theorem kr.ak{φ w F L ai y}(h:kr φ w F L ai y)(v:Nat):kr φ w F {L with ak:=v} ai y:=h
def dX(φ:bN)(w:World)(F:Nat->Prop)(L:Loc):ay->Prop
 | .dead=>True
 | .box cs=>(L.sz=1/\L.base=0/\L.cap=cs.length)/\∃(arr:Array Value)(elem:TypeId),eJ w L.dw arr elem/\arr.size=cs.length/\(∀v∈arr,cA v=true)/\
  ∀(i:Nat)(c:AV)(v:Value),cs[i]?=some c->arr[i]?=some v->aB φ w F c v
 | .vec sz ai=>L.sz=sz/\ai.length<=L.cap/\(∀d∈ai,d.size=L.sz)/\(0<L.cap->∃(arr:Array Value)(elem:TypeId),eJ w L.dw arr elem/\
  arr.size=L.base+L.cap*L.sz/\(∀v∈arr,cA v=true)/\
  ∀(i:Nat)(d:D),ai[i]?=some d->∃v,aO w F d v/\∀(j:Nat)(c:Value),v.cells[j]?=some c->arr[L.base+i*L.sz+j]?=some c)
 | .vv ai y=>kr φ w F L ai y
def adC(φ:bN)(w:World)(F:Nat->Prop)(e:cB):Prop:=∃L,φ e.key=some L/\L.ak=e.ak/\dX φ w F L e.cont
theorem dX.lt{φ w F L c b}(h:dX φ w F L c)(E:c.da L b):b<w.heap.size:=by
 cases c with
 |dead=>exact E.elim
 |box cs=>obtain⟨_,arr,elem,h,_⟩:=h;have:L.dw=b:=E;subst this;exact h.lt
 |vec sz ai=>obtain⟨J,rfl⟩:=E;obtain⟨_,_,_,h⟩:=h;obtain⟨arr,elem,h,_⟩:=h J;exact h.lt
 |vv ai y=>
  obtain⟨⟨_,_,As⟩,_,A3,h⟩:=h;rcases E with ⟨J,rfl⟩|E
  ·obtain⟨arr,elem,h,_⟩:=h J;exact h.lt
  ·obtain⟨i,hi⟩:=anj E;obtain⟨arr,elem,_,_,_,AK,_⟩:=h (A3 b E).1;have At:=(abM.1 hi).1;obtain⟨row,AF,_,_,_,_,_,_,g,_⟩:=AK i (ai[i]'(by omega)) (some b) (by simp[show i<ai.length by omega]) hi
   exact g.lt
theorem dX.mono{φ φ':bN}{w w':World}{F F':Nat->Prop}{L c}(h:dX φ w F L c)(AS:φ.le φ')
 (N:∀b,b<w.heap.size->¬F b->w'.heap[b]?=w.heap[b]?) (O:w.heap.size<=w'.heap.size) (A8:∀b,b<w.heap.size->F' b->F b)
 (A1:∀b,c.da L b->w'.heap[b]?=w.heap[b]?):dX φ' w' F' L c:=by
 cases c with
 |dead=>trivial
 |box cs=>
  obtain⟨Z,arr,elem,T,Y,A3,A7⟩:=h;exact⟨Z,arr,elem,T.same (A1 _ rfl),Y,A3,λi c v J A9=>(A7 i c v J A9).mono AS N O A8⟩
 |vec sz ai=>
  obtain⟨Ah,Z,Ai,h⟩:=h;refine⟨Ah,Z,Ai,λJ=>?_⟩;obtain⟨arr,elem,T,Y,A3,A7⟩:=h J;exact⟨arr,elem,T.same (A1 _ ⟨J,rfl⟩),Y,A3,λi d A0=>let ⟨v,A9,AG⟩:=A7 i d A0;⟨v,A9.mono N O A8,AG⟩⟩
 |vv ai y=>exact kr.ai3 h (λ_ _ _ _ u hu=>hu.mono N O A8) (λx _ v H=>H.mono AS N O A8) A1
structure bh(φ:bN)(G:Fr)(m:Mem)(w:World):Prop where
 nodup:(m.map (·.key)).Nodup
 pE:∀k L,φ k=some L->k∈m.map (·.key)
 fY:∀e∈m,adC φ w (Fo G φ m) e
 apart:∀e∈m,∀e'∈m,∀L L',φ e.key=some L->φ e'.key=some L'->(∃b,e.cont.da L b/\e'.cont.da L' b)->e.key=e'.key
 ku:∀b,iw φ m b->¬G b
 bound:∀b,G b->b<w.heap.size
theorem bh.De{φ G m w}(h:bh φ G m w){b}(A:iw φ m b):b<w.heap.size:=by
 obtain⟨e,he,L,A5,E⟩:=A;obtain⟨L',AT,_,J⟩:=h.fY e he;rw[A5]at AT;cases AT;exact J.lt E
structure aS(φ:bN)(m:Mem)(w:World)(φ':bN)(m':Mem)(w':World):Prop where
 le:φ.le φ'
 yW:∀b,b<w.heap.size->¬iw φ m b->w'.heap[b]?=w.heap[b]?
 own:∀b,b<w.heap.size->iw φ' m' b->iw φ m b
 size:w.heap.size<=w'.heap.size
 os:w'.os=w.os
 tape:w'.tape=w.tape
 output:w'.output=w.output
theorem aS.refl(φ m w):aS φ m w φ m w:=⟨bN.le_refl _,λ_ _ _=>rfl,λ_ _ h=>h,abO _,rfl,rfl,rfl⟩
theorem aS.trans{φ m w AU AW AX AY AZ A_}(h:aS φ m w AU AW AX)(k:aS AU AW AX AY AZ A_):aS φ m w AY AZ A_ where
 le:=bN.le_trans h.le k.le
 yW:=λb A I=>by
  rw[k.yW b (ahA A h.size) (λT=>I (h.own b A T)),h.yW b A I]
 own:=λb A I=>h.own b A (k.own b (ahA A h.size) I)
 size:=ahI h.size k.size
 os:=k.os.trans h.os
 tape:=k.tape.trans h.tape
 output:=k.output.trans h.output
theorem aS.av{φ m w φ' m' w' G}(h:aS φ m w φ' m' w'){x v}(H:aB φ w (Fo G φ m) x v):aB φ' w' (Fo G φ' m') x v:=
 H.mono h.le (λb A I=>h.yW b A (λE=>I (.inr E))) h.size (λb A=>Or.imp id (h.own b A))
theorem bh.dg{φ G m w w'}(h:bh φ G m w){e e':cB}(he:e∈m){L L':Loc}(A5:φ e.key=some L)(A2:e'.key=e.key)
 (Aj:L.ak<=L'.ak) (Ak:L'.ak=L.ak->L'={L with cZ:=L'.cZ})
 (A9:L'.ak=e'.ak)
 (hold:∀b,b<w.heap.size->¬e.cont.da L b->w'.heap[b]?=w.heap[b]?) (O:w.heap.size<=w'.heap.size)
 (AM:∀b,e'.cont.da L' b->e.cont.da L b\/w.heap.size<=b)
 (AN:w'.os=w.os) (Al:w'.tape=w.tape) (An:w'.output=w.output)
 (J:∀φ':bN,φ'=(λk=>if k=e.key then some L' else φ k)->φ.le φ'->dX φ' w' (Fo G φ' (Mem.set m e')) L' e'.cont):
 ∃φ',bh φ' G (Mem.set m e') w'/\aS φ m w φ' (Mem.set m e') w'/\φ' e.key=some L'/\∀k,k≠e.key->φ' k=φ k:=by
 have hle:φ.le (λk=>if k=e.key then some L' else φ k):=by
  intro k AO Z;by_cases N:k=e.key
  ·subst N;rw[A5]at Z;cases Z;exact⟨L',by simp,Aj,Ak⟩
  ·exact⟨AO,by simp[N,Z],abO _,λ_=>rfl⟩
 have Au:e'.key∈m.map (·.key):=by rw[A2];exact ab7 he
 have AP:∀x∈m,x.key≠e.key->∀q,φ x.key=some q->∀b,x.cont.da q b->e.cont.da L b->False:=
  λx H V q U b A' A4=>V (h.apart x H e he q L U A5 ⟨b,A',A4⟩)
 have AQ:∀b,b<w.heap.size->iw (λk=>if k=e.key then some L' else φ k) (Mem.set m e') b->iw φ m b:=by
  rintro b A ⟨x,H,q,U,A'⟩;rcases (Mem.mem_set h.nodup).1 H with ⟨rfl,_⟩|⟨A6,V⟩
  ·simp[A2]at U;subst U;rcases AM b A' with A4|Aa
   ·exact⟨e,he,L,A5,A4⟩
   ·omega
  ·rw[A2]at V;simp[V]at U;exact⟨x,A6,q,U,A'⟩
 have Ab:∀b,b<w.heap.size->¬iw φ m b->w'.heap[b]?=w.heap[b]?:=λb A I=>
  hold b A λE=>I ⟨e,he,L,A5,E⟩
 refine⟨_,⟨by rw[Mem.gx];exact h.nodup,?_,?_,?_,?_,?_⟩,⟨hle,Ab,AQ,O,AN,Al,An⟩,by simp,λk N=>by simp[N]⟩
 ·intro k AO Z;rw[Mem.gx];by_cases N:k=e.key
  ·subst N;exact ab7 he
  ·simp[N]at Z;exact h.pE k AO Z
 ·intro x H;rcases (Mem.mem_set h.nodup).1 H with ⟨rfl,_⟩|⟨A6,V⟩
  ·exact⟨L',by simp[A2],A9,J _ rfl hle⟩
  ·rw[A2]at V;obtain⟨q,U,Ao,AH⟩:=h.fY x A6;refine⟨q,by simp[V,U],Ao,AH.mono hle (λb A I=>Ab b A (λE=>I (.inr E))) O (λb A=>Or.imp id (AQ b A)) (λb A'=>?_)⟩;exact hold _ (AH.lt A') (λA4=>AP x A6 V q U b A' A4)
 ·rintro x H y M q Ac U AA ⟨b,A',AI⟩;rcases (Mem.mem_set h.nodup).1 H with ⟨rfl,_⟩|⟨A6,AC⟩<;>rcases (Mem.mem_set h.nodup).1 M with ⟨rfl,_⟩|⟨AR,AD⟩
  ·rfl
  ·rw[A2]at AD;simp[A2]at U;subst U;simp[AD]at AA;obtain⟨Av,Ad,_,Ap⟩:=h.fY y AR;rw[AA]at Ad;cases Ad;rcases AM b A' with A4|Aa
   ·exact (AP y AR AD Ac AA b AI A4).elim
   ·have:=Ap.lt AI;omega
  ·rw[A2]at AC;simp[A2]at AA;subst AA;simp[AC]at U;obtain⟨Aw,Ae,_,AH⟩:=h.fY x A6;rw[U]at Ae;cases Ae;rcases AM b AI with A4|Aa
   ·exact (AP x A6 AC q U b A' A4).elim
   ·have:=AH.lt A';omega
  ·rw[A2]at AC AD;simp[AC]at U;simp[AD]at AA;exact h.apart x A6 y AR q Ac U AA ⟨b,A',AI⟩
 ·intro b A AB;exact h.ku b (AQ b (h.bound b AB) A) AB
 ·intro b AB;exact ahA (h.bound b AB) O
theorem bh.grow{φ G m w w'}(h:bh φ G m w)(hold:∀b,b<w.heap.size->w'.heap[b]?=w.heap[b]?)(O:w.heap.size<=w'.heap.size):bh φ G m w' where
 nodup:=h.nodup
 pE:=h.pE
 fY:=λe he=>by
  obtain⟨L,A5,A9,J⟩:=h.fY e he;exact⟨L,A5,A9,J.mono (bN.le_refl _) (λb A _=>hold b A) O (λ_ _ h=>h) (λb E=>hold _ (J.lt E))⟩
 apart:=h.apart
 ku:=h.ku
 bound:=λb AB=>ahA (h.bound b AB) O
theorem aS.grow{φ m w w'}(hold:∀b,b<w.heap.size->w'.heap[b]?=w.heap[b]?)(O:w.heap.size<=w'.heap.size)(AN:w'.os=w.os)(AE:w'.tape=w.tape)(E:w'.output=w.output):aS φ m w φ m w':=
 ⟨bN.le_refl _,λb A _=>hold b A,λ_ _ h=>h,O,AN,AE,E⟩
abbrev Env:=List (Nat×Bool×AV)
def Env.lk:Env->Nat->Option (Bool×AV)
 |[],_=>none
 |(t,x)::r,u=>if t=u then some x else Env.lk r u
structure St where
 n:Nat
 gl:List (Nat×D)
 env:Env
 mem:Mem
def eG(w:World)(F:Nat->Prop)(gl:List (Nat×D)):Prop:=
 ∀x∈gl,(x.1<w.heap.size/\∀cs,x.2=.agg cs->∃cur e Aq,w.heap[x.1]?=some (.cells cur e Aq)/\cur.size=cs.length)/\¬F x.1/\∃AJ,aO w F x.2 AJ/\∀(i:Nat)(c:Value),AJ.cells[i]?=some c->w.cell? ⟨x.1,i,none⟩=some c
theorem eG.mono{w w':World}{F F':Nat->Prop}{gl}(h:eG w F gl)(N:∀b,b<w.heap.size->¬F b->w'.heap[b]?=w.heap[b]?)(O:w.heap.size<=w'.heap.size)
 (A8:∀b,b<w.heap.size->F' b->F b):eG w' F' gl:=λx H=>by
 obtain⟨⟨T,Z⟩,Y,AJ,A3,A7⟩:=h x H;exact⟨⟨by omega,by rw[N _ T Y];exact Z⟩,λAr=>Y (A8 _ T Ar),AJ,A3.mono N O A8,λi c J=>by rw[j0 (N _ T Y)];exact A7 i c J⟩
theorem aS.kz{φ m w φ' m' w' G gl}(h:aS φ m w φ' m' w')(H:eG w (Fo G φ m) gl):eG w' (Fo G φ' m') gl:=
 H.mono (λb A I=>h.yW b A (λE=>I (.inr E))) h.size (λb A=>Or.imp id (h.own b A))
structure Rel(φ:bN)(G:Fr)(S:St)(a:Act)(w:World):Prop where
 size:a.tmps.size=S.n
 defers:a.defers=G.dv
 env:∀t x,Env.lk S.env t=some (true,x)->aB φ w (Fo G φ S.mem) x (a.tmps.getD t undef)
 mem:bh φ G S.mem w
 kz:eG w (Fo G φ S.mem) S.gl
def St.put(S:St)(d:Option Nat)(g:Bool)(x:AV):St:=
 match d with
 |some d=>{S with env:=(d,g,x)::S.env}
 |none=>S
theorem Rel.put{φ G S a w}(h:Rel φ G S a w)(d:Option Nat)(A0:∀t,d=some t->t<S.n)(g:Bool)(x:AV)(v:Value)
 (H:g=true->aB φ w (Fo G φ S.mem) x v):Rel φ G (S.put d g x) (a.put d v) w:=by
 cases d with
 |none=>exact h
 |some d=>
  have A0:=A0 d rfl;refine⟨by simp[Act.put,St.put,h.size],by simp[Act.put,h.defers],?_,h.mem,h.kz⟩;intro t y M;simp only[St.put,Env.lk]at M;by_cases AE:d=t
  ·subst AE;simp only[aes,abX,adL]at M;obtain⟨rfl,rfl⟩:=M;have:d<a.tmps.size:=by rw[h.size];exact A0
   have e:(a.put (some d) v).tmps.getD d undef=v:=by simp[Act.put,this]
   rw[e];exact H rfl
  ·simp only[AE,ad0]at M;have e:(a.put (some d) v).tmps.getD t undef=a.tmps.getD t undef:=by simp[Act.put,AE]
   rw[e];exact h.env t y M
theorem Rel.yX{φ G S a w φ' m' w'}(h:Rel φ G S a w)(hm:bh φ' G m' w')(N:aS φ S.mem w φ' m' w'):Rel φ' G {S with mem:=m'} a w':=
 ⟨h.size,h.defers,λt x H=>N.av (h.env t x H),hm,N.kz h.kz⟩
theorem oh{v:Value}(h:cA v=true):v.oneCell'=true:=by cases v<;>simp_all [cA,Value.oneCell']
inductive TK where
 |int (k:IntKind)
 |bool
 |str
 |slice (e:TypeId)
 |arr (n:Nat) (e:TypeId)
 |struct
 |iface
 |ptr (e:TypeId)
 |func
 |other
 deriving DecidableEq
def tk(P:Program)(t:TypeId):TK:=
 match P.underlying t with
 |some (.int k)=>.int k
 |some .bool=>.bool
 |some .string=>.str
 |some (.slice e)=>.slice e
 |some (.array n e)=>.arr n e
 |some (.struct _)=>.struct
 |some (.interface _)=>.iface
 |some (.pointer e)=>.ptr e
 |some (.func _ _ _)=>.func
 |_=>.other
def fm(P:Program)(t:TypeId):Option Nat:=(P.info? t).map (·.size)
def xc(P:Program)(s:TypeId)(f:Nat):Option Nat:=
 match P.underlying s with
 |some (.struct Af)=>match Af[f]? with
  |some fl=>match P.info? fl.type with
   |some i=>if i.size=0 then none else some fl.offset
   |none=>none
  |none=>none
 |_=>none
def TK.agg:TK->Bool
 | .arr _ _=>true
 | .struct=>true
 |_=>false
theorem qQ{P:Program}{t:TypeId}{w:World}(h:tk P t≠.other):(isAgg t).run P w=.ok (tk P t).agg w:=by
 unfold isAgg;cases hu:P.underlying t with
 |none=>simp[tk,hu]at h
 |some d=>
  rw[Sem.run_bind,run_underlying hu];cases d<;>simp_all [tk,TK.agg]
theorem run_sizeOf{P:Program}{t:TypeId}{n:Nat}{w:World}(h:fm P t=some n):(sizeOf t).run P w=.ok n w:=by
 unfold fm at h;cases hi:P.info? t with
 |none=>simp[hi]at h
 |some i=>simp[hi]at h;simp[sizeOf,typeInfo,hi,h]
theorem fq(b o j:Nat):(⟨b,o,none⟩:Addr).add j=⟨b,o+j,none⟩:=by unfold Addr.add;split<;>simp_all
theorem uq{P:Program}{t:TypeId}{w:World}{a:Addr}{v:Value}(AE:(tk P t).agg=false)(AF:tk P t≠.other)(H:w.cell? a=some v):
 (Instr.loadAt t (.pointer (some a))).run P w=.ok v w:=by
 simp[Instr.loadAt,Instr.sureAddr,loadVar,Sem.run_bind,qQ AF,AE,load,Sem.run,H]
theorem ur{P:Program}{t:TypeId}{w:World}{b o:Nat}{vs:List Value}(AE:(tk P t).agg=true)(AT:fm P t=some vs.length)
 (H:∀j v,vs[j]?=some v->w.cell? ⟨b,o+j,none⟩=some v):
 (Instr.loadAt t (.pointer (some ⟨b,o,none⟩))).run P w=.ok (.agg vs.toArray) w:=by
 have AF:tk P t≠.other:=by intro h;rw[h]at AE;cases AE
 have O:=run_loadCells_list (P:=P) w ⟨b,o,none⟩ vs (λj v h=>by rw[fq];exact H j v h);simp[Instr.loadAt,Instr.sureAddr,loadVar,Sem.run_bind,qQ AF,AE,run_sizeOf AT,O]
theorem jI{P:Program}(g o:Nat)(t:TypeId)(A2:Nat×Nat):∀(vs:List Value)(i:Nat)(cur:Array Value)(w:World),w.heap[g]?=some (.cells cur t A2)->(A2=(0,0)\/cur.size<=A2.1)->o+i+vs.length<=cur.size->(∀v∈vs,v.oneCell'=true)->
 (storeCells ⟨g,o,none⟩ vs i).run P w=.ok () (w.setRow g (cur.toList.take (o+i)++vs++cur.toList.drop (o+i+vs.length)).toArray)
 |[],i,cur,w,T,_,_,_=>by
  simp only[storeCells,aeP,aeI,agR,amz,ank];rw[setRow_self w g cur t A2 T];rfl
 |v::rest,i,cur,w,T,AN,O,E=>by
  have hi:o+i<cur.size:=by simp at O;omega
  have Ag:(⟨g,o,none⟩:Addr).add i=⟨g,o+i,none⟩:=by unfold Addr.add;split<;>simp_all
  have Ah:w.cell? ⟨g,o+i,none⟩=some cur[o+i]:=by simp[World.cell?,T,hi]
  have Ai:w.frozen? ⟨g,o+i,none⟩=false:=by
   obtain⟨lo,AB⟩:=A2;simp only[World.frozen?,T,Bool.and_eq_false_iff,aeB];rcases AN with h|h
   ·cases h;omega
   ·simp only at h;omega
  have Aj:(store ((⟨g,o,none⟩:Addr).add i) v).run P w=.ok () (w.setRow g (cur.setIfInBounds (o+i) v)):=by
   rw[Ag,run_store P w _ v _ (E v (by simp)),Ah];simp[Ai,setCell_eq_setRow w g (o+i) cur t A2 v T]
  have ih:=jI (P:=P) g o t A2 rest (i+1) (cur.setIfInBounds (o+i) v) (w.setRow g (cur.setIfInBounds (o+i) v)) (setRow_heap w g cur _ t _ T) (by simpa using AN) (by simp at O⊢;omega) (λx M=>E x (by simp[M]));simp only[storeCells,Sem.run_bind,Aj,Result.andThen_ok,ih,setRow_setRow];congr 3;have e:=list_seg_step cur.toList (o+i) v rest (by simp at O⊢;omega);simpa [Array.toList_setIfInBounds,adN]using e
theorem K2{P:Program}{t:TypeId}{w:World}{b o:Nat}{arr:Array Value}{elem:TypeId}{v:Value}(AT:fm P t=some v.cells.size)
 (T:eJ w b arr elem) (O:o+v.cells.size<=arr.size) (E:∀x∈v.cells,cA x=true):
 (Instr.storeAt t (.pointer (some ⟨b,o,none⟩)) v).run P w=.ok () (w.setRow b (arr.toList.take o++v.cells.toList++arr.toList.drop (o+v.cells.size)).toArray):=by
 obtain⟨A2,T,AN⟩:=T;have h:=jI (P:=P) b o elem A2 v.cells.toList 0 arr w T AN (by simpa using O) (λx M=>oh (E x (by simpa using M)));simp only[agR,ace]at h;simp[Instr.storeAt,Instr.sureAddr,storeVar,Sem.run_bind,run_sizeOf AT,h]
def D.cells:D->List D
 | .agg cs=>cs
 |x=>[x]
def D.at(xs:List D)(i:Nat):D:=xs[i]?.getD (.bool false)
def D.cell(x:D)(j:Nat):D:=x.cells[j]?.getD (.bool false)
def toD1:AV->Option D
 | .d x=>some x
 | .lit (.slice none 0 0)=>some (.list [])
 | .nn=>some (.list [])
 |_=>none
def toDs:List AV->Option (List D)
 |[]=>some []
 |x::r=>match x,toDs r with
  | .d y,some AG=>some (y::AG)
  |_,_=>none
def toDsN:List AV->Option (List D)
 |[]=>some []
 |x::r=>match toD1 x,toDsN r with
  |some y,some AG=>some (y::AG)
  |_,_=>none
def AR(cs:List AV):AV:=match toDs cs with|some U=>.d (.agg U)|none=>.agg cs
def AV.norm:AV->AV
 | .agg cs=>match toDsN cs with|some U=>.d (.agg U)|none=>.agg cs
 | .lit (.slice none 0 0)=>.d (.list [])
 | .nn=>.d (.list [])
 |x=>x
def AV.cells:AV->List AV
 | .agg cs=>cs
 | .d (.agg U)=>U.map .d
 |x=>[x]
theorem D.fR(x:D):x.cells.length=x.size:=by cases x<;>rfl
theorem PD{w:World}{F:Nat->Prop}{x:D}{v:Value}(q:x.flat=true)(h:aO w F x v)(M:x.cells=[x])(J:v.cells=#[v]):
 v.cells.toList.length=x.cells.length/\(∀u∈v.cells,cA u=true)/\∀(i:Nat)(c:D)(u:Value),x.cells[i]?=some c->v.cells[i]?=some u->aO w F c u/\c.flat=true:=by
 rw[M,J];refine⟨rfl,λu hu=>by simp at hu;subst hu;exact h.one q,λi c u E A=>?_⟩;cases i with
 |zero=>simp at E A;subst E;subst A;exact⟨h,q⟩
 |succ i=>simp at E
theorem aO.cells{w F x v}(h:aO w F x v):v.cells.toList.length=x.cells.length/\(∀u∈v.cells,cA u=true)/\∀(i:Nat)(c:D)(u:Value),x.cells[i]?=some c->v.cells[i]?=some u->aO w F c u/\c.flat=true:=by
 cases AC:x with
 |agg cs=>
  subst AC;cases h with
  |agg cs a O q H=>
   refine⟨by simp[D.cells,Value.cells,O],?_,λi c u E A=>⟨H i c u E A,q c (abU E)⟩⟩;intro u hu;have hu:u∈a:=hu;obtain⟨i,hi,rfl⟩:=Array.mem_iff_getElem.1 hu;have AB:i<cs.length:=by rw[O];exact hi
   exact (H i cs[i] a[i] (by simp[AB]) (by simp[hi])).one (q _ (aep AB))
 |_=>subst AC;exact PD rfl h rfl (dW (h.one rfl))
theorem aO.oy{w F}{cs:List D}{vs:List Value}(O:cs.length=vs.length)(E:∀v∈vs,cA v=true)
 (H:∀(i:Nat) c v,cs[i]?=some c->vs[i]?=some v->aO w F c v):aO w F (.agg cs) (.agg vs.toArray):=by
 refine .agg cs vs.toArray (by simpa using O) ?_ (λi d v h AH=>H i d v h (by simpa using AH));intro d AC;obtain⟨i,hi,rfl⟩:=ani.1 AC;have AB:i<vs.length:=by omega
 have A0:=H i cs[i] vs[i] (by simp[hi]) (by simp[AB]);have A:=E vs[i] (aep AB);revert A0 A
 generalize vs[i]=v;generalize cs[i]=c;intro A0 A;cases A0<;>simp_all [D.flat,cA]
theorem toDs_rel{φ w F}:∀{cs:List AV}{U:List D}{vs:List Value},toDs cs=some U->(∀(i:Nat) c v,cs[i]?=some c->vs[i]?=some v->aB φ w F c v)->
 cs.length=U.length/\∀(i:Nat) d v,U[i]?=some d->vs[i]?=some v->aO w F d v
 |[],U,vs,h,_=>by simp[toDs]at h;subst h;simp
 |x::r,U,vs,h,H=>by
  simp only[toDs]at h;split at h<;>simp at h;rename_i y AG A7;subst h;cases vs with
  |nil=>
   have ih:=toDs_rel (φ:=φ) (w:=w) (F:=F) (vs:=[]) A7 (λi c v _ A=>by simp at A);exact⟨by simp[ih.1],λi d v _ A=>by simp at A⟩
  |cons v0 vs=>
   have ih:=toDs_rel (vs:=vs) A7 (λi c v E A=>H (i+1) c v (by simpa using E) (by simpa using A));refine⟨by simp[ih.1],λi d v E A=>?_⟩;cases i with
   |zero=>
    simp at E A;subst E;subst A;have:=H 0 (.d y) v0 (by simp) (by simp);cases this with|d _ _ h=>exact h
   |succ i=>exact ih.2 i d v (by simpa using E) (by simpa using A)
theorem toD1_rel{φ w F x d v}(h:toD1 x=some d)(M:aB φ w F x v):aO w F d v:=by
 unfold toD1 at h;split at h<;>simp at h
 ·subst h;cases M with|d _ _ h=>exact h
 ·subst h;cases M;exact .nil none 0 λ_=>rfl
 ·subst h;cases M;exact .nil _ _ (by simp)
theorem toDsN_rel{φ w F}:∀{cs:List AV}{U:List D}{vs:List Value},toDsN cs=some U->(∀(i:Nat) c v,cs[i]?=some c->vs[i]?=some v->aB φ w F c v)->
 cs.length=U.length/\∀(i:Nat) d v,U[i]?=some d->vs[i]?=some v->aO w F d v
 |[],U,vs,h,_=>by simp[toDsN]at h;subst h;simp
 |x::r,U,vs,h,H=>by
  simp only[toDsN]at h;split at h<;>simp at h;rename_i y AG M A7;subst h;cases vs with
  |nil=>
   have ih:=toDsN_rel (φ:=φ) (w:=w) (F:=F) (vs:=[]) A7 (λi c v _ A=>by simp at A);exact⟨by simp[ih.1],λi d v _ A=>by simp at A⟩
  |cons v0 vs=>
   have ih:=toDsN_rel (vs:=vs) A7 (λi c v E A=>H (i+1) c v (by simpa using E) (by simpa using A));refine⟨by simp[ih.1],λi d v E A=>?_⟩;cases i with
   |zero=>
    simp at E A;subst E;subst A;exact toD1_rel M (H 0 x v0 (by simp) (by simp))
   |succ i=>exact ih.2 i d v (by simpa using E) (by simpa using A)
theorem yY{φ w F}{cs:List AV}{vs:List Value}(O:cs.length=vs.length)(E:∀v∈vs,cA v=true)
 (H:∀(i:Nat) c v,cs[i]?=some c->vs[i]?=some v->aB φ w F c v):aB φ w F (AR cs) (.agg vs.toArray):=by
 unfold AR;split
 ·rename_i U AU;have:=toDs_rel AU H;exact .d _ _ (.oy (by omega) E this.2)
 ·exact .agg cs vs.toArray (by simpa using O) (λv J=>E v (by simpa using J)) (λi c v h AH=>H i c v h (by simpa using AH))
theorem aB.norm{φ w F x v}(h:aB φ w F x v):aB φ w F x.norm v:=by
 unfold AV.norm;split
 ·rename_i cs;split
  ·rename_i U AU;cases h with
   |agg _ a O E H=>
    have:=toDsN_rel (vs:=a.toList) AU (λi c v h AH=>H i c v h (by simpa using AH));have A:=aO.oy (w:=w) (F:=F) (cs:=U) (vs:=a.toList) (by simp;omega) (λv J=>E v (by simpa using J)) this.2;rw[ank]at A;exact .d _ _ A
  ·exact h
 ·cases h;exact .d _ _ (.nil none 0 λ_=>rfl)
 ·cases h;exact .d _ _ (.nil _ _ (by simp))
 ·exact h
theorem aB.cells{φ w F x v}(h:aB φ w F x v)(E:∀u∈v.cells,cA u=true)(O:v.cells.size=x.cells.length):
 ∀(i:Nat) c u,x.cells[i]?=some c->v.cells[i]?=some u->aB φ w F c u:=by
 cases h with
 |agg cs a O E H=>exact λi c u I hu=>H i c u I hu
 |d x v h=>
  intro i c u I hu;have:=h.cells;cases x with
  |agg cs=>
   simp only[AV.cells,adK,abS]at I;obtain⟨y,A7,rfl⟩:=I;exact .d _ _ (this.2.2 i y u A7 hu).1
  |_=>
   simp only[AV.cells]at I;cases i with
   |zero=>simp at I;subst I;exact .d _ _ (this.2.2 0 _ u rfl hu).1
   |succ i=>simp at I
 |bf v=>
  intro i c u I hu;cases i with
  |zero=>simp[AV.cells]at I;subst I;exact .bf _
  |succ i=>simp[AV.cells]at I
 |ptr k ak off v L V J h A=>
  intro i c u I hu;rw[dW A]at hu;cases i with
  |zero=>simp[AV.cells]at I hu;subst I;subst hu;exact .ptr k ak off v L V J h A
  |succ i=>simp[AV.cells]at I
 |vec k ak off len v L V J h A=>
  intro i c u I hu;rw[dW A]at hu;cases i with
  |zero=>simp[AV.cells]at I hu;subst I;subst hu;exact .vec k ak off len v L V J h A
  |succ i=>simp[AV.cells]at I
 |cN k ak p j v L V J h A=>
  intro i c u I hu;rw[dW A]at hu;cases i with
  |zero=>simp[AV.cells]at I hu;subst I;subst hu;exact .cN k ak p j v L V J h A
  |succ i=>simp[AV.cells]at I
 |dM x j b off A' AO AP M H=>
  intro i c u I hu;cases i with
  |zero=>simp[AV.cells,Value.cells]at I hu;subst I;subst hu;exact .dM x j b off A' AO AP M H
  |succ i=>simp[AV.cells]at I
 |fn f cap a q AW H=>
  intro i c u I hu;cases i with
  |zero=>simp[AV.cells,Value.cells]at I hu;subst I;subst hu;exact .fn f cap a q AW H
  |succ i=>simp[AV.cells]at I
 |r9 f cap a AW H=>
  intro i c u I hu;cases i with
  |zero=>simp[AV.cells,Value.cells]at I hu;subst I;subst hu;exact .r9 f cap a AW H
  |succ i=>simp[AV.cells]at I
 |bY vs a O H=>
  have:=E (.tuple a) (by simp[Value.cells]);simp[cA]at this
 |gw t x v h=>
  intro i c u I hu;cases i with
  |zero=>simp[AV.cells,Value.cells]at I hu;subst I;subst hu;exact .gw t x v h
  |succ i=>simp[AV.cells]at I
 |lit v A=>
  intro i c u I hu;rw[dW A]at hu;cases i with
  |zero=>simp[AV.cells]at I hu;subst I;subst hu;exact .lit _ A
  |succ i=>simp[AV.cells]at I
 |nn a cap=>
  intro i c u I hu;cases i with
  |zero=>simp[AV.cells,Value.cells]at I hu;subst I;subst hu;exact .nn a cap
  |succ i=>simp[AV.cells]at I
 |err t v=>
  intro i c u I hu;cases i with
  |zero=>simp[AV.cells,Value.cells]at I hu;subst I;subst hu;exact .err t v
  |succ i=>simp[AV.cells]at I
def mU:Value->AV
 | .int k n=>.d (.int k n)
 | .bool b=>.d (.bool b)
 | .string s=>.d (.str s.data.toList)
 | .agg _=>.bf
 | .tuple _=>.bf
 |v=>.lit v
theorem BB(φ w F v):aB φ w F (mU v) v:=by
 cases v<;>first|exact .d _ _ (.int _ _)|exact .d _ _ (.bool _)|exact .d _ _ (.str _ _ rfl)|exact .bf _|exact .lit _ rfl
def F3:List (Nat×D)->Nat->Option D
 |[],_=>none
 |(g,d)::r,k=>if g=k then some d else F3 r k
theorem LG:∀{l:List (Nat×D)}{g d},F3 l g=some d->(g,d)∈l
 |[],g,d,h=>by simp[F3]at h
 |(Ao,Ap)::r,g,d,h=>by
  simp only[F3]at h;split at h
  ·rename_i T;subst T;cases h;simp
  ·have:=LG h;simp[this]
def St.aq(S:St):Operand->Bool×AV
 | .tmp t=>(Env.lk S.env t).getD (true,.bf)
 | .const v=>(true,mU v)
 | .global g=>match F3 S.gl g with
  |some d=>(true,.dM d 0)
  |none=>(true,.lit (.pointer (some ⟨g,0,none⟩)))
 | .func f=>(decide (f<r8),.fn f [])
theorem Rel.aq{φ G S a w}(h:Rel φ G S a w)(x:Operand)(M:(S.aq x).1=true):aB φ w (Fo G φ S.mem) (S.aq x).2 (a.eval x):=by
 cases x with
 |tmp t=>
  simp only[St.aq]at M⊢;cases O:Env.lk S.env t with
  |none=>exact .bf _
  |some y=>
   obtain⟨g,x⟩:=y;rw[O]at M;simp only[aer]at M⊢;subst M;exact h.env t x O
 |const v=>exact BB ..
 |global g=>
  simp only[St.aq]at M⊢;split
  ·rename_i d AC;obtain⟨⟨E,_⟩,A,A',A0,Ak⟩:=h.kz _ (LG AC);have e:a.eval (.global g)=.pointer (some ⟨g,0+0,none⟩):=rfl;rw[e];exact .dM d 0 g 0 A' E A A0 (λi c hi=>by simpa using Ak i c hi)
  ·exact .lit _ rfl
 |func f=>exact .fn f [] #[] (by simpa [St.aq]using M) rfl (by simp)
inductive du where
 |no
 |val (c:Bool) (x:AV)
 |dg (c:Bool) (x:AV) (e:cB)
def Dh(P:Program)(o:Oper)(a:Act)(w:World)(v:Value)(w':World):Prop:=
 (execOp a.eval o).run P w=.ok (.value v) w'\/((execOp a.eval o).run P w=.ok .skip w'/\v=undef)
def aG(P:Program)(S:St)(o:Oper):du->Prop
 | .no=>True
 | .val c x=>c=true->∀φ G a w,Rel φ G S a w->∃v w',Dh P o a w v w'/\aB φ w' (Fo G φ S.mem) x v/\
  (∀b,b<w.heap.size->w'.heap[b]?=w.heap[b]?)/\w.heap.size<=w'.heap.size/\w'.os=w.os/\w'.tape=w.tape/\w'.output=w.output
 | .dg c x e=>c=true->∀φ G a w,Rel φ G S a w->∃v w' φ',Dh P o a w v w'/\aB φ' w' (Fo G φ' (Mem.set S.mem e)) x v/\
  bh φ' G (Mem.set S.mem e) w'/\aS φ S.mem w φ' (Mem.set S.mem e) w'/\∀k,k≠e.key->φ' k=φ k
theorem aG.pure{P S o x}{c:Prop}[Decidable c](h:c->∀φ G a w,Rel φ G S a w->∃v,(execOp a.eval o).run P w=.ok (.value v) w/\aB φ w (Fo G φ S.mem) x v):aG P S o (.val (decide c) x):=by
 intro H φ G a w N;obtain⟨v,E,A⟩:=h (ad7 H) φ G a w N;exact⟨v,w,.inl E,A,λ_ _=>rfl,abO _,rfl,rfl,rfl⟩
theorem aG.rR{P S o x e}{c:Prop}[Decidable c](h:c->∀φ G a w,Rel φ G S a w->∃v w' φ',Dh P o a w v w'/\aB φ' w' (Fo G φ' (Mem.set S.mem e)) x v/\
 bh φ' G (Mem.set S.mem e) w'/\aS φ S.mem w φ' (Mem.set S.mem e) w'/\∀k,k≠e.key->φ' k=φ k):aG P S o (.dg (decide c) x e):=λH=>h (ad7 H)
theorem aG.anM{P S o x}{c:Prop}[Decidable c](h:c->∀φ G a w,Rel φ G S a w->∃v w',Dh P o a w v w'/\aB φ w' (Fo G φ S.mem) x v/\
 (∀b,b<w.heap.size->w'.heap[b]?=w.heap[b]?)/\w.heap.size<=w'.heap.size/\w'.os=w.os/\w'.tape=w.tape/\w'.output=w.output):aG P S o (.val (decide c) x):=λH=>h (ad7 H)
theorem aG.qy{P S o x}{c:Bool}(h:c=true->∀φ G a w,Rel φ G S a w->∃v,(execOp a.eval o).run P w=.ok (.value v) w/\aB φ w (Fo G φ S.mem) x v):aG P S o (.val c x):=by
 intro H φ G a w N;obtain⟨v,E,A⟩:=h H φ G a w N;exact⟨v,w,.inl E,A,λ_ _=>rfl,abO _,rfl,rfl,rfl⟩
def kA(P:Program)(S:St)(o:Oper):du->Prop
 | .no=>True
 | .val c x=>c=true->∀φ G a w,Rel φ G S a w->∃v,(execOp a.eval o).run P w=.ok (.value v) w/\aB φ w (Fo G φ S.mem) x v
 | .dg _ _ _=>False
theorem kA.of{P S o x}{c:Prop}[Decidable c](h:c->∀φ G a w,Rel φ G S a w->∃v,(execOp a.eval o).run P w=.ok (.value v) w/\aB φ w (Fo G φ S.mem) x v):kA P S o (.val (decide c) x):=λH=>h (ad7 H)
theorem kA.res{P S o r}(h:kA P S o r):aG P S o r:=by
 cases r with
 |no=>trivial
 |val c x=>
  intro H φ G a w N;obtain⟨v,E,A⟩:=h H φ G a w N;exact⟨v,w,.inl E,A,λ_ _=>rfl,abO _,rfl,rfl,rfl⟩
 |dg c x e=>exact h.elim
def mb(P:Program)(m:Mem)(t:TypeId)(p:AV):du:=
 match p with
 | .ptr k ak off=>match Mem.get m k with
  |some ⟨_,v,.box cs⟩=>match (tk P t).agg with
   |true=>match fm P t with
    |some n=>.val (v=ak/\off+n<=cs.length) (AR ((cs.drop off).take n))
    |none=>.no
   |false=>.val (v=ak/\tk P t≠.other/\off<cs.length) (cs[off]?.getD .bf)
  |_=>.no
 | .cN k ak i j=>match Mem.get m k with
  |some ⟨_,v,.vec sz ai⟩=>match (tk P t).agg with
   |true=>.val (v=ak/\i<ai.length/\fm P t=some sz/\j=0/\(D.at ai i).flat=false) (.d (D.at ai i))
   |false=>.val (v=ak/\tk P t≠.other/\i<ai.length/\j<sz) (.d (D.cell (D.at ai i) j))
  |some ⟨_,v,.vv ai (some y)⟩=>match (tk P t).agg with
   |true=>.no
   |false=>.val (v=ak/\tk P t≠.other/\i=ai.length/\j=0) y
  |_=>.no
 | .dM x j=>match (tk P t).agg with
  |true=>match j with
   |0=>.val (fm P t=some x.size/\x.flat=false) (.d x)
   |j=>match fm P t with
    |some n=>.val (j+n<=x.size) (.d (.agg ((x.cells.drop j).take n)))
    |none=>.no
  |false=>.val (tk P t≠.other/\j<x.size) (.d (x.cell j))
 |_=>.no
theorem bh.get{φ G m w}(h:bh φ G m w){k e}(T:Mem.get m k=some e):e∈m/\e.key=k/\∃L,φ k=some L/\L.ak=e.ak/\dX φ w (Fo G φ m) L e.cont:=by
 obtain⟨hm,A8⟩:=Mem.get_mem T;obtain⟨L,E,A,A0⟩:=h.fY e hm;rw[A8]at E;exact⟨hm,A8,L,E,A,A0⟩
theorem aB.qR{φ w F k ak off v L}(h:aB φ w F (.ptr k ak off) v)(V:φ k=some L)(J:L.ak=ak):v=.pointer (some ⟨L.dw,off,none⟩):=by
 cases h with|ptr _ _ _ _ L' AI _ h _=>rw[V]at AI;cases AI;exact h J.symm
theorem aB.kB{φ w F k ak i j v L}(h:aB φ w F (.cN k ak i j) v)(V:φ k=some L)(J:L.ak=ak):v=.pointer (some ⟨L.dw,L.base+i*L.sz+j,none⟩):=by
 cases h with|cN _ _ _ _ _ L' AI _ h _=>rw[V]at AI;cases AI;exact h J.symm
theorem F4{w:World}{b:Nat}{arr:Array Value}{e:TypeId}{fr}(h:w.heap[b]?=some (.cells arr e fr))(o:Nat):w.cell? ⟨b,o,none⟩=arr[o]?:=by
 simp[World.cell?,h]
theorem gz{w:World}{b:Nat}{arr:Array Value}{e:TypeId}(h:eJ w b arr e)(o:Nat):w.cell? ⟨b,o,none⟩=arr[o]?:=by
 obtain⟨fr,h,_⟩:=h;exact F4 h o
theorem jG{xs:List D}{i:Nat}(h:i<xs.length):xs[i]?=some (D.at xs i):=by simp[D.at,h]
theorem u7{w F x v}(h:aO w F x v)(q:x.flat=false):∃arr,v=.agg arr:=by
 cases h<;>simp_all [D.flat]
theorem LH(P:Program)(S:St)(o:Oper)(t:TypeId)(x:Operand)(AF:o.op=.load t x)(M:(S.aq x).1=true):kA P S o (mb P S.mem t (S.aq x).2):=by
 have A5:∀(a:Act)(w:World)(v:Value),(Instr.loadAt t (a.eval x)).run P w=.ok v w->(execOp a.eval o).run P w=.ok (.value v) w:=by
  intro a w v h;simp[execOp,AF,h]
 unfold mb;split
 ·rename_i k ak off A1;split
  ·rename_i key v cs T;split
   ·rename_i Y;split
    ·rename_i n AX;refine kA.of ?_;rintro ⟨rfl,hle⟩ φ G a w N;have J:=N.aq x M;rw[A1]at J;obtain⟨hm,A8,L,V,A3,_,arr,elem,hh,AQ,E,A4⟩:=N.mem.get T;have e:=J.qR V A3;have AJ:((arr.toList.drop off).take n).length=n:=by simp;omega
     refine⟨.agg ((arr.toList.drop off).take n).toArray,A5 a w _ ?_,?_⟩
     ·rw[e];refine ur Y (by rw[AJ];exact AX) (λj v Z=>?_);rw[gz hh];rw[abZ]at Z;split at Z
      ·simpa using Z
      ·cases Z
     ·refine yY (by rw[AJ];simp;omega) (λv J=>E v ?_) (λi c v H J=>?_)
      ·have:=adV J;simpa using adM this
      ·rw[abZ]at H J;split at H
       ·rename_i hi;simp only[hi,aes]at J;exact A4 (off+i) c v (by simpa using H) (by simpa using J)
       ·cases H
    ·trivial
   ·rename_i Y;refine kA.of ?_;rintro ⟨rfl,A9,AA⟩ φ G a w N;have J:=N.aq x M;rw[A1]at J;obtain⟨hm,A8,L,V,A3,_,arr,elem,hh,AQ,E,A4⟩:=N.mem.get T;have e:=J.qR V A3;have Ae:off<arr.size:=by omega
    refine⟨arr[off],A5 a w _ ?_,A4 off _ _ ?_ (by simp[Ae])⟩
    ·rw[e];exact uq Y A9 (by rw[gz hh];simp[Ae])
    ·simp[AA]
  ·trivial
 ·rename_i k ak i j A1;split
  ·rename_i key v sz ai T;split
   ·rename_i Y;refine kA.of ?_;rintro ⟨rfl,AA,AY,rfl,q⟩ φ G a w N;have J:=N.aq x M;rw[A1]at J;obtain⟨hm,A8,L,V,A3,AZ,A_,Aa,AK⟩:=N.mem.get T;have e:=J.kB V A3;obtain⟨arr,elem,hh,AQ,E,A4⟩:=AK (by omega);obtain⟨u,hu,Ab⟩:=A4 i _ (jG AA);obtain⟨AD,rfl⟩:=u7 hu q;refine⟨.agg AD,A5 a w _ ?_,.d _ _ hu⟩;rw[e];have AS:AD.toList.length=sz:=by
     have A0:=hu.size;rw[Aa _ (abU (jG AA)),AZ]at A0;simpa [Value.cells]using A0
    have:=ur (P:=P) (t:=t) (w:=w) (b:=L.dw) (o:=L.base+i*L.sz+0) (vs:=AD.toList) Y (by rw[AS];exact AY) (λj v Z=>by
     rw[gz hh];exact Ab j v (by simpa [Value.cells]using Z))
    simpa using this
   ·rename_i Y;refine kA.of ?_;rintro ⟨rfl,A9,AA,Z⟩ φ G a w N;have J:=N.aq x M;rw[A1]at J;obtain⟨hm,A8,L,V,A3,AZ,A_,Aa,AK⟩:=N.mem.get T;have e:=J.kB V A3;obtain⟨arr,elem,hh,AQ,E,A4⟩:=AK (by omega);obtain⟨u,hu,Ab⟩:=A4 i _ (jG AA);have AS:(D.at ai i).size=sz:=by rw[Aa _ (abU (jG AA)),AZ]
    have AL:j<u.cells.size:=by rw[hu.size,AS];exact Z
    have Ac:j<(D.at ai i).cells.length:=by rw[D.fR,AS];exact Z
    refine⟨u.cells[j],A5 a w _ ?_,.d _ _ (hu.cells.2.2 j _ _ (by simp[D.cell,Ac]) (by simp[AL])).1⟩;rw[e];exact uq Y A9 (by rw[gz hh];exact Ab j _ (by simp[AL]))
  ·rename_i key v ai y T;split
   ·trivial
   ·rename_i Y;refine kA.of ?_;rintro ⟨rfl,A9,rfl,rfl⟩ φ G a w N;have J:=N.aq x M;rw[A1]at J;obtain⟨hm,A8,L,V,A3,⟨Al,A_,_⟩,_,_,AK⟩:=N.mem.get T;have e:=J.kB V A3;simp only[Option.toList_some,aeu]at A_;obtain⟨arr,elem,hh,AQ,E,_,A4⟩:=AK (by omega);obtain⟨u,hu,An⟩:=A4 y rfl;refine⟨u,A5 a w _ ?_,An⟩;rw[e];exact uq Y A9 (by rw[gz hh,Al,amm,agR];exact hu)
  ·trivial
 ·rename_i d j A1;split
  ·rename_i Y;split
   ·refine kA.of ?_;rintro ⟨AY,q⟩ φ G a w N;have J:=N.aq x M;rw[A1]at J;generalize AM:a.eval x=av at J;cases J with
    |dM _ _ b off A' AO AP A6 H=>
     obtain⟨AD,rfl⟩:=u7 A6 q;refine⟨.agg AD,A5 a w _ ?_,.d _ _ A6⟩;rw[AM];exact ur (vs:=AD.toList) Y (by rw[AY];have:=A6.size;simp[Value.cells]at this;simp[this]) (λj v Z=>H j v (by simpa [Value.cells]using Z))
   ·split
    ·rename_i n AX;refine kA.of ?_;intro hle φ G a w N;have J:=N.aq x M;rw[A1]at J;generalize AM:a.eval x=av at J;cases J with
     |dM _ _ b off A' AO AP A6 H=>
      have Ad:=A6.cells;have O:A'.cells.toList.length=d.size:=by rw[Ad.1,D.fR]
      have AJ:((A'.cells.toList.drop j).take n).length=n:=by simp at O⊢;omega
      refine⟨.agg ((A'.cells.toList.drop j).take n).toArray,A5 a w _ ?_,.d _ _ (.oy ?_ ?_ ?_)⟩
      ·rw[AM];refine ur Y (by rw[AJ];exact AX) (λi v hi=>?_);rw[abZ]at hi;split at hi
       ·rw[show off+j+i=off+(j+i) by omega];exact H (j+i) v (by simpa using hi)
       ·cases hi
      ·rw[AJ];simp[D.fR];omega
      ·intro v J;exact Ad.2.1 v (by simpa using adM (adV J))
      ·intro i c v E A;rw[abZ]at E A;split at E
       ·rename_i hi;simp only[hi,aes]at A;exact (Ad.2.2 (j+i) c v (by simpa using E) (by simpa using A)).1
       ·cases E
    ·trivial
  ·rename_i Y;refine kA.of ?_;rintro ⟨A9,Z⟩ φ G a w N;have J:=N.aq x M;rw[A1]at J;generalize AM:a.eval x=av at J;cases J with
   |dM _ _ b off A' AO AP A6 H=>
    have AL:j<A'.cells.size:=by rw[A6.size];exact Z
    have Ac:j<d.cells.length:=by rw[D.fR];exact Z
    refine⟨A'.cells[j],A5 a w _ ?_,.d _ _ (A6.cells.2.2 j _ _ (by simp[D.cell,Ac]) (by simp[AL])).1⟩;rw[AM];exact uq Y A9 (H j _ (by simp[AL]))
 ·trivial
def AV.ly:AV->Bool
 | .bf=>false
 | .bY _=>false
 |_=>true
theorem aB.ly{φ w F x v}(h:aB φ w F x v)(A3:x.ly=true):v.cells.size=x.cells.length/\∀u∈v.cells,cA u=true:=by
 have one:∀{v:Value}{x:AV},cA v=true->x.cells.length=1->v.cells.size=x.cells.length/\∀u∈v.cells,cA u=true:=by
  intro v x A A2;rw[dW A,A2];exact⟨rfl,λu hu=>by simp at hu;subst hu;exact A⟩
 cases h with
 |bf=>simp[AV.ly]at A3
 |bY=>simp[AV.ly]at A3
 |d x v h=>
  have V:=h.cells;refine⟨?_,V.2.1⟩;have:=V.1;cases x<;>simp_all [AV.cells,D.cells]
 |agg cs a A2 A V=>exact⟨by simp[Value.cells,AV.cells,A2],A⟩
 |ptr _ _ _ _ _ _ _ _ A=>exact one A rfl
 |vec _ _ _ _ _ _ _ _ _ A=>exact one A rfl
 |cN _ _ _ _ _ _ _ _ _ A=>exact one A rfl
 |dM=>exact one rfl rfl
 |fn=>exact one rfl rfl
 |r9=>exact one rfl rfl
 |gw=>exact one rfl rfl
 |lit _ A=>exact one A rfl
 |nn=>exact one rfl rfl
 |err=>exact one rfl rfl
def bk{α:Type}(cs:List α)(off:Nat)(H:List α):List α:=
 match H with
 |[y]=>cs.set off y
 |H=>cs.take off++H++cs.drop (off+H.length)
theorem dh{α:Type}(cs:List α)(off:Nat)(H:List α)(h:off+H.length<=cs.length):bk cs off H=cs.take off++H++cs.drop (off+H.length):=by
 unfold bk;split
 ·rename_i y;simp at h;rw[List.set_eq_take_append_cons_drop,abT (by omega)];simp
 ·rfl
theorem bQ{α:Type}(cs:List α)(off:Nat)(H:List α)(h:off+H.length<=cs.length):(bk cs off H).length=cs.length:=by
 rw[dh cs off H h];simp;omega
theorem gA{α:Type}(cs:List α)(off:Nat)(H:List α)(h:off+H.length<=cs.length)(i:Nat):
 (bk cs off H)[i]?=if i<off then cs[i]? else if i<off+H.length then H[i-off]? else cs[i]?:=by
 rw[dh cs off H h];by_cases A:i<off
 ·rw[abT A,ahf,abW (by simp;omega),abZ,abT A]
 ·rw[abN A,ahf,ab1 (by simp;omega)];simp only[ae3,ame (show off<=cs.length by omega)];by_cases Y:i<off+H.length
  ·rw[abT Y,abW (by omega)]
  ·rw[abN Y,ab1 (by omega),adY];congr 1;omega
theorem s4{α β:Type}{R:α->β->Prop}{cs H:List α}{vs us:List β}{off:Nat}(A2:cs.length=vs.length)(BA:H.length=us.length)(h:off+H.length<=cs.length)
 (V:∀(i:Nat) c v,cs[i]?=some c->vs[i]?=some v->R c v) (A8:∀(i:Nat) c v,H[i]?=some c->us[i]?=some v->R c v):
 ∀(i:Nat) c v,(bk cs off H)[i]?=some c->(bk vs off us)[i]?=some v->R c v:=by
 intro i c v;rw[gA cs off H h,gA vs off us (by omega),<-BA];split
 ·exact V i c v
 ·split
  ·exact A8 _ c v
  ·exact V i c v
theorem Ch{φ G m w}(h:bh φ G m w):∀b,Fo G φ m b->b<w.heap.size:=λb M=>M.elim (h.bound b) (λA5=>h.De A5)
theorem nW(w:World)(g k:Nat)(cs:Array Value)(h:k≠g):(w.setRow g cs).heap[k]?=w.heap[k]?:=by
 simp only[World.setRow,aiW];rw[abN (λe=>h e.symm)]
theorem bh.HP{φ G m w}(h:bh φ G m w){e:cB}(he:e∈m){L:Loc}(T:φ e.key=some L)(Z:L.ak=e.ak){b0:Nat}(A5:e.cont.da L b0)(N:Array Value)
 (L':Loc) (U:e.ak<=L'.ak) (BB:L'.ak=L.ak->L'={L with cZ:=L'.cZ}) (E:ay) (AF:∀b,E.da L' b->e.cont.da L b)
 (V:∀φ':bN,φ.le φ'->(∀x v,aB φ w (Fo G φ m) x v->aB φ' (w.setRow b0 N) (Fo G φ' (Mem.set m ⟨e.key,L'.ak,E⟩)) x v)->
  (∀x v,aO w (Fo G φ m) x v->aO (w.setRow b0 N) (Fo G φ' (Mem.set m ⟨e.key,L'.ak,E⟩)) x v)->
  dX φ' (w.setRow b0 N) (Fo G φ' (Mem.set m ⟨e.key,L'.ak,E⟩)) L' E):
 ∃φ',bh φ' G (Mem.set m ⟨e.key,L'.ak,E⟩) (w.setRow b0 N)/\aS φ m w φ' (Mem.set m ⟨e.key,L'.ak,E⟩) (w.setRow b0 N)/\φ' e.key=some L'/\∀k,k≠e.key->φ' k=φ k:=by
 have BC:iw φ m b0:=⟨e,he,L,T,A5⟩;refine h.dg (e':=⟨e.key,L'.ak,E⟩) he T rfl (L':=L') (by rw[Z];exact U) BB rfl
  (λb M A9=>nW w b0 b N (λheq=>A9 (heq▸A5))) (by simp) (λb M=>.inl (AF b M)) rfl rfl rfl ?_
 intro φ' AW hle;have AX:∀b,b<w.heap.size->Fo G φ' (Mem.set m ⟨e.key,L'.ak,E⟩) b->Fo G φ m b:=by
  rintro b BP (Ap|⟨x,I,Aq,AG,AY⟩)
  ·exact .inl Ap
  ·right;rcases (Mem.mem_set h.nodup).1 I with ⟨rfl,_⟩|⟨Ar,AJ⟩
   ·subst AW;simp at AG;subst AG;exact⟨e,he,L,T,AF b AY⟩
   ·subst AW;simp at AJ;simp[AJ]at AG;exact⟨x,Ar,Aq,AG,AY⟩
 have AA:∀b,b<w.heap.size->¬Fo G φ m b->(w.setRow b0 N).heap[b]?=w.heap[b]?:=
  λb M A9=>nW w b0 b N (λheq=>A9 (.inr (heq▸BC)))
 exact V φ' hle (λx v I=>I.mono hle AA (by simp) AX) (λx v I=>I.mono AA (by simp) AX)
theorem bh.store{φ G m w}(h:bh φ G m w){e:cB}(he:e∈m){L:Loc}(T:φ e.key=some L)(Z:L.ak=e.ak){b0:Nat}(A5:e.cont.da L b0)(N:Array Value)
 (AB:Nat) (U:e.ak<=AB) (E:ay) (AF:∀b,E.da {L with ak:=AB} b->e.cont.da L b)
 (V:∀φ':bN,φ.le φ'->(∀x v,aB φ w (Fo G φ m) x v->aB φ' (w.setRow b0 N) (Fo G φ' (Mem.set m ⟨e.key,AB,E⟩)) x v)->
  (∀x v,aO w (Fo G φ m) x v->aO (w.setRow b0 N) (Fo G φ' (Mem.set m ⟨e.key,AB,E⟩)) x v)->
  dX φ' (w.setRow b0 N) (Fo G φ' (Mem.set m ⟨e.key,AB,E⟩)) {L with ak:=AB} E):
 ∃φ',bh φ' G (Mem.set m ⟨e.key,AB,E⟩) (w.setRow b0 N)/\aS φ m w φ' (Mem.set m ⟨e.key,AB,E⟩) (w.setRow b0 N)/\φ' e.key=some {L with ak:=AB}/\∀k,k≠e.key->φ' k=φ k:=
 h.HP he T Z A5 N {L with ak:=AB} U (λhh=>by simp at hh;cases L;simp_all) E AF V
theorem bh.SP{φ G m w}(h:bh φ G m w){e:cB}(he:e∈m){L:Loc}(T:φ e.key=some L)(Z:L.ak=e.ak)(J:World)(AP:J.heap=w.heap)(As:J.os=w.os)(At:J.tape=w.tape)(Au:J.output=w.output)
 (arr:Array Value) (elem:TypeId) (E:ay) (L':Loc) (U:L'.ak=e.ak+1) (AF:∀b,E.da L' b->e.cont.da L b\/w.heap.size=b)
 (V:∀φ':bN,φ.le φ'->(∀x v,aB φ w (Fo G φ m) x v->aB φ' (J.alloc (.cells arr elem)) (Fo G φ' (Mem.set m ⟨e.key,e.ak+1,E⟩)) x v)->
  (∀x v,aO w (Fo G φ m) x v->aO (J.alloc (.cells arr elem)) (Fo G φ' (Mem.set m ⟨e.key,e.ak+1,E⟩)) x v)->
  (J.alloc (.cells arr elem)).heap[w.heap.size]?=some (.cells arr elem (0,0))->(∀b,b<w.heap.size->(J.alloc (.cells arr elem)).heap[b]?=w.heap[b]?)->
  dX φ' (J.alloc (.cells arr elem)) (Fo G φ' (Mem.set m ⟨e.key,e.ak+1,E⟩)) L' E):
 ∃φ',bh φ' G (Mem.set m ⟨e.key,e.ak+1,E⟩) (J.alloc (.cells arr elem))/\aS φ m w φ' (Mem.set m ⟨e.key,e.ak+1,E⟩) (J.alloc (.cells arr elem))/\
  φ' e.key=some L'/\∀k,k≠e.key->φ' k=φ k:=by
 have hold:∀b,b<w.heap.size->(J.alloc (.cells arr elem)).heap[b]?=w.heap[b]?:=λb M=>by rw[RowKit.Below.heap_alloc J _ b (by rw[AP];exact M),AP]
 have A6:w.heap.size<=(J.alloc (.cells arr elem)).heap.size:=by simp[AP]
 refine h.dg (e':=⟨e.key,e.ak+1,E⟩) he T rfl (L':=L') (by rw[Z,U];simp) (λhh=>by simp[Z,U]at hh) U
  (λb M _=>hold b M) A6 (λb M=>(AF b M).imp id (λe=>by omega)) As At Au ?_
 intro φ' AW hle;have AX:∀b,b<w.heap.size->Fo G φ' (Mem.set m ⟨e.key,e.ak+1,E⟩) b->Fo G φ m b:=by
  rintro b M (Ap|⟨x,I,Aq,AG,AY⟩)
  ·exact .inl Ap
  ·right;rcases (Mem.mem_set h.nodup).1 I with ⟨rfl,_⟩|⟨Ar,AJ⟩
   ·subst AW;simp at AG;subst AG;rcases AF b AY with AC|AC
    ·exact⟨e,he,L,T,AC⟩
    ·omega
   ·subst AW;simp at AJ;simp[AJ]at AG;exact⟨x,Ar,Aq,AG,AY⟩
 refine V φ' hle (λx v I=>I.mono hle (λb M _=>hold b M) A6 AX) (λx v I=>I.mono (λb M _=>hold b M) A6 AX) ?_ hold;have:=heap_alloc_new J (.cells arr elem);rwa [AP]at this
theorem bh.fresh{φ G m w}(h:bh φ G m w){e:cB}(he:e∈m){L:Loc}(T:φ e.key=some L)(Z:L.ak=e.ak)(J:World)(AP:J.heap=w.heap)(As:J.os=w.os)(At:J.tape=w.tape)(Au:J.output=w.output)
 (arr:Array Value) (elem:TypeId) (sz cap:Nat) (E:ay) (AF:∀b,E.da ⟨e.ak+1,w.heap.size,sz,cap,0,[]⟩ b->w.heap.size=b)
 (V:∀φ':bN,φ.le φ'->(∀x v,aB φ w (Fo G φ m) x v->aB φ' (J.alloc (.cells arr elem)) (Fo G φ' (Mem.set m ⟨e.key,e.ak+1,E⟩)) x v)->
  (∀x v,aO w (Fo G φ m) x v->aO (J.alloc (.cells arr elem)) (Fo G φ' (Mem.set m ⟨e.key,e.ak+1,E⟩)) x v)->
  (J.alloc (.cells arr elem)).heap[w.heap.size]?=some (.cells arr elem (0,0))->
  dX φ' (J.alloc (.cells arr elem)) (Fo G φ' (Mem.set m ⟨e.key,e.ak+1,E⟩)) ⟨e.ak+1,w.heap.size,sz,cap,0,[]⟩ E):
 ∃φ',bh φ' G (Mem.set m ⟨e.key,e.ak+1,E⟩) (J.alloc (.cells arr elem))/\aS φ m w φ' (Mem.set m ⟨e.key,e.ak+1,E⟩) (J.alloc (.cells arr elem))/\
  φ' e.key=some ⟨e.ak+1,w.heap.size,sz,cap,0,[]⟩/\∀k,k≠e.key->φ' k=φ k:=
 h.SP he T Z J AP As At Au arr elem E _ rfl (λb M=>.inr (AF b M)) (λφ' A Y AL A4 _=>V φ' A Y AL A4)
def D.setCells(r:D)(j:Nat)(y:D):D:=.agg (bk r.cells j y.cells)
def Di(P:Program)(t:TypeId)(k ak i j:Nat)(x:AV):Option cB->du
 |some ⟨_,v,.vv ai (some _)⟩=>match x with
  | .vec a b c d=>.dg (v=ak/\i=ai.length/\j=0/\fm P t=some 1) .bf ⟨k,ak,.vv ai (some (.vec a b c d))⟩
  |_=>.no
 |_=>.no
def oS(P:Program)(m:Mem)(t:TypeId)(p x:AV):du:=
 match p with
 | .ptr k ak off=>match Mem.get m k with
  |some ⟨_,v,.box cs⟩=>.dg (v=ak/\x.ly=true/\fm P t=some x.cells.length/\off+x.cells.length<=cs.length) .bf ⟨k,ak,.box (bk cs off x.cells)⟩
  |_=>.no
 | .cN k ak i j=>match Mem.get m k,x.norm with
  |some ⟨_,v,.vec sz ai⟩,.d y=>match tk P t with
   | .struct=>.dg (v=ak/\i<ai.length/\fm P t=some sz/\y.size=sz/\j=0) .bf ⟨k,ak,.vec sz (ai.set i y)⟩
   |_=>match sz with
    |1=>.dg (v=ak/\i<ai.length/\fm P t=some 1/\y.size=1/\j=0) .bf ⟨k,ak,.vec 1 (ai.set i y)⟩
    |sz=>.dg (v=ak/\i<ai.length/\fm P t=some y.size/\j+y.size<=sz/\(D.at ai i).flat=false) .bf ⟨k,ak,.vec sz (ai.set i ((D.at ai i).setCells j y))⟩
  |e,_=>Di P t k ak i j x e
 |_=>.no
theorem Hj{w w':World}{F F':Nat->Prop}{arr:Array Value}{ai:List D}{base sz cap i o:Nat}{us:List Value}{AD:D}{AE:Value}(A3:arr.size=base+cap*sz)(AQ:ai.length<=cap)(hi:i<ai.length)
 (A5:base+i*sz<=o) (BQ:o+us.length<=base+i*sz+sz)
 (AR:∀(n:Nat)(d:D),ai[n]?=some d->∃v,aO w F d v/\∀(j:Nat)(c:Value),v.cells[j]?=some c->arr[base+n*sz+j]?=some c)
 (BD:∀d∈ai,d.size=sz)
 (hm:∀x v,aO w F x v->aO w' F' x v) (AK:aO w' F' AD AE) (AS:AD.size=sz)
 (Av:∀(j:Nat)(c:Value),AE.cells[j]?=some c->(bk arr.toList o us)[base+i*sz+j]?=some c):
 ∀(n:Nat)(d:D),(ai.set i AD)[n]?=some d->∃v,aO w' F' d v/\∀(j:Nat)(c:Value),v.cells[j]?=some c->(bk arr.toList o us).toArray[base+n*sz+j]?=some c:=by
 have BE:base+i*sz+sz<=arr.size:=by
  have:i*sz+sz<=cap*sz:=by rw[<-ahv];exact ab0 _ (by omega)
  omega
 intro n d A7;by_cases A9:n=i
 ·subst A9;simp[hi]at A7;subst A7;exact⟨AE,AK,λj c AZ=>by simpa using Av j c AZ⟩
 ·rw[List.getElem?_set_ne (λh=>A9 h.symm)]at A7;obtain⟨v,U,BF⟩:=AR n d A7;refine⟨v,hm d v U,λj c AZ=>?_⟩;have BR:j<sz:=by
   have A:=U.size;rw[BD d (abU A7)]at A;have:=(ad1.1 AZ).1;omega
  rw[aeG,gA arr.toList o us (by simp;omega)];have key:¬(o<=base+n*sz+j/\base+n*sz+j<o+us.length):=by
   rintro ⟨A,Y⟩;rcases Nat.lt_or_gt_of_ne A9 with AM|Dj
   ·have:n*sz+sz<=i*sz:=by rw[<-ahv];exact ab0 _ AM
    omega
   ·have:i*sz+sz<=n*sz:=by rw[<-ahv];exact ab0 _ Dj
    omega
  have hh:=BF j c AZ;split
  ·simpa using hh
  ·rw[abN (by omega)];simpa using hh
theorem s6{P:Program}{t:TypeId}{w:World}{b o:Nat}{arr:Array Value}{elem:TypeId}{v:Value}(A3:fm P t=some v.cells.size)
 (A':eJ w b arr elem) (A2:o+v.cells.size<=arr.size) (A:∀x∈v.cells,cA x=true):
 (Instr.storeAt t (.pointer (some ⟨b,o,none⟩)) v).run P w=.ok () (w.setRow b (bk arr.toList o v.cells.toList).toArray):=by
 rw[K2 A3 A' A2 A,dh _ _ _ (by simpa using A2)];simp
theorem K3{w:World}{b:Nat}{arr:Array Value}{elem:TypeId}{fr}(A':w.heap[b]?=some (.cells arr elem fr))(N:Array Value):(w.setRow b N).heap[b]?=some (.cells N elem fr):=setRow_heap w b arr N elem fr A'
theorem eJ.setRow{w:World}{b:Nat}{arr:Array Value}{elem:TypeId}(A':eJ w b arr elem)(N:Array Value)(A3:N.size=arr.size):eJ (w.setRow b N) b N elem:=by
 obtain⟨fr,A,Y⟩:=A';exact⟨fr,K3 A N,by rw[A3];exact Y⟩
theorem kE{α:Type}{cs H:List α}{off:Nat}{x:α}(h:off+H.length<=cs.length)(I:x∈bk cs off H):x∈cs\/x∈H:=by
 rw[dh cs off H h]at I;simp only[ab3]at I;rcases I with (I|I)|I
 ·exact .inl (adV I)
 ·exact .inr I
 ·exact .inl (adM I)
theorem SQ(P:Program)(S:St)(o:Oper)(t:TypeId)(p x:Operand)(A5:o.op=.store t p x)(A_:(S.aq p).1=true)(I:(S.aq x).1=true){k ak i j:Nat}(AT:(S.aq p).2=.cN k ak i j):
 aG P S o (Di P t k ak i j (S.aq x).2 (Mem.get S.mem k)):=by
 unfold Di;split
 ·rename_i key v ai y A';split
  ·rename_i a b c d AN;refine aG.rR ?_;rintro ⟨rfl,rfl,rfl,Aa⟩ φ G BG w A0;have AA:key=k:=(Mem.get_mem A').2;subst AA;have U:=A0.aq p A_;have hu:=A0.aq x I;rw[AT]at U;rw[AN]at hu;obtain⟨hm,_,L,T,Z,AO⟩:=A0.mem.get A';obtain⟨⟨B2,AQ,A2⟩,BH,AJ,Aw⟩:=AO;have e:=U.kB T Z;simp only[Option.toList_some,aeu]at AQ;have Ab:0<L.cap:=by omega
   obtain⟨arr,elem,hh,A6,A,BI,_⟩:=Aw Ab;generalize Ax:BG.eval x=u at hu;have Ay:cA u=true:=by cases hu;assumption
   have Ak:u.cells=#[u]:=dW Ay;have A1:L.base+ai.length+[u].length<=arr.toList.length:=by simp;omega
   obtain⟨φ',Ac,Ad,B3,Ae⟩:=A0.mem.store (e:=⟨key,v,.vv ai (some y)⟩) hm T Z (b0:=L.dw) (.inl ⟨Ab,rfl⟩) (bk arr.toList (L.base+ai.length) [u]).toArray v (abO _) (.vv ai (some (.vec a b c d))) (λ_ M=>M) (λφ' B4 Al AU=>by
    refine⟨⟨B2,by simpa using AQ,A2⟩,BH,AJ,λ_=>⟨_,elem,hh.setRow _ (by rw[aem,bQ _ _ _ A1];simp),?_,?_,?_,?_⟩⟩
    ·rw[aem,bQ _ _ _ A1];simpa using A6
    ·intro z O;rcases kE A1 (by simpa using O)with O|O
     ·exact A z (by simpa using O)
     ·simp at O;subst O;exact Ay
    ·intro n xs q A9 An;have BS:=(abM.1 A9).1;have:=BI n xs q A9 An;rw[show (bk arr.toList (L.base+ai.length) [u]).toArray[L.base+n]?=arr[L.base+n]? by
      rw[aeG,gA _ _ _ A1,abT (by omega)];simp]
     refine this.mono (λd u _ A7=>AU d u A7) (λb M=>?_);subst M;exact nW w L.dw b _ (λheq=>(AJ b (abU An)).2 heq)
    ·intro z O;cases O;refine⟨u,?_,Al _ _ hu⟩;show (bk arr.toList (L.base+ai.length) [u]).toArray[L.base+ai.length]?=some u;rw[aeG,gA _ _ _ A1,abN (by omega),abT (by simp)];simp)
   refine⟨undef,_,φ',?_,.bf _,Ac,Ad,Ae⟩;have B5:=s6 (P:=P) (t:=t) (w:=w) (b:=L.dw) (o:=L.base+ai.length) (v:=u) (by rw[Ak];exact Aa) hh (by rw[Ak];simpa using A1) (by rw[Ak];simpa using Ay);rw[Ak]at B5;refine .inr ⟨?_,rfl⟩;rw[B2,amm,agR]at e;simp[execOp,A5,e,Ax,B5]
  ·trivial
 ·trivial
theorem WB(P:Program)(S:St)(o:Oper)(t:TypeId)(p x:Operand)(A5:o.op=.store t p x)(A_:(S.aq p).1=true)(I:(S.aq x).1=true):aG P S o (oS P S.mem t (S.aq p).2 (S.aq x).2):=by
 have B6:∀(a:Act)(w w':World),(Instr.storeAt t (a.eval p) (a.eval x)).run P w=.ok () w'->Dh P o a w undef w':=by
  intro a w w' h;exact .inr ⟨by simp[execOp,A5,h],rfl⟩
 unfold oS;split
 ·rename_i k ak off AT;split
  ·rename_i key v cs A';refine aG.rR ?_;rintro ⟨rfl,BJ,Aa,hle⟩ φ G a w A0;have U:=A0.aq p A_;have AN:=A0.aq x I;rw[AT]at U;obtain⟨hm,AA,L,T,Z,Az,arr,elem,hh,A6,A,AR⟩:=A0.mem.get A';have e:=U.qR T Z;obtain⟨Ao,B'⟩:=AN.ly BJ;simp only at AA;subst AA;have A1:off+(a.eval x).cells.toList.length<=arr.toList.length:=by simp only[ace,Ao,A6];exact hle
   obtain⟨φ',Ac,Ad,B3,Ae⟩:=A0.mem.store (e:=⟨key,v,.box cs⟩) hm T Z rfl (bk arr.toList off (a.eval x).cells.toList).toArray v (abO _) (.box (bk cs off (S.aq x).2.cells)) (λ_ M=>M) (λφ' B4 Al AU=>by
    refine⟨⟨Az.1,Az.2.1,by rw[bQ _ _ _ hle];exact Az.2.2⟩,_,elem,hh.setRow _ (by show (bk arr.toList _ _).length=_;rw[bQ _ _ _ A1];simp),?_,?_,?_⟩
    ·rw[bQ _ _ _ hle,<-A6];show (bk arr.toList off _).length=_;rw[bQ _ _ _ A1];simp
    ·intro u hu;rcases kE A1 (by simpa using hu)with hu|hu
     ·exact A u (by simpa using hu)
     ·exact B' u (by simpa using hu)
    ·intro i c u V hu;refine Al c u ?_;exact s4 (vs:=arr.toList) (us:=(a.eval x).cells.toList) (by simp[A6]) (by simpa using Ao.symm) hle (λi c v h AC=>AR i c v h (by simpa using AC))
      (λi c v h AC=>AN.cells B' Ao i c v h (by simpa using AC)) i c u V (by simpa using hu))
   refine⟨undef,_,φ',B6 a w _ ?_,.bf _,Ac,Ad,Ae⟩;rw[e];exact s6 (by rw[Ao];exact Aa) hh (by omega) B'
  ·trivial
 ·rename_i k ak i j AT;have vec:∀(c:Prop)[Decidable c](sz:Nat)(ai:List D)(y AD:D)(v:Nat),Mem.get S.mem k=some ⟨k,v,.vec sz ai⟩->(S.aq x).2.norm=.d y->
   (c->v=ak/\i<ai.length/\fm P t=some y.size/\j+y.size<=sz/\((D.at ai i).size=sz->AD.size=sz)/\
    ∀w F (u v:Value),(D.at ai i).size=sz->aO w F (D.at ai i) v->aO w F y u->∃AE,aO w F AD AE/\AE.cells.toList=bk v.cells.toList j u.cells.toList)->
   aG P S o (.dg (decide c) .bf ⟨k,ak,.vec sz (ai.set i AD)⟩):=by
   intro c _ sz ai y AD v A' A8 BK;refine aG.rR λV φ G a w A0=>?_;obtain⟨rfl,AM,Aa,AZ,BL,BM⟩:=BK V;have U:=A0.aq p A_;have AN:=(A0.aq x I).norm;rw[A8]at AN;rw[AT]at U;obtain⟨hm,AA,L,T,Z,Af,AQ,AS,Aw⟩:=A0.mem.get A';have e:=U.kB T Z;have Ab:0<L.cap:=by omega
   obtain⟨arr,elem,hh,A6,A,AR⟩:=Aw Ab;have B7:AD.size=sz:=BL (by rw[AS _ (abU (jG AM)),Af]);cases AN with
   |d _ u hu=>
    generalize Ax:a.eval x=u at hu;have Ag:u.cells.size=y.size:=hu.size;have BE:L.base+i*L.sz+L.sz<=arr.size:=by
     have:i*L.sz+L.sz<=L.cap*L.sz:=by rw[<-ahv];exact ab0 _ (by omega)
     omega
    obtain⟨B0,B8,B9⟩:=AR i _ (jG AM);have B1:B0.cells.size=L.sz:=by rw[B8.size];exact AS _ (abU (jG AM))
    have A1:L.base+i*L.sz+j+u.cells.toList.length<=arr.toList.length:=by simp[Ag];omega
    obtain⟨φ',Ac,Ad,B3,Ae⟩:=A0.mem.store (e:=⟨k,v,.vec sz ai⟩) hm T Z ⟨Ab,rfl⟩ (bk arr.toList (L.base+i*L.sz+j) u.cells.toList).toArray v (abO _) (.vec sz (ai.set i AD)) (λ_ M=>M) (λφ' B4 Al AU=>by
     refine⟨Af,by simpa using AQ,?_,λ_=>⟨_,elem,hh.setRow _ (by show (bk arr.toList _ _).length=_;rw[bQ _ _ _ A1];simp),?_,?_,?_⟩⟩
     ·intro d A7;rcases List.mem_or_eq_of_mem_set A7 with A7|rfl
      ·exact AS d A7
      ·show _=L.sz;rw[Af];exact B7
     ·show (bk arr.toList _ _).length=_;rw[bQ _ _ _ A1];simpa using A6
     ·intro z O;rcases kE A1 (by simpa using O)with O|O
      ·exact A z (by simpa using O)
      ·exact hu.cells.2.1 z (by simpa using O)
     ·obtain⟨AE,Av,BN⟩:=BM _ _ u B0 (by rw[AS _ (abU (jG AM)),Af]) (AU _ _ B8) (AU _ _ hu);refine Hj (F:=Fo G φ S.mem) (base:=L.base) (cap:=L.cap) (sz:=L.sz) A6 AQ AM (by omega) (by simp[Ag];omega) AR AS AU Av (by rw[B7,Af]) ?_;intro q c An;have AH:(bk B0.cells.toList j u.cells.toList)[q]?=some c:=by rw[<-BN];simpa using An
      have BT:q<L.sz:=by
       have:=(abM.1 AH).1;rw[bQ _ _ _ (by simp[Ag,B1];omega)]at this;simpa [B1]using this
      rw[gA _ _ _ (by simp[Ag,B1];omega)]at AH;rw[gA _ _ _ A1];by_cases A:q<j
      ·rw[abT A]at AH;rw[abT (by omega)];simpa using B9 q c (by simpa using AH)
      ·rw[abN A]at AH;rw[abN (by omega)];by_cases Y:q<j+u.cells.toList.length
       ·rw[abT Y]at AH;rw[abT (by omega)];rw[show L.base+i*L.sz+q-(L.base+i*L.sz+j)=q-j by omega];exact AH
       ·rw[abN Y]at AH;rw[abN (by omega)];simpa using B9 q c (by simpa using AH))
    refine⟨undef,_,φ',B6 a w _ ?_,.bf _,Ac,Ad,Ae⟩;rw[e,Ax];exact s6 (by rw[Ag];exact Aa) hh (by simpa using A1) hu.cells.2.1
  have whole:∀(y r:D),y.size=r.size->∀w F (u v:Value),aO w F r v->aO w F y u->∃AE,aO w F y AE/\AE.cells.toList=bk v.cells.toList 0 u.cells.toList:=by
   intro y r BU w F u v A0 A8;refine⟨u,A8,?_⟩;have A:=A0.size;have Y:=A8.size;rw[dh _ _ _ (by simp;omega)];simp;omega
  split
  ·rename_i key v sz ai y A' A8;have AA:key=k:=(Mem.get_mem A').2;subst AA;split
   ·exact vec _ sz ai y y v A' A8 (λ⟨A,Y,AL,A4,Ah⟩=>⟨A,Y,by rw[A4];exact AL,by omega,λ_=>A4,by
     subst Ah;intro w F u v A3 AK Ai;exact whole y _ (by rw[A3,A4]) w F u v AK Ai⟩)
   ·split
    ·exact vec _ 1 ai y y v A' A8 (λ⟨A,Y,AL,A4,Ah⟩=>⟨A,Y,by rw[A4];exact AL,by omega,λ_=>A4,by
      subst Ah;intro w F u v A3 AK Ai;exact whole y _ (by rw[A3,A4]) w F u v AK Ai⟩)
    ·refine vec _ sz ai y _ v A' A8 (λ⟨A,Y,AL,A4,Ah⟩=>⟨A,Y,AL,A4,?_,?_⟩)
     ·intro AI;show (bk _ _ _).length=sz;rw[bQ _ _ _ (by rw[D.fR,D.fR,AI];exact A4),D.fR,AI]
     ·intro w F u v A3 AK Ai;obtain⟨BO,rfl⟩:=u7 AK Ah;have AO:=AK.cells;have Aj:=Ai.cells;have A2:j+y.cells.length<=(D.at ai i).cells.length:=by rw[D.fR,D.fR,A3];exact A4
      refine⟨.agg (bk BO.toList j u.cells.toList).toArray,.oy ?_ ?_ ?_,by simp[Value.cells]⟩
      ·have AI:=AO.1;simp only[Value.cells]at AI;rw[bQ _ _ _ A2,bQ _ _ _ (by rw[Aj.1,AI];exact A2),<-AI]
      ·intro z O;have AI:=AO.1;simp only[Value.cells]at AI;rcases kE (by rw[Aj.1,AI];exact A2) O with O|O
       ·exact AO.2.1 z (by simpa [Value.cells]using O)
       ·exact Aj.2.1 z (by simpa using O)
      ·exact s4 (by simpa [Value.cells]using AO.1.symm) (by simpa using Aj.1.symm) A2 (λi c v h AC=>(AO.2.2 i c v h (by simpa [Value.cells]using AC)).1) (λi c v h AC=>(Aj.2.2 i c v h (by simpa using AC)).1)
  ·exact SQ P S o t p x A5 A_ I AT
 ·trivial
theorem ia(P:Program)(w:World)(e:TypeId)(cs:Array Value):(newRow e cs).run P w=.ok ⟨w.heap.size,0,none⟩ (w.alloc (.cells cs e)):=rfl
def keyOf(o:Oper):Nat:=100+50*o.dst.getD 100000
def sq(P:Program)(t:TypeId):Option (List AV):=
 match P.info? t with
 |some i=>match i.zero with
  |some z=>if z.cells.all cA then some (z.cells.toList.map mU)else none
  |none=>none
 |none=>none
theorem oA{P:Program}{t:TypeId}{zs:List AV}(h:sq P t=some zs)(w:World):∃z,(zeroValue t).run P w=.ok z w/\z.cells.size=zs.length/\(∀v∈z.cells,cA v=true)/\
 ∀φ w' F (i:Nat) c v,zs[i]?=some c->z.cells[i]?=some v->aB φ w' F c v:=by
 unfold sq at h;split at h
 ·rename_i i hi;split at h
  ·rename_i z y;split at h
   ·rename_i AL;simp at h;subst h;refine⟨z,by simp[zeroValue,typeInfo,hi,y],by simp,?_,?_⟩
    ·intro v A;exact Array.all_eq_true'.1 AL v A
    ·intro φ w' F i c v M A;simp only[adK,afk,abS]at M;obtain⟨u,hu,rfl⟩:=M;rw[A]at hu;cases hu;exact BB ..
   ·cases h
  ·cases h
 ·cases h
def rS(m:Mem)(k:Nat)(c:Bool)(cs:List AV):du:=
 match Mem.get m k with
 |some ⟨_,v,_⟩=>.dg c (.ptr k (v+1) 0) ⟨k,v+1,.box cs⟩
 |none=>.no
theorem LM{P:Program}{S:St}{o:Oper}{k:Nat}{c:Bool}{cs:List AV}
 (h:c=true->∀φ G a w,Rel φ G S a w->∃(arr:Array Value)(elem:TypeId),(execOp a.eval o).run P w=.ok (.value (.pointer (some ⟨w.heap.size,0,none⟩))) (w.alloc (.cells arr elem))/\
  arr.size=cs.length/\(∀v∈arr,cA v=true)/\∀(i:Nat) c v,cs[i]?=some c->arr[i]?=some v->aB φ w (Fo G φ S.mem) c v):aG P S o (rS S.mem k c cs):=by
 unfold rS;split
 ·rename_i key v cont AM;intro M φ G a w U;obtain⟨arr,elem,A',N,I,Y⟩:=h M φ G a w U;obtain⟨hm,A2,L,AN,AF,_⟩:=U.mem.get AM;simp only at A2 AF;subst A2;obtain⟨φ',AO,AP,AQ,AR⟩:=U.mem.fresh (e:=⟨key,v,cont⟩) hm AN AF w rfl rfl rfl rfl arr elem 1 cs.length (.box cs) (λ_ A4=>A4) (λφ' hle AS Ae AT=>
   ⟨⟨rfl,rfl,rfl⟩,arr,elem,eJ.new AT,N,I,λi c u M hu=>AS c u (Y i c u M hu)⟩)
  exact⟨_,_,φ',.inl A',.ptr key (v+1) 0 _ _ AQ (abO _) (λ_=>rfl) rfl,AO,AP,AR⟩
 ·trivial
theorem adI(P:Program)(S:St)(o:Oper)(t:TypeId)(x:Operand)(A8:o.op=.box t x)(A0:(S.aq x).1=true):aG P S o (rS S.mem (keyOf o) (S.aq x).2.ly (S.aq x).2.cells):=by
 refine LM λZ φ G a w U=>?_;have A:=U.aq x A0;obtain⟨I,O⟩:=A.ly Z;refine⟨(a.eval x).cells,t,?_,I,O,A.cells O I⟩;simp[execOp,A8,Instr.box,newVar,ia]
theorem HR(P:Program)(S:St)(o:Oper)(t:TypeId)(A8:o.op=.alloc t)(zs:List AV)(y:sq P t=some zs):aG P S o (rS S.mem (keyOf o) true zs):=by
 refine LM λ_ φ G a w U=>?_;obtain⟨z,A',N,I,Y⟩:=oA y w;refine⟨z.cells,t,?_,N,I,λi c v M A=>Y _ _ _ i c v M A⟩;simp[execOp,A8,Instr.alloc,newVar,ia,A']
def mo(P:Program)(t:TypeId):Option D:=
 match sq P t,(tk P t).agg with
 |some zs,true=>(toDsN zs).map .agg
 |some [z],false=>toD1 z
 |_,_=>none
def y9(P:Program)(t:TypeId):Option Nat:=(P.info? t).map (·.bytes)
theorem Dk{P:Program}{t:TypeId}{d:D}(h:mo P t=some d)(w:World):∃z,(zeroValue t).run P w=.ok z w/\z.cells.size=d.size/\(∀v∈z.cells,cA v=true)/\
 ∀w' F,∃v,aO w' F d v/\v.cells=z.cells:=by
 unfold mo at h;split at h
 ·rename_i zs y AU;simp only[abS]at h;obtain⟨A9,AW,rfl⟩:=h;obtain⟨z,A',N,I,Y⟩:=oA y w;have A1:∀w' F,zs.length=A9.length/\∀(i:Nat) d v,A9[i]?=some d->z.cells.toList[i]?=some v->aO w' F d v:=λw' F=>
   toDsN_rel (φ:=λ_=>none) (w:=w') (F:=F) (vs:=z.cells.toList) AW (λi c v M A=>Y _ _ _ i c v M (by simpa using A))
  refine⟨z,A',by rw[N,(A1 w (λ_=>False)).1];rfl,I,λw' F=>⟨.agg z.cells,?_,rfl⟩⟩;have:=aO.oy (w:=w') (F:=F) (cs:=A9) (vs:=z.cells.toList) (by rw[<-(A1 w' F).1];simpa using N.symm) (λv A=>I v (by simpa using A)) (A1 w' F).2;simpa using this
 ·rename_i z0 y AU;obtain⟨z,A',N,I,Y⟩:=oA y w;obtain⟨u,hu⟩:∃u,z.cells=#[u]:=by
   have:z.cells.size=1:=N;exact⟨z.cells[0],by apply Array.ext<;>simp_all⟩
  have E:∀w' F,aO w' F d u:=λw' F=>toD1_rel (φ:=λ_=>none) h (Y _ _ _ 0 z0 u (by simp) (by simp[hu]));have AG:cA u=true:=I u (by simp[hu]);refine⟨z,A',by rw[hu,<-(E w (λ_=>False)).size,dW AG],I,λw' F=>⟨u,E w' F,by rw[dW AG,hu]⟩⟩
 ·cases h
def cm(w:World)(F:Nat->Prop)(sz:Nat)(ai:List D)(cs:List Value):Prop:=
 cs.length=ai.length*sz/\(∀v∈cs,cA v=true)/\(∀d∈ai,d.size=sz)/\∀(i:Nat) d,ai[i]?=some d->∃v,aO w F d v/\∀(j:Nat) c,v.cells[j]?=some c->cs[i*sz+j]?=some c
theorem vY{sz:Nat}{w:World}{F:Nat->Prop}{d:D}{v:Value}(h:aO w F d v)(Z:d.size=sz){j:Nat}{c:Value}(H:v.cells[j]?=some c):j<sz:=by
 have I:=h.size;have:=(ad1.1 H).1;omega
theorem cm.append{w F sz xs AA cs AH}(h:cm w F sz xs cs)(AX:cm w F sz AA AH):cm w F sz (xs++AA) (cs++AH):=by
 obtain⟨V,a2,a3,a4⟩:=h;obtain⟨AY,AZ,A_,Aa⟩:=AX;refine⟨by simp[V,AY,aeq],?_,?_,?_⟩
 ·intro v A;rcases ab3.1 A with A|A;exact a2 v A;exact AZ v A
 ·intro v A;rcases ab3.1 A with A|A;exact a3 v A;exact A_ v A
 ·intro i d E;by_cases hi:i<xs.length
  ·rw[abW hi]at E;obtain⟨v,A,T⟩:=a4 i d E;refine⟨v,A,λj c H=>?_⟩;have A5:=vY A (a3 d (abU E)) H;rw[abW]
   ·exact T j c H
   ·rw[V];have:i*sz+sz<=xs.length*sz:=by rw[<-ahv];exact ab0 _ hi
    omega
  ·rw[ab1 (by omega)]at E;obtain⟨v,A,T⟩:=Aa _ d E;refine⟨v,A,λj c H=>?_⟩;have e:xs.length*sz+(i-xs.length)*sz=i*sz:=by rw[<-aeq];congr 1;omega
   rw[ab1 (by rw[V];omega),V,show i*sz+j-xs.length*sz=(i-xs.length)*sz+j by omega];exact T j c H
theorem cm.take{w F sz xs cs}(h:cm w F sz xs cs)(n:Nat)(AI:n<=xs.length):cm w F sz (xs.take n) (cs.take (n*sz)):=by
 obtain⟨V,a2,a3,a4⟩:=h;have hle:n*sz<=xs.length*sz:=ab0 _ AI;refine⟨by simp only[ae3,V];rw[ame AI,ame hle],λv A=>a2 v (adV A),λv A=>a3 v (adV A),?_⟩;intro i d E;rw[abZ]at E;split at E
 ·rename_i hi;obtain⟨v,A,T⟩:=a4 i d E;refine⟨v,A,λj c H=>?_⟩;have A5:=vY A (a3 d (abU E)) H;have:i*sz+sz<=n*sz:=by rw[<-ahv];exact ab0 _ hi
  rw[abZ,abT (by omega)];exact T j c H
 ·cases E
theorem cm.drop{w F sz xs cs}(h:cm w F sz xs cs)(n:Nat):cm w F sz (xs.drop n) (cs.drop (n*sz)):=by
 obtain⟨V,a2,a3,a4⟩:=h;refine⟨by simp[V,Nat.sub_mul],λv A=>a2 v (adM A),λv A=>a3 v (adM A),?_⟩;intro i d E;rw[adY]at E;obtain⟨v,A,T⟩:=a4 _ d E;refine⟨v,A,λj c H=>?_⟩;rw[adY,show n*sz+(i*sz+j)=(n+i)*sz+j by rw[aeq];omega];exact T j c H
theorem cm.mono{w F w' F' sz xs cs}(h:cm w F sz xs cs)(hm:∀x v,aO w F x v->aO w' F' x v):cm w' F' sz xs cs:=
 ⟨h.1,h.2.1,h.2.2.1,λi d E=>let ⟨v,A,M⟩:=h.2.2.2 i d E;⟨v,hm _ _ A,M⟩⟩
theorem cm.nil(w F sz):cm w F sz [] []:=⟨by simp,by simp,by simp,by simp⟩
theorem s8{φ w F}{L:Loc}{ai:List D}{pre cs rest:List Value}{sz:Nat}{elem:TypeId}(N:L.sz=sz)(U:cm w F sz ai cs)(Ab:pre.length=L.base)(q:∀v∈pre,cA v=true)(I:∀v∈rest,cA v=true)
 (A3:ai.length<=L.cap) (A1:(cs++rest).length=L.cap*sz) (hh:0<L.cap->eJ w L.dw (pre++(cs++rest)).toArray elem):dX φ w F L (.vec sz ai):=by
 obtain⟨V,a2,a3,a4⟩:=U;subst N;refine⟨rfl,A3,a3,λM=>⟨_,elem,hh M,by simp only[aem,acg]at A1⊢;omega,?_,?_⟩⟩
 ·intro v A;simp at A;rcases A with A|A|A
  ·exact q v A
  ·exact a2 v A
  ·exact I v A
 ·intro i d E;obtain⟨v,A,T⟩:=a4 i d E;refine⟨v,A,λj c H=>?_⟩;have A5:=vY A (a3 d (abU E)) H;have AB:i<ai.length:=(abM.1 E).1;have:i*L.sz+L.sz<=ai.length*L.sz:=by rw[<-ahv];exact ab0 _ AB
  rw[aeG,ab1 (by omega),Ab,show L.base+i*L.sz+j-L.base=i*L.sz+j by omega,abW (by rw[V];omega)];exact T j c H
theorem vd{φ w F}{L:Loc}{ai:List D}{cs rest:List Value}{sz:Nat}{elem:TypeId}(N:L.sz=sz)(A4:L.base=0)(U:cm w F sz ai cs)(I:∀v∈rest,cA v=true)
 (A3:ai.length<=L.cap) (A1:(cs++rest).length=L.cap*sz) (hh:0<L.cap->eJ w L.dw (cs++rest).toArray elem):dX φ w F L (.vec sz ai):=
 s8 (pre:=[]) N U (by simp[A4]) (by simp) I A3 A1 hh
theorem nF{φ w F}{L:Loc}{ai:List D}{sz:Nat}(h:dX φ w F L (.vec sz ai))(M:0<L.cap):∃(arr:Array Value)(elem:TypeId),eJ w L.dw arr elem/\arr.size=L.base+L.cap*sz/\
 (∀v∈arr,cA v=true)/\cm w F sz ai ((arr.toList.drop L.base).take (ai.length*sz)):=by
 obtain⟨Z,A3,AJ,A6⟩:=h;obtain⟨arr,elem,hh,N,I,Y⟩:=A6 M;subst Z;refine⟨arr,elem,hh,N,I,?_,λv A=>I v (by simpa using adM (adV A)),AJ,?_⟩
 ·simp only[ae3,aeo,ace,N];exact ame (by rw[Nat.add_sub_cancel_left];exact ab0 _ A3)
 ·intro i d E;obtain⟨v,A,T⟩:=Y i d E;refine⟨v,A,λj c H=>?_⟩;have A5:=vY A (AJ d (abU E)) H;have AB:i<ai.length:=(abM.1 E).1;have:i*L.sz+L.sz<=ai.length*L.sz:=by rw[<-ahv];exact ab0 _ AB
  rw[abZ,abT (by omega),adY,<-adN];simpa using T j c H
theorem HS{w F}{xs:List D}{ao:Option Addr}{m cap sz:Nat}(h:aO w F (.list xs) (.slice ao m cap))(Z:∀d∈xs,d.size=sz):
 m=xs.length/\∃cs,cm w F sz xs cs/\(xs≠[]->∃b off,ao=some ⟨b,off,none⟩/\b<w.heap.size/\¬F b/\∀(j:Nat) v,cs[j]?=some v->w.cell? ⟨b,off+j,none⟩=some v):=by
 generalize A0:D.list xs=x at h;generalize A:Value.slice ao m cap=v at h;cases h with
 |nil a c=>
  simp at A0 A;subst A0;exact⟨by simp[A.2.1],[],cm.nil ..,λh=>absurd rfl h⟩
 |list AA b off Af J vs A3 A4 Ac N AC M=>
  simp at A0 A;obtain⟨rfl,rfl,rfl⟩:=A;subst A0;refine⟨rfl,?_⟩
  --Ag cells,row by row
  have AD:xs≠[]->J=sz:=λA7=>by
   cases xs with
   |nil=>exact absurd rfl A7
   |cons d r=>rw[<-N d (by simp),Z d (by simp)]
  by_cases A7:xs=[]
  ·subst A7;exact⟨[],cm.nil ..,λh=>absurd rfl h⟩
  have AD:=AD A7;subst AD;have A6:∀(i j:Nat),i<xs.length->j<J->∃c,(vs i).cells[j]?=some c/\w.cell? ⟨b,off+(i*J+j),none⟩=some c/\cA c=true:=by
   intro i j hi H;have I:=AC i xs[i] (by simp[hi]);have O:=I.size;rw[Z _ (aep hi)]at O;have AK:j<(vs i).cells.size:=by omega
   refine⟨(vs i).cells[j],by simp[AK],?_,I.cells.2.1 _ (by simp)⟩;have:=M i j _ hi (show (vs i).cells[j]?=some (vs i).cells[j] by simp[AK]);rw[<-adN];exact this
  refine⟨(List.range (xs.length*J)).map (λj=>(w.cell? ⟨b,off+j,none⟩).getD undef),⟨by simp,?_,Z,?_⟩,λ_=>⟨b,off,rfl,A4,Ac,?_⟩⟩
  ·intro v A;simp only[ab4,adF]at A;obtain⟨j,H,rfl⟩:=A;have AE:0<J:=by rcases amo J with q|q;simp[q]at H;exact q
   obtain⟨c,_,O,Ad⟩:=A6 (j/J) (j%J) (Nat.div_lt_of_lt_mul (by rw[Nat.mul_comm];exact H)) (Nat.mod_lt _ AE);rw[Nat.mul_comm,Nat.div_add_mod]at O;simp[O,Ad]
  ·intro i d E;have hi:i<xs.length:=(abM.1 E).1;refine⟨vs i,AC i d E,λj c H=>?_⟩;have A5:=vY (AC i d E) (Z d (abU E)) H;obtain⟨Ah,I,O,_⟩:=A6 i j hi A5;rw[H]at I;cases I;have:i*J+J<=xs.length*J:=by rw[<-ahv];exact ab0 _ hi
   simp[O,show i*J+j<xs.length*J by omega]
  ·intro j v A;simp only[adK,abS]at A;obtain⟨k,A2,rfl⟩:=A;have H:j<xs.length*J:=by
    rcases Nat.lt_or_ge j (xs.length*J)with h|h
    ·exact h
    ·simp[afa (l:=List.range (xs.length*J)) (by simpa using h)]at A2
   simp[H]at A2;subst A2;have AE:0<J:=by rcases amo J with q|q;simp[q]at H;exact q
   obtain⟨c,_,O,_⟩:=A6 (j/J) (j%J) (Nat.div_lt_of_lt_mul (by rw[Nat.mul_comm];exact H)) (Nat.mod_lt _ AE);rw[Nat.mul_comm,Nat.div_add_mod]at O;simp[O]
 |_=>simp at A0
def gJ(m:Mem)(sz:Nat):AV->Option (Bool×List D)
 | .d (.list H)=>some (true,H)
 | .d (.str s)=>some (sz=1,s.map λb=>.int .u8 b.toNat)
 | .lit (.slice none 0 0)=>some (true,[])
 | .nn=>some (true,[])
 | .vec k ak off len=>match Mem.get m k with
  |some ⟨_,v,.vec _ ai⟩=>some (v=ak/\off+len<=ai.length,(ai.drop off).take len)
  |_=>none
 |_=>none
structure Hs(P:Program)(w:World)(F:Nat->Prop)(sz:Nat)(H:List D)(x:Value)(J:List Value):Prop where
 len:∀w',(Builtin.lenOf x).run P w'=.ok H.length w'
 SV:∀n,n<=H.length->∀w',(∀b,b<w.heap.size->w'.heap[b]?=w.heap[b]?)->(Builtin.firstCells sz n x).run P w'=.ok (J.take (n*sz)).toArray w'
 ai:cm w F sz H J
theorem Hs.first{P w F sz H x J}(h:Hs P w F sz H x J)(w':World)(hw:∀b,b<w.heap.size->w'.heap[b]?=w.heap[b]?):(Builtin.firstCells sz H.length x).run P w'=.ok J.toArray w':=by
 rw[h.SV _ (abO _) w' hw,aej (by rw[h.ai.1];exact abO _)]
theorem HT{P:Program}{S:St}{φ G w}(hm:bh φ G S.mem w){x:AV}{v:Value}(N:aB φ w (Fo G φ S.mem) x v){c H}{sz:Nat}(E:gJ S.mem sz x=some (c,H))(U:c=true)(Z:∀d∈H,d.size=sz):
 ∃J,Hs P w (Fo G φ S.mem) sz H v J:=by
 unfold gJ at E;split at E
 ·rename_i A';simp at E;obtain⟨_,rfl⟩:=E;cases N with
  |d _ _ h=>
   have V:∃ao m cap,v=.slice ao m cap:=by cases h<;>exact⟨_,_,_,rfl⟩
   obtain⟨ao,m,cap,rfl⟩:=V;obtain⟨rfl,cs,M,A5⟩:=HS h Z;refine⟨cs,⟨λw'=>by simp[Builtin.lenOf],λn I w' hw=>?_,M⟩⟩;by_cases A0:A'=[]
   ·subst A0;have:cs=[]:=ab8 (by simpa using M.1);subst this;have O:n=0:=by simpa using I
    subst O;cases ao with
    |none=>simp[Builtin.firstCells]
    |some a=>simp[Builtin.firstCells,loadCells,loadCellsFrom]
   ·obtain⟨b,off,rfl,T,_,A6⟩:=A5 A0;exact run_firstCells_some (P:=P) w' sz n ⟨b,off,none⟩ A'.length cap _ (M.take n I |>.1.trans (by simp[I])) (λj u A=>by
     rw[fq,j0 (hw b T)];rw[abZ]at A;split at A
     ·exact A6 j u A
     ·cases A)
 ·rename_i s;simp only[abX,adL]at E;obtain⟨rfl,rfl⟩:=E;simp only[abQ]at U;subst U;cases N with
  |d _ _ h=>
   cases h with
   |str b _ T=>
    subst T;have A7:b.size=b.data.toList.length:=by rw[ace];rfl
    refine⟨b.data.toList.map λx=>Value.int .u8 x.toNat,⟨λw'=>by simp only[Builtin.lenOf,List.length_map,<-A7];rfl,λn I w' _=>?_,?_,?_,?_,?_⟩⟩
    ·simp only[Builtin.firstCells,Sem.run_pure];congr 1;apply Array.ext';simp
    ·simp
    ·intro v V;simp only[ab4]at V;obtain⟨y,_,rfl⟩:=V;rfl
    ·exact Z
    ·intro i d A1;simp only[adK,abS]at A1;obtain⟨y,A8,rfl⟩:=A1;refine⟨.int .u8 y.toNat,.int _ _,λj c A=>?_⟩;cases j with
     |zero=>simp only[Value.cells]at A;simp at A;subst A;simp only[adK,amm,agR,A8];rfl
     |succ j=>simp[Value.cells]at A
 ·simp at E;obtain⟨_,rfl⟩:=E;cases N with
  |lit=>exact⟨[],⟨λw'=>by simp[Builtin.lenOf],λn _ w' _=>by simp[Builtin.firstCells],cm.nil ..⟩⟩
 ·simp at E;obtain⟨_,rfl⟩:=E;cases N with
  |nn a cap=>exact⟨[],⟨λw'=>by simp[Builtin.lenOf],λn I w' _=>by
   have O:n=0:=by simpa using I
   subst O;simp[Builtin.firstCells,loadCells,loadCellsFrom],cm.nil ..⟩⟩
 ·rename_i k ak off len;split at E
  ·rename_i key AK q ai A9;simp only[abX,adL]at E;obtain⟨rfl,rfl⟩:=E;simp only[abQ]at U;obtain⟨rfl,hle⟩:=U;obtain⟨AL,AM,L,AA,AB,A2⟩:=hm.get A9;have AC:((ai.drop off).take len).length=len:=by simp;omega
   cases N with
   |vec _ _ _ _ _ L' A3 _ h AD=>
    rw[AA]at A3;cases A3;obtain⟨ao,cap,rfl,AN,AE⟩:=h AB.symm;clear h AD;by_cases AF:len=0
    ·subst AF;refine⟨[],⟨λw'=>by simp[Builtin.lenOf],λn I w' _=>?_,by simpa using cm.nil ..⟩⟩;have O:n=0:=by simpa using I
     subst O;cases ao with
     |none=>simp[Builtin.firstCells]
     |some a=>simp[Builtin.firstCells,loadCells,loadCellsFrom]
    ·obtain⟨rfl,AO⟩:=AE (by omega);obtain⟨arr,elem,hh,AP,AQ,M⟩:=nF A2 (by omega);have AG:q=sz:=by
      have Y:0<((ai.drop off).take len).length:=by omega
      have AH:=Z (((ai.drop off).take len)[0]'Y) (aep Y)
      have AI:=M.2.2.1 (((ai.drop off).take len)[0]'Y) (adM (adV (aep Y)))
      rw[<-AH,<-AI]
     subst AG;have AJ:L.sz=q:=A2.1;have A4:=(M.drop off).take len (by simp;omega);refine⟨_,⟨λw'=>by simp[Builtin.lenOf,AC],λn I w' hw=>?_,A4⟩⟩;have T:L.dw<w.heap.size:=hh.lt;exact run_firstCells_some (P:=P) w' q n ⟨L.dw,L.base+off*L.sz,none⟩ len cap _ ((A4.take n I).1.trans (by rw[ae3,ame I])) (λj u A=>by
      rw[fq,j0 (hw L.dw T),gz hh,AJ];rw[abZ]at A;split at A
      ·rw[abZ]at A;split at A
       ·rw[adY,abZ]at A;split at A
        ·rw[adY]at A;rw[adN];simpa using A
        ·cases A
       ·cases A
      ·cases A)
  ·cases E
 ·cases E
section
variable {P:Program}
def eO(P:Program)(u:TypeId):Bool:=
 match P.underlying u with
 |some (.slice _)=>true
 |some .string=>true
 |_=>false
theorem zb{u:TypeId}(h:eO P u=true):(∃e,P.underlying u=some (.slice e))\/P.underlying u=some .string:=by
 unfold eO at h;split at h
 ·rename_i e T;exact .inl ⟨e,T⟩
 ·rename_i T;exact .inr T
 ·cases h
structure Fa(P:Program)(w:World)(F:Nat->Prop)(u:TypeId)(sz:Nat)(z:Value)(A:List D)(x:Value)(I:List Value):Prop where
 ai:cm w F sz A I
 kind:(eO P u=true/\Hs P w F sz A x I)\/((∃k,P.underlying u=some (.int k))/\(∃AU,x=.int AU A.length)/\A.length<=4611686018427387904/\z.cells.size=sz/\I=(Builtin.zeroCells z.cells A.length).toList)
theorem HV{n:Nat}(h:n<=4611686018427387904):IntKind.i64.wrap (n:Int)=(n:Int):=IntWalk.i64_in _ (by omega)
theorem vZ{z:Array Value}{n:Nat}(h:n*z.size=0):Builtin.zeroCells z n=#[]:=by
 apply Array.eq_empty_of_size_eq_zero;rw[size_zeroCells];exact h
theorem qW{w:World}{t u ty e:TypeId}{i:TypeInfo}{z:Value}(Z:P.underlying t=some (.slice e))(hi:P.info? e=some i)(O:i.zero=some z)
 {ao:Option Addr} {len cap:Nat} {F x I} (H:Fa P w F u i.size z [] x I) (hle:len<=cap):
 (Builtin.append_ #[t,u] ty #[.slice ao len cap,x]).run P w=.ok (.slice ao len cap) w:=by
 rcases H.kind with ⟨hu,H⟩|⟨⟨k,T⟩,⟨AU,rfl⟩,_,A8,rfl⟩
 ·have U:I=[]:=ab8 (by simpa using H.ai.1);subst U;have BG:=H.len w;have AW:=H.first w (λ_ _=>rfl);simp only[aeI]at BG AW;rcases zb hu with ⟨AX,T⟩|T<;>cases ao<;>
   simp[Builtin.append_,run_underlying Z,run_underlying T,sizeOf,typeInfo,hi,BG,AW,hle,storeCells]
 ·have w0:=HV (n:=0) (by omega);simp only[Int.ofNat_zero,Int.natCast_zero]at w0;cases ao<;>simp[Builtin.append_,run_underlying Z,run_underlying T,sizeOf,typeInfo,hi,w0,asInt,asIntOf,hle,storeCells]
theorem run_append_fits{w:World}{t u ty e:TypeId}{i:TypeInfo}{z:Value}(Z:P.underlying t=some (.slice e))(hi:P.info? e=some i)(O:i.zero=some z)
 {g b len cap:Nat} {F A x I} (H:Fa P w F u i.size z A x I) {cur:Array Value} {e':TypeId} (AL:eJ w g cur e')
 (A':len+A.length<=cap) (Av:b+len*i.size+I.length<=cur.size) (Bc:A.length*i.bytes<=140737488355328):
 (Builtin.append_ #[t,u] ty #[.slice (some ⟨g,b,none⟩) len cap,x]).run P w=.ok (.slice (some ⟨g,b,none⟩) (len+A.length) cap) (w.setRow g (bk cur.toList (b+len*i.size) I).toArray):=by
 obtain⟨Bd,AL,Be⟩:=AL;have AY:=jI (P:=P) g (b+len*i.size) e' Bd I 0 cur w AL Be (by simpa using Av) (λx AA=>oh (H.ai.2.1 x AA));simp only[agR]at AY;rw[dh _ _ _ (by simpa using Av)];rcases H.kind with ⟨hu,H⟩|⟨⟨k,T⟩,⟨AU,rfl⟩,Aw,A8,rfl⟩
 ·have AW:=H.first w (λ_ _=>rfl);rcases zb hu with ⟨AX,T⟩|T<;>simp[Builtin.append_,run_underlying Z,run_underlying T,sizeOf,typeInfo,hi,H.len,A',AW,fq,AY]
 ·have wn:=HV Aw;have A1:¬((A.length:Int)<0):=by omega
  have A5:¬(281474976710656<(A.length:Int)*(i.bytes:Int)):=by
   have:(A.length:Int)*(i.bytes:Int)=((A.length*i.bytes:Nat):Int):=by simp
   rw[this];omega
  by_cases A2:A.length*i.size=0
  ·have Ax:=vZ (z:=z.cells) (n:=A.length) (by rw[A8];exact A2);rw[Ax]at AY⊢;simp only[Array.toList_empty]at AY;simp[Builtin.append_,run_underlying Z,run_underlying T,sizeOf,typeInfo,hi,wn,asInt,asIntOf,A1,A5,A2,A',fq,AY]
  ·simp[Builtin.append_,run_underlying Z,run_underlying T,sizeOf,typeInfo,zeroValue,hi,O,wn,asInt,asIntOf,A1,A5,A2,A',fq,AY]
theorem s9{w:World}{t u ty e:TypeId}{i:TypeInfo}{z:Value}(Z:P.underlying t=some (.slice e))(hi:P.info? e=some i)(O:i.zero=some z)
 {ao:Option Addr} {len cap:Nat} {F A x I} (H:Fa P w F u i.size z A x I) (A3:List Value)
 (hold:∀w',w'.heap=w.heap->(Builtin.firstCells i.size len (.slice ao len cap)).run P w'=.ok A3.toArray w')
 (A':cap<len+A.length) (CE:len+A.length<=9223372036854775807) (Av:Builtin.nextslicecap (len+A.length) cap*i.bytes<=281474976710656) (Bc:A.length*i.bytes<=140737488355328):
 (Builtin.append_ #[t,u] ty #[.slice ao len cap,x]).run P w=
  .ok (.slice (some ⟨w.heap.size,0,none⟩) (len+A.length) (grownCap w (len+A.length) cap e))
   (w.drew.alloc (.cells (A3.toArray++I.toArray++Builtin.zeroCells z.cells (grownCap w (len+A.length) cap e-(len+A.length))) e)):=by
 have U:¬(len+A.length<=cap):=by omega
 have Ay:¬(9223372036854775807<((len:Int)+(A.length:Int))):=by omega
 have Az:¬(281474976710656<Builtin.nextslicecap (len+A.length) cap*i.bytes):=by omega
 have B':=hold w.drew rfl;rcases H.kind with ⟨hu,H⟩|⟨⟨k,T⟩,⟨AU,rfl⟩,Aw,A8,rfl⟩
 ·have AW:=H.first w.drew (λ_ _=>rfl);rcases zb hu with ⟨AX,T⟩|T<;>
   (simp[Builtin.append_,run_underlying Z,run_underlying T,sizeOf,typeInfo,zeroValue,hi,O,H.len,U,Ay,Az,Question.forced,AW,B',ia,grownCap]
    congr 2;apply Array.ext';simp[ahf])
 ·have wn:=HV Aw;have A1:¬((A.length:Int)<0):=by omega
  have A5:¬(281474976710656<(A.length:Int)*(i.bytes:Int)):=by
   have:(A.length:Int)*(i.bytes:Int)=((A.length*i.bytes:Nat):Int):=by simp
   rw[this];omega
  by_cases A2:A.length*i.size=0
  ·have Ax:=vZ (z:=z.cells) (n:=A.length) (by rw[A8];exact A2);rw[Ax];simp[Builtin.append_,run_underlying Z,run_underlying T,sizeOf,typeInfo,zeroValue,hi,O,wn,asInt,asIntOf,A1,A5,A2,U,Ay,Az,Question.forced,B',ia,grownCap]
  ·simp[Builtin.append_,run_underlying Z,run_underlying T,sizeOf,typeInfo,zeroValue,hi,O,wn,asInt,asIntOf,A1,A5,A2,U,Ay,Az,Question.forced,B',ia,grownCap]
end
theorem rT{z:Array Value}{n:Nat}(h:∀v∈z,cA v=true):∀v∈Builtin.zeroCells z n,cA v=true:=by
 intro v V;simp only[Builtin.zeroCells,Array.mem_map,Array.mem_range]at V;obtain⟨i,hi,rfl⟩:=V;have BH:0<z.size:=by
  rcases amo z.size with A2|A2
  ·simp[A2]at hi
  ·exact A2
 have B0:i%z.size<z.size:=Nat.mod_lt _ BH;rw[getElem!_pos z _ B0];exact h _ (by simp)
theorem aci{P:Program}{t:TypeId}{k}(h:tk P t=.int k):P.underlying t=some (.int k):=by
 unfold tk at h;split at h<;>simp_all
def PG(M:D):AV->Option (Bool×List D)
 | .d (.int _ n)=>some (decide (0<=n)&&decide (n<=4611686018427387904),List.replicate n.toNat M)
 |_=>none
def WH(b:Bool):Option (Bool×List D)->Option (Bool×List D)
 |some (c,A)=>some (c&&b,A)
 |none=>none
def zc(P:Program)(m:Mem)(sz:Nat)(M:D)(u:TypeId)(x:AV):Option (Bool×List D):=
 match tk P u with
 | .int _=>PG M x
 |_=>WH (eO P u) (gJ m sz x)
theorem cm.ai5{w:World}{F:Nat->Prop}{z:Array Value}{sz:Nat}{M:D}(AK:∀v∈z,cA v=true)(A8:z.size=sz)(T:M.size=sz)(V:∃v,aO w F M v/\v.cells=z)(n:Nat):
 cm w F sz (List.replicate n M) (Builtin.zeroCells z n).toList:=by
 refine⟨by simp[size_zeroCells,A8],λv V=>rT AK v (by simpa using V),λd Bf=>by rw[(List.mem_replicate.1 Bf).2];exact T,λi d hi=>?_⟩;obtain⟨BI,rfl⟩:=abM.1 hi;obtain⟨v,A1,A5⟩:=V;refine⟨v,by simpa using A1,λj c N=>?_⟩;have B1:j<z.size:=by rw[<-A5];exact (ad1.1 N).1
 simp at BI;have B0:i*sz+j<n*z.size:=by
  rw[A8];have:i*sz+sz<=n*sz:=by rw[<-ahv];exact ab0 _ BI
  omega
 simp only[Builtin.zeroCells,afk,Array.getElem?_map,Array.getElem?_range];rw[abT B0];simp only[ahj];have e:(i*sz+j)%z.size=j:=by rw[<-A8,Nat.mul_comm,Nat.mul_add_mod,Nat.mod_eq_of_lt B1]
 rw[e,getElem!_pos z j B1,<-N,A5];simp[B1]
theorem LQ{P:Program}{S:St}{φ G w}(hm:bh φ G S.mem w){u:TypeId}{i:TypeInfo}{z:Value}{M:D}(AK:∀v∈z.cells,cA v=true)(A8:z.cells.size=i.size)(Ao:M.size=i.size)(Bg:∃v,aO w (Fo G φ S.mem) M v/\v.cells=z.cells)
 {x:AV} {v:Value} (AA:aB φ w (Fo G φ S.mem) x v) {c A} (H:zc P S.mem i.size M u x=some (c,A)) (AC:c=true) (B2:∀d∈A,d.size=i.size):
 ∃I,Fa P w (Fo G φ S.mem) u i.size z A v I:=by
 unfold zc at H;split at H
 ·rename_i k AD;unfold PG at H;split at H
  ·rename_i AU n;cases H;simp only[Ds,abQ]at AC;cases AA with
   |d _ _ AA=>
    cases AA;have U:((List.replicate n.toNat M).length:Int)=n:=by simp;omega
    refine⟨_,cm.ai5 AK A8 Ao Bg n.toNat,.inr ⟨⟨k,aci AD⟩,⟨AU,by rw[U]⟩,by simp;omega,A8,by simp⟩⟩
  ·cases H
 ·rename_i AD;cases J:gJ S.mem i.size x with
  |none=>rw[J]at H;cases H
  |some y=>
   obtain⟨CF,CG⟩:=y;rw[J]at H;cases H;simp only[Ds]at AC;obtain⟨I,U⟩:=HT (P:=P) hm AA J AC.1 B2;exact⟨I,U.ai,.inl ⟨AC.2,U⟩⟩
def xf(P:Program)(m:Mem)(u:TypeId)(sz AM:Nat)(M:D)(s x:AV):du:=
 match s,x with
 | .vec k ak off len,.vec BJ BK 0 1=>match Mem.get m k,Mem.get m BJ with
  |some ⟨_,v,.vv ai none⟩,some ⟨_,BL,.box [.lit (.slice none 0 0)]⟩=>
   .dg (eO P u=true/\BL=BK/\v=ak/\sz=1/\M.size=1/\off+len<=ai.length/\(len+1)*AM<=140737488355328/\len+1<=4611686018427387904) (.vec k (ak+1) 0 (len+1)) ⟨k,ak+1,.vv ((ai.drop off).take len++[[]]) none⟩
  |_,_=>.no
 |_,_=>.no
theorem HW{φ φ':bN}{w w':World}{F F':Nat->Prop}{L:Loc}{ai:List (List D)}(h:kr φ w F L ai none){off len:Nat}(hle:off+len<=ai.length)
 (L':Loc) (O:L'.sz=1) (H:L'.cZ=(L.cZ.drop off).take len++[none]) (B3:len+1<=L'.cap) (E:∀b,some b∈L.cZ->b≠L'.dw) {AZ:Array Value} {BM:TypeId} (J:eJ w' L'.dw AZ BM) (B2:AZ.size=L'.base+L'.cap) (A1:∀v∈AZ,cA v=true)
 (hold:∀i,i<len->∃(arr:Array Value)(elem:TypeId),0<L.cap/\eJ w L.dw arr elem/\AZ[L'.base+i]?=arr[L.base+off+i]?) (Ae:AZ[L'.base+len]?=some (.slice none 0 0))
 (T:∀d u,aO w F d u->aO w' F' d u) (hw:∀b,some b∈L.cZ->w'.heap[b]?=w.heap[b]?):kr φ' w' F' L' ((ai.drop off).take len++[[]]) none:=by
 obtain⟨⟨g1,g2,g3⟩,g4,g5,g6⟩:=h;have BN:((ai.drop off).take len).length=len:=by simp;omega
 have BO:((L.cZ.drop off).take len).length=len:=by simp;omega
 have Bh:∀b,some b∈L'.cZ->some b∈L.cZ:=by
  intro b E;rw[H]at E;rcases ab3.1 E with E|E
  ·exact adM (adV E)
  ·simp at E
 have BP:∀(i b:Nat),L'.cZ[i]?=some (some b)->i<len/\L.cZ[off+i]?=some (some b):=by
  intro i b E;rw[H]at E;by_cases hi:i<len
  ·rw[abW (by omega),abZ,abT hi,adY]at E;exact⟨hi,E⟩
  ·rw[ab1 (by omega),BO]at E;cases BQ:i-len with
   |zero=>rw[BQ]at E;simp at E
   |succ n=>rw[BQ]at E;simp at E
 refine⟨⟨O,by simp;omega,by rw[H];simp;omega⟩,λi j b hi N=>?_,λb Bi=>⟨by omega,E b (Bh b Bi)⟩,λ_=>?_⟩
 ·have A5:=g4 (off+i) (off+j) b (BP i b hi).2 (BP j b N).2;omega
 ·refine⟨AZ,BM,J,B2,A1,λi xs o hi A9=>?_,λx AA=>by cases AA⟩;by_cases B4:i<len
  ·rw[abW (by omega),abZ,abT B4,adY]at hi;rw[H,abW (by omega),abZ,abT B4,adY]at A9;obtain⟨arr,elem,A4,Bj,hold⟩:=hold i B4;obtain⟨Bk,CH,q1,q2,q3,Bl,_⟩:=g6 A4;have Bm:Bk=arr:=by
    obtain⟨f1,Bn,_⟩:=q1;obtain⟨f2,AX,_⟩:=Bj;rw[Bn]at AX;simp only[abX,Obj.cells.injEq]at AX;exact AX.1
   subst Bm;rw[hold,adN];exact (Bl (off+i) xs o hi A9).mono (λd u _ Bo=>T d u Bo) (λb e=>hw b (by subst e;exact abU A9))
  ·have Bp:i=len:=by
    have:=(abM.1 hi).1;simp only[acg,aeu,BN]at this;omega
   subst Bp;rw[ab1 (by omega),BN]at hi;rw[H,ab1 (by omega),BO]at A9;simp at hi A9;subst hi;subst A9;exact⟨rfl,none,Ae⟩
theorem acj(P:Program)(S:St)(o:Oper)(s x:Operand)(t u:TypeId)(A9:o.op=.call {callee:=.builtin .append,args:=#[s,x],argTypes:=#[t,u]})
 (H:(S.aq s).1=true) (AA:(S.aq x).1=true) {e:TypeId} (Z:P.underlying t=some (.slice e)) {i:TypeInfo} {z:Value} (hi:P.info? e=some i) (O:i.zero=some z) {M:D} (A_:z.cells.size=M.size) (AK:∀v∈z.cells,cA v=true):
 aG P S o (xf P S.mem u i.size i.bytes M (S.aq s).2 (S.aq x).2):=by
 have AE:∀(a:Act)(w w':World)(v:Value),(Builtin.append_ #[t,u] o.type #[a.eval s,a.eval x]).run P w=.ok v w'->(execOp a.eval o).run P w=.ok (.value v) w':=by
  intro a w w' v h;simp[execOp,A9,resolve,invoke,builtin,h]
 unfold xf;split
 ·rename_i k ak off len BJ BK Af Ag;split
  ·rename_i key v ai CI BL AL Bq;refine aG.rR ?_;rintro ⟨Ap,rfl,rfl,Aa,A8,hle,E,AQ⟩ φ G a w J;obtain⟨hm,AD,L,A4,A0,A6⟩:=J.mem.get AL;simp only at AD A0 A6;subst AD;obtain⟨CJ,BR,B5,Br,BS,⟨Bs,Bt,CK⟩,Aq,CL,BT,Bu,_,Bv⟩:=J.mem.get Bq;simp only at BR BS;subst BR;have V:=J.aq s H;have B6:=J.aq x AA;rw[Af]at V;rw[Ag]at B6;have Bw:Aq[0]?=some (.slice none 0 0):=by
    have A2:0<Aq.size:=by rw[Bu];simp
    have:=Bv 0 _ Aq[0] rfl (by simp[A2]);generalize Y:Aq[0]=q at this;cases this;simp[A2,Y]
   generalize hex:a.eval x=CM at B6;cases B6 with
   |vec _ _ _ _ _ L' AN _ h _=>
    rw[Br]at AN;cases AN;obtain⟨CN,BU,rfl,CO,Bx⟩:=h BS.symm;clear h;obtain⟨rfl,_⟩:=Bx (by omega);have A7:Fa P w (Fo G φ S.mem) u i.size z [.list []] (.slice (some ⟨B5.dw,B5.base+0*B5.sz,none⟩) 1 BU) [.slice none 0 0]:=by
     have Ah:cm w (Fo G φ S.mem) i.size [.list []] [.slice none 0 0]:=by
      refine⟨by simp[Aa],by simp[cA],by simp[Aa,D.size],λn d U=>?_⟩;cases n with
      |zero=>simp at U;subst U;exact⟨.slice none 0 0,.nil none 0 (λ_=>rfl),λj c N=>by simpa [Value.cells]using N⟩
      |succ n=>simp at U
     refine⟨Ah,.inl ⟨Ap,λw'=>by simp[Builtin.lenOf],λn U w' Ab=>?_,Ah⟩⟩;refine run_firstCells_some (P:=P) w' i.size n _ 1 BU _ (by have:n<=1:=U;simp[Aa];omega) (λj c N=>?_);rw[fq,j0 (Ab _ BT.lt),gz BT,Bs,Bt];rw[abZ]at N;split at N
     ·cases j with
      |zero=>simp at N;subst N;simpa using Bw
      |succ j=>simp at N
     ·cases N
    generalize AB:a.eval s=BV at V;cases V with
    |vec _ _ _ _ _ L' AN _ h _=>
     rw[A4]at AN;cases AN;obtain⟨ao,cap,rfl,BW,Ac⟩:=h A0.symm;clear h;have BX:∀b,some b∈L.cZ->b<w.heap.size:=λb E=>J.mem.De ⟨_,hm,L,A4,.inr E⟩;have By:∀b,some b∈(L.cZ.drop off).take len++[none]->some b∈L.cZ:=by
      intro b E;rcases ab3.1 E with E|E
      ·exact adM (adV E)
      ·simp at E
     have grow:∀(A3:List Value),A3.length=len->(∀q∈A3,cA q=true)->(∀n,n<len->∃(arr:Array Value)(elem:TypeId),0<L.cap/\eJ w L.dw arr elem/\A3[n]?=arr[L.base+off+n]?)->
      (∀w',w'.heap=w.heap->(Builtin.firstCells i.size len (.slice ao len cap)).run P w'=.ok A3.toArray w')->cap<len+1->
      ∃vv w' φ',Dh P o a w vv w'/\aB φ' w' (Fo G φ' (Mem.set S.mem ⟨key,v+1,.vv ((ai.drop off).take len++[[]]) none⟩)) (.vec key (v+1) 0 (len+1)) vv/\
       bh φ' G (Mem.set S.mem ⟨key,v+1,.vv ((ai.drop off).take len++[[]]) none⟩) w'/\aS φ S.mem w φ' (Mem.set S.mem ⟨key,v+1,.vv ((ai.drop off).take len++[[]]) none⟩) w'/\∀k,k≠key->φ' k=φ k:=by
      intro A3 Ai Bz hold C' A';have B7:=grownCap_ge w (len+1) cap e;have C0:z.cells.size=1:=by rw[A_];exact A8
      have Ar:=s9 (P:=P) (ty:=o.type) Z hi O A7 A3 C' (by simpa using A') (by simp;omega) (growslice_fits (by simpa using A') (by simpa using E)) (by simp;have:=ab0 i.bytes (amp 1 len);omega);simp only[aeu]at Ar;obtain⟨φ',AF,AG,AH,AI⟩:=J.mem.SP (e:=⟨key,v,.vv ai none⟩) hm A4 A0 w.drew rfl rfl rfl rfl
       (A3.toArray++[Value.slice none 0 0].toArray++Builtin.zeroCells z.cells (grownCap w (len+1) cap e-(len+1))) e (.vv ((ai.drop off).take len++[[]]) none)
       ⟨v+1,w.heap.size,1,grownCap w (len+1) cap e,0,(L.cZ.drop off).take len++[none]⟩ rfl
       (λb E=>by
        rcases E with ⟨_,E⟩|E
        ·exact .inr E
        ·exact .inl (.inr (By b E))) (λφ' As B8 AR Ae C1=>by
       refine HW A6 hle _ rfl rfl (by simp only;omega) (λb E=>by have:=BX b E;simp only;omega) (.new Ae) ?_ ?_ ?_ ?_ AR (λb E=>C1 b (BX b E))
       ·simp only[Array.size_append,aem,Ai,aeu,size_zeroCells,C0];omega
       ·intro q Y;simp only[Array.mem_append]at Y;rcases Y with (Y|Y)|Y
        ·exact Bz q (by simpa using Y)
        ·simp at Y;subst Y;rfl
        ·exact rT AK q Y
       ·intro n U;obtain⟨arr,elem,A1,A5,Aj⟩:=hold n U;refine⟨arr,elem,A1,A5,?_⟩;rw[<-Aj];simp only[aeF];rw[ag6 (by simp;omega),ag6 (by simp;omega),aeG]
       ·simp only[aeF];rw[ag6 (by simp;omega),Array.getElem?_append_right (by simp;omega)];simp[Ai])
      refine⟨_,_,φ',.inl (AE a w _ _ (by rw[AB,hex];exact Ar)),?_,AF,AG,AI⟩;exact .vec key (v+1) 0 _ _ _ AH (abO _) (λ_=>⟨_,_,rfl,B7,λ_=>⟨by simp,by simp⟩⟩) rfl
     by_cases Ak:0<L.cap
     ·obtain⟨arr,elem,hh,At,Ad,_,_⟩:=A6.2.2.2 Ak;have BY:∀b,some b∈L.cZ->b≠L.dw:=λb E=>(A6.2.2.1 b E).2;have CP:∀b,some b∈L.cZ->ay.da L (.vv ai none) b:=λb E=>.inr E;have C2:∀b,some b∈(L.cZ.drop off).take len++[none]->some b∈L.cZ:=by
       intro b E;rcases ab3.1 E with E|E
       ·exact adM (adV E)
       ·simp at E
      by_cases A':len+[D.list []].length<=cap
      ·simp only[aeu]at A';obtain⟨rfl,B9⟩:=Ac (by omega);have AO:L.base+off*L.sz+len*i.size+[Value.slice none 0 0].length<=arr.size:=by rw[At,A6.1.1,Aa];simp;omega
       have AS:=run_append_fits (P:=P) (ty:=o.type) Z hi O A7 hh (by simpa using A') AO (by simp;have:=ab0 i.bytes (amp 1 len);omega);have BZ:=AE a w _ _ (by rw[AB,hex];exact AS);rw[A6.1.1,Aa,amm,amm]at BZ AO;have Al:L.base+off+len+[Value.slice none 0 0].length<=arr.toList.length:=by simpa using AO
       obtain⟨φ',AF,AG,AH,AI⟩:=J.mem.HP (e:=⟨key,v,.vv ai none⟩) hm A4 A0 (b0:=L.dw) (.inl ⟨Ak,rfl⟩) (bk arr.toList (L.base+off+len) [Value.slice none 0 0]).toArray ⟨v+1,L.dw,1,L.cap-off,L.base+off,(L.cZ.drop off).take len++[none]⟩ (amn _) (λhh=>by simp only at A0 hh;omega) (.vv ((ai.drop off).take len++[[]]) none)
        (λb E=>by
         rcases E with ⟨_,E⟩|E
         ·exact .inl ⟨Ak,E⟩
         ·exact .inr (C2 b E)) (λφ' As B8 AR=>by
        refine HW A6 hle _ rfl rfl (by simp only;omega) BY (hh.setRow _ (by rw[aem,bQ _ _ _ Al];simp)) ?_ ?_ ?_ ?_ AR ?_
        ·rw[aem,bQ _ _ _ Al];simp only[ace,At];omega
        ·intro q Y;rcases kE Al (by simpa using Y)with Y|Y
         ·exact Ad q (by simpa using Y)
         ·simp at Y;subst Y;rfl
        ·intro n U;refine⟨arr,elem,Ak,hh,?_⟩;simp only
         rw[aeG,gA _ _ _ Al,abT (by omega)];simp
        ·simp only
         rw[aeG,gA _ _ _ Al,abN (by omega),abT (by simp)];simp
        ·intro b E;exact nW w L.dw b _ (BY b E))
       refine⟨_,_,φ',.inl BZ,?_,AF,AG,AI⟩;exact .vec key (v+1) 0 _ _ _ AH (abO _) (λ_=>⟨_,_,rfl,by simpa using A',λ_=>⟨by simp,by simp only;omega⟩⟩) rfl
      ·have C3:cap<len+1:=by simpa using A'
       have BA:=A6.1.2.1;simp only[Option.toList_none,aeI,agR]at BA;refine grow ((arr.toList.drop (L.base+off)).take len) (by simp;omega) (λq Y=>Ad q (by simpa using adM (adV Y))) (λn U=>⟨arr,elem,Ak,hh,?_⟩) (λw' Ab=>?_) C3
       ·rw[abZ,abT U,adY];simp
       ·by_cases AT:len=0
        ·subst AT;cases ao with
         |none=>simp[Builtin.firstCells]
         |some a=>simp[Builtin.firstCells,loadCells,loadCellsFrom]
        ·obtain⟨rfl,B9⟩:=Ac (by omega);refine run_firstCells_some (P:=P) w' i.size len _ len cap _ (by simp[Aa];omega) (λj c N=>?_);rw[fq,j0 (w:=w) (w':=w') (by rw[Ab]),gz hh,A6.1.1,amm];rw[abZ]at N;split at N
         ·rw[adY]at N;simpa using N
         ·cases N
     ·have BA:=A6.1.2.1;simp only[Option.toList_none,aeI,agR]at BA;have AT:len=0:=by omega
      have C4:cap=0:=by
       rcases amo cap with A2|A2
       ·exact A2
       ·have:=(Ac A2).2;omega
      subst AT;subst C4;refine grow [] rfl (by simp) (λn U=>by omega) (λw' Ab=>?_) (by omega);cases ao with
      |none=>simp[Builtin.firstCells]
      |some a=>simp[Builtin.firstCells,loadCells,loadCellsFrom]
  ·trivial
 ·trivial
def rU(P:Program)(m:Mem)(BB:Nat)(t:TypeId)(u:TypeId)(s x:AV):du:=
 match tk P t with
 | .slice e=>match fm P e,y9 P e,mo P e with
  |some sz,some AM,some M=>match zc P m sz M u x with
   |some (c,A)=>match s with
    | .vec k ak off len=>match Mem.get m k with
     |some ⟨_,v,.vec B_ ai⟩=>.dg (c/\M.size=sz/\v=ak/\off+len<=ai.length/\B_=sz/\(∀d∈A,d.size=sz)/\(len+A.length)*AM<=140737488355328/\len+A.length<=4611686018427387904)
      (.vec k (ak+1) 0 (len+A.length)) ⟨k,ak+1,.vec sz ((ai.drop off).take len++A)⟩
     |_=>.no
    | .lit (.slice none 0 0)=>match Mem.get m BB with
     |some ⟨_,v,_⟩=>.dg (c/\M.size=sz/\(∀d∈A,d.size=sz)/\A.length*AM<=140737488355328/\A.length<=4611686018427387904)
      (.vec BB (v+1) 0 A.length) ⟨BB,v+1,.vec sz A⟩
     |_=>.no
    |_=>.no
   |none=>xf P m u sz AM M s x
  |_,_,_=>.no
 |_=>.no
theorem fL{P:Program}{t e:TypeId}(h:tk P t=.slice e):P.underlying t=some (.slice e):=by
 unfold tk at h;split at h<;>simp_all
theorem LR{P:Program}{e:TypeId}{sz AM:Nat}{M:D}(A1:fm P e=some sz)(A5:y9 P e=some AM)(Aj:mo P e=some M):
 ∃i z,P.info? e=some i/\i.size=sz/\i.bytes=AM/\i.zero=some z/\z.cells.size=M.size/\(∀v∈z.cells,cA v=true)/\∀w' F,∃v,aO w' F M v/\v.cells=z.cells:=by
 unfold fm at A1;unfold y9 at A5;cases hi:P.info? e with
 |none=>simp[hi]at A1
 |some i=>
  simp[hi]at A1 A5;obtain⟨z,AE,C5,C6,C7⟩:=Dk Aj default;cases O:i.zero with
  |none=>simp[zeroValue,typeInfo,hi,O,unsupported]at AE
  |some C8=>
   simp[zeroValue,typeInfo,hi,O]at AE;subst AE;exact⟨i,C8,rfl,A1,A5,O,C5,C6,C7⟩
theorem adT(P:Program)(S:St)(o:Oper)(s x:Operand)(t u:TypeId)(A9:o.op=.call {callee:=.builtin .append,args:=#[s,x],argTypes:=#[t,u]})
 (H:(S.aq s).1=true) (AA:(S.aq x).1=true):aG P S o (rU P S.mem (keyOf o) t u (S.aq s).2 (S.aq x).2):=by
 have AE:∀(a:Act)(w w':World)(v:Value),(Builtin.append_ #[t,u] o.type #[a.eval s,a.eval x]).run P w=.ok v w'->(execOp a.eval o).run P w=.ok (.value v) w':=by
  intro a w w' v h;simp[execOp,A9,resolve,invoke,builtin,h]
 unfold rU;split
 ·rename_i e C9;have Z:=fL C9;split
  ·rename_i sz AM M A1 A5 Aj;obtain⟨i,z,hi,rfl,rfl,O,A_,AK,Ao⟩:=LR A1 A5 Aj;split
   ·rename_i c A Ap
    --CQ CS a new block
    have grow:∀{φ G}{a:Act}{w:World}(J:Rel φ G S a w){I:List Value}(A7:Fa P w (Fo G φ S.mem) u i.size z A (a.eval x) I){key ak:Nat}{cont:ay}(hm:(⟨key,ak,cont⟩:cB)∈S.mem){L:Loc}(A4:φ key=some L)(A0:L.ak=ak)
     (ao:Option Addr) (len cap:Nat) (AB:a.eval s=.slice ao len cap) (A3:List Value) (AP:List D) (Ba:cm w (Fo G φ S.mem) i.size AP A3) (Ai:AP.length=len)
     (hold:∀w',w'.heap=w.heap->(Builtin.firstCells i.size len (.slice ao len cap)).run P w'=.ok A3.toArray w')
     (A':cap<len+A.length) (E:(len+A.length)*i.bytes<=140737488355328) (AQ:len+A.length<=4611686018427387904) (AJ:M.size=i.size),
     ∃v w' φ',Dh P o a w v w'/\aB φ' w' (Fo G φ' (Mem.set S.mem ⟨key,ak+1,.vec i.size (AP++A)⟩)) (.vec key (ak+1) 0 (len+A.length)) v/\
      bh φ' G (Mem.set S.mem ⟨key,ak+1,.vec i.size (AP++A)⟩) w'/\aS φ S.mem w φ' (Mem.set S.mem ⟨key,ak+1,.vec i.size (AP++A)⟩) w'/\∀k,k≠key->φ' k=φ k:=by
     intro φ G a w J I A7 key ak cont hm L A4 A0 ao len cap AB A3 AP Ba Ai hold A' E AQ AJ;have B7:=grownCap_ge w (len+A.length) cap e;have Ar:=s9 (P:=P) (ty:=o.type) Z hi O A7 A3 hold A' (by omega) (growslice_fits A' E) (by have:=ab0 i.bytes (amp A.length len);omega);have Ah:cm w (Fo G φ S.mem) i.size (AP++A) (A3++I):=Ba.append A7.ai;obtain⟨φ',AF,AG,AH,AI⟩:=J.mem.fresh (e:=⟨key,ak,cont⟩) hm A4 A0 w.drew rfl rfl rfl rfl
      (A3.toArray++I.toArray++Builtin.zeroCells z.cells (grownCap w (len+A.length) cap e-(len+A.length))) e i.size (grownCap w (len+A.length) cap e) (.vec i.size (AP++A)) (λ_ E=>E.2) (λφ' hle B8 AR Ae=>by
       refine vd (cs:=A3++I) (rest:=(Builtin.zeroCells z.cells (grownCap w (len+A.length) cap e-(len+A.length))).toList) (elem:=e) rfl rfl (Ah.mono AR) ?_ (by simp;omega) ?_ (λ_=>?_)
       ·intro v V;exact rT AK v (by simpa using V)
       ·have A8:z.cells.size=i.size:=by
         rw[A_];exact AJ
        rw[acg,Ah.1];simp only[ace,size_zeroCells,A8,acg,Ai,<-aeq];congr 1;omega
       ·refine eJ.new ?_;rw[Ae];congr 2;apply Array.ext';simp)
     refine⟨_,_,φ',.inl (AE a w _ _ (by rw[AB];exact Ar)),?_,AF,AG,AI⟩;exact .vec key (ak+1) 0 _ _ _ AH (abO _) (λ_=>⟨_,_,rfl,B7,λ_=>⟨by simp,by simp⟩⟩) rfl
    split
    ·rename_i k ak off len Af;split
     ·rename_i key v B_ ai AL;refine aG.rR ?_;rintro ⟨AC,AJ,rfl,hle,rfl,BC,E,AQ⟩ φ G a w J;obtain⟨hm,AD,L,A4,A0,A6⟩:=J.mem.get AL;simp only at AD;subst AD;have V:=J.aq s H;have Ag:=J.aq x AA;rw[Af]at V;obtain⟨I,A7⟩:=LQ (P:=P) J.mem AK (by rw[A_];exact AJ) AJ (Ao _ _) Ag Ap AC BC;generalize AB:a.eval s=BV at V;cases V with
      |vec _ _ _ _ _ L' AN _ h _=>
       rw[A4]at AN;cases AN;obtain⟨ao,cap,rfl,BW,Ac⟩:=h A0.symm;clear h;have BD:L.sz=i.size:=A6.1;have BE:((ai.drop off).take len).length=len:=by simp;omega
       by_cases A':len+A.length<=cap
       ·by_cases B3:cap=0
        · --nothing CT nothing
         have Au:A=[]:=ab8 (by omega);have AT:len=0:=by omega
         subst Au;subst AT;have AS:=qW (P:=P) (ty:=o.type) (ao:=ao) Z hi O A7 BW;obtain⟨φ',AF,AG,AH,AI⟩:=J.mem.dg (e':=⟨key,v+1,.vec i.size ((ai.drop off).take 0++[])⟩) hm A4 rfl (L':={L with ak:=v+1}) (by simp only at A0;simp;omega) (λhh=>by simp only at A0 hh;omega) rfl
          (w':=w) (λ_ _ _=>rfl) (abO _) (λ_ A9=>.inl A9) rfl rfl rfl (λφ' CA As=>by
           obtain⟨g1,g2,g3,g4⟩:=A6;refine⟨g1,by simp,by simp,λAC=>?_⟩;obtain⟨arr,elem,f1,f2,f3,f4⟩:=g4 AC;exact⟨arr,elem,f1,f2,f3,by simp⟩)
         refine⟨_,w,φ',.inl (AE a w w _ (by rw[AB];exact AS)),?_,AF,AG,AI⟩;exact .vec key (v+1) 0 _ _ _ AH (abO _) (λ_=>⟨_,_,rfl,by simp,λh=>by omega⟩) rfl
        ·obtain⟨rfl,B9⟩:=Ac (by omega);obtain⟨arr,elem,hh,At,Ad,BF⟩:=nF A6 (by omega);obtain⟨B,Bb⟩:∃B,B=L.base+off*i.size:=⟨_,rfl⟩;have An:=((BF.drop off).take len (by simp;omega));have CB:(((arr.toList.drop L.base).take (ai.length*i.size)).drop (off*i.size)).take (len*i.size)=(arr.toList.drop B).take (len*i.size):=by
          have:off*i.size+len*i.size<=ai.length*i.size:=by rw[<-aeq];exact ab0 _ hle
          rw[List.drop_take,List.take_take,ame (by omega),amw,Bb]
         rw[CB]at An;have CC:=An.append A7.ai;have CD:=A7.ai.1;have CU:len*i.size+I.length<=(L.cap-off)*i.size:=by
          rw[CD,<-aeq];exact ab0 _ (by omega)
         have CV:off*i.size+(L.cap-off)*i.size=L.cap*i.size:=by rw[<-aeq];congr 1;omega
         have AO:B+len*i.size+I.length<=arr.size:=by omega
         rw[BD,<-Bb]at AB;have AS:=run_append_fits (P:=P) (ty:=o.type) Z hi O A7 hh A' AO (by have:=ab0 i.bytes (amp A.length len);omega);obtain⟨φ',AF,AG,AH,AI⟩:=J.mem.HP (e:=⟨key,v,.vec i.size ai⟩) hm A4 A0 (b0:=L.dw) ⟨by omega,rfl⟩ (bk arr.toList (B+len*i.size) I).toArray ⟨v+1,L.dw,L.sz,L.cap-off,B,[]⟩ (amn _) (λhh=>by simp only at A0 hh;omega) (.vec i.size ((ai.drop off).take len++A)) (λ_ E=>⟨by omega,E.2⟩) (λφ' As B8 AR=>by
          refine s8 (pre:=arr.toList.take B) (cs:=(arr.toList.drop B).take (len*i.size)++I) (rest:=arr.toList.drop (B+len*i.size+I.length)) (elem:=elem) BD (CC.mono AR) ?_ ?_ ?_ (by rw[acg,BE];simp only;omega) ?_ (λ_=>?_)
          ·simp only[ae3,ace];omega
          ·intro z O;exact Ad z (by simpa using adV O)
          ·intro z O;exact Ad z (by simpa using adM O)
          ·show _=(L.cap-off)*i.size;simp only[acg,ae3,aeo,ace];omega
          ·have e:=hh.setRow (bk arr.toList (B+len*i.size) I).toArray (by show (bk arr.toList _ _).length=_;rw[bQ _ _ _ (by simpa using AO)];simp);rw[dh _ _ _ (by simpa using AO),List.take_add]at e;rw[dh _ _ _ (by simpa using AO),List.take_add];simpa [ahf]using e)
         refine⟨_,_,φ',.inl (AE a w _ _ (by rw[AB];exact AS)),?_,AF,AG,AI⟩;exact .vec key (v+1) 0 _ _ _ AH (abO _) (λ_=>⟨_,_,rfl,A',λ_=>⟨by simp,by simp only;omega⟩⟩) rfl
       ·by_cases B3:cap=0
        ·subst B3;have AT:len=0:=by omega
         subst AT;have:=grow J A7 hm A4 A0 ao 0 0 AB [] [] (cm.nil ..) rfl (λw' _=>by cases ao<;>simp[Builtin.firstCells,loadCells,loadCellsFrom]) (by omega) E AQ AJ;simpa using this
        ·obtain⟨rfl,B9⟩:=Ac (by omega);obtain⟨arr,elem,hh,At,Ad,BF⟩:=nF A6 (by omega);have An:=((BF.drop off).take len (by simp;omega));exact grow J A7 hm A4 A0 _ len cap AB _ ((ai.drop off).take len) An BE (λw' Ab=>by
          refine run_firstCells_some (P:=P) w' i.size len _ len cap _ (by rw[An.1,BE]) (λj u N=>?_);rw[fq,show w'.cell? ⟨L.dw,L.base+off*L.sz+j,none⟩=w.cell? ⟨L.dw,L.base+off*L.sz+j,none⟩ by simp[World.cell?,Ab],gz hh,BD];rw[abZ]at N;split at N
          ·rw[adY,abZ]at N;split at N
           ·rw[adY]at N;rw[adN];simpa using N
           ·cases N
          ·cases N) (by omega) E AQ AJ
     ·trivial
    ·rename_i Af;split
     ·rename_i key v cont AL;refine aG.rR ?_;rintro ⟨AC,AJ,BC,E,AQ⟩ φ G a w J;obtain⟨hm,AD,L,A4,A0,A6⟩:=J.mem.get AL;simp only at AD A0;subst AD;have V:=J.aq s H;have Ag:=J.aq x AA;rw[Af]at V;obtain⟨I,A7⟩:=LQ (P:=P) J.mem AK (by rw[A_];exact AJ) AJ (Ao _ _) Ag Ap AC BC;generalize AB:a.eval s=BV at V;cases V;by_cases Au:A=[]
      ·subst Au;have AS:=qW (P:=P) (ty:=o.type) (ao:=none) (len:=0) (cap:=0) Z hi O A7 (abO _);obtain⟨φ',AF,AG,AH,AI⟩:=J.mem.dg (e':=⟨keyOf o,v+1,.vec i.size []⟩) hm A4 rfl (L':=⟨v+1,0,i.size,0,0,[]⟩) (by simp only;omega) (λhh=>by simp only at hh;omega) rfl
        (w':=w) (λ_ _ _=>rfl) (abO _) (λ_ A9=>absurd A9.1 (by simp)) rfl rfl rfl (λφ' CA As=>
         ⟨rfl,by simp,by simp,λAC=>by simp at AC⟩)
       refine⟨_,w,φ',.inl (AE a w w _ (by rw[AB];exact AS)),?_,AF,AG,AI⟩;exact .vec _ (v+1) 0 _ _ _ AH (abO _) (λ_=>⟨_,_,rfl,by simp,λh=>by omega⟩) rfl
      ·have BH:0<A.length:=List.length_pos_iff.2 Au;have:=grow J A7 hm A4 A0 none 0 0 AB [] [] (cm.nil ..) rfl (λw' _=>by simp[Builtin.firstCells]) (by omega) (by simpa using E) (by simpa using AQ) AJ;simpa using this
     ·trivial
    ·trivial
   ·exact acj P S o s x t u A9 H AA Z hi O A_ AK
  ·trivial
 ·trivial
def xj(P:Program)(m:Mem)(AH:Nat)(t:TypeId)(l c:AV):du:=
 match tk P t with
 | .slice e=>match fm P e,y9 P e,mo P e,l,c,Mem.get m AH with
  |some sz,some AS,some A3,.d (.int .i64 n),.d (.int .i64 AT),some ⟨_,v,_⟩=>
   .dg (n=AT/\0<=n/\n*AS<=140737488355328/\n<=4611686018427387904/\A3.size=sz) (.vec AH (v+1) 0 n.toNat) ⟨AH,v+1,.vec sz (List.replicate n.toNat A3)⟩
  |_,_,_,_,_,_=>.no
 |_=>.no
theorem wrap_small{n:Int}(T:0<=n)(h:n<=4611686018427387904):IntKind.i64.wrap n=n:=IntWalk.i64_in _ (by omega)
theorem PK(z:Array Value)(n sz:Nat)(N:z.size=sz)(d:D)(A9:d.size=sz)(I:∀v∈z,cA v=true)(w:World)(F:Nat->Prop)(Ah:∃v,aO w F d v/\v.cells=z):
 cm w F sz (List.replicate n d) ((Array.range (n*sz)).map (z[·%z.size]!)).toList:=by
 obtain⟨v,Y,Ai⟩:=Ah;refine⟨by simp,?_,?_,?_⟩
 ·intro x J;simp only[Array.toList_map,ab4]at J;obtain⟨i,hi,rfl⟩:=J;have hi:i<n*sz:=by simpa using hi
  have Aj:0<z.size:=by
   rw[N];rcases amo sz with T|T
   ·simp[T]at hi
   ·exact T
  rw[getElem!_pos z _ (Nat.mod_lt _ Aj)];exact I _ (by simp)
 ·intro x J;rw[List.eq_of_mem_replicate J,A9]
 ·intro i x J;have hi:i<n:=by have:=(abM.1 J).1;simpa using this
  have Ak:x=d:=by rw[List.getElem?_replicate]at J;split at J<;>simp_all
  subst Ak;refine⟨v,Y,λj c AI=>?_⟩;have Al:=vY Y A9 AI;have An:i*sz+j<n*sz:=by
   have:i*sz+sz<=n*sz:=by rw[<-ahv];exact ab0 _ hi
   omega
  rw[Ai]at AI;have hm:(i*sz+j)%sz=j:=by rw[Nat.mul_comm,Nat.mul_add_mod];exact Nat.mod_eq_of_lt Al
  simp only[Array.toList_map,adK,Array.toList_range,List.getElem?_range An,ahj,N,hm];rw[getElem!_pos z j (by omega)];rw[<-AI];simp[show j<z.size by omega]
theorem run_makeSlice{P:Program}{w:World}{t e:TypeId}{i:TypeInfo}{z:Value}{n:Int}(O:P.underlying t=some (.slice e))(hi:P.info? e=some i)(N:i.zero=some z)
 (T:0<=n) (V:n*i.bytes<=140737488355328) (AA:n<=4611686018427387904):
 (Instr.makeSlice t (.int .i64 n) (.int .i64 n)).run P w=.ok (.slice (some ⟨w.heap.size,0,none⟩) n.toNat n.toNat) (w.alloc (.cells ((Array.range (n.toNat*i.size)).map (z.cells[·%z.cells.size]!)) e)):=by
 have hw:=wrap_small T AA;have I:¬n<0:=by omega
 have AB:¬((i.bytes:Int)*n>281474976710656):=by rw[Int.mul_comm];omega
 have AU:¬(n.toNat*i.bytes>roomBytes):=by
  unfold roomBytes;have:((n.toNat*i.bytes:Nat):Int)=n*i.bytes:=by rw[Int.natCast_mul,Int.toNat_of_nonneg T]
  omega
 by_cases AC:n.toNat*i.size=0
 ·have Ao:n.toNat=0\/i.size=0:=Nat.mul_eq_zero.1 AC;simp[Instr.makeSlice,run_underlying O,asInt,asIntOf,typeInfo,sizeOf,hi,hw,I,AB,askRoom,AC,ia,show Array.range 0=#[]from rfl]
 ·have Ao:¬(n.toNat=0\/i.size=0):=λh=>AC (Nat.mul_eq_zero.2 h);simp[Instr.makeSlice,run_underlying O,asInt,asIntOf,typeInfo,sizeOf,zeroValue,hi,N,hw,I,AB,askRoom,ia];exact λh=>absurd h AC
theorem ack(P:Program)(S:St)(o:Oper)(t:TypeId)(l c:Operand)(Z:o.op=.makeSlice t l c)(Ap:(S.aq l).1=true)(AJ:(S.aq c).1=true):aG P S o (xj P S.mem (keyOf o) t (S.aq l).2 (S.aq c).2):=by
 unfold xj;split
 ·rename_i e AK;have O:=fL AK;split
  ·rename_i sz AS A3 n AT key v cont I AB AU Aq Ar AL;refine aG.rR ?_;rintro ⟨rfl,T,V,AA,AW⟩ φ G a w M;obtain⟨i,z,hi,rfl,rfl,N,As,At,Au⟩:=LR I AB AU;obtain⟨hm,A4,L,q,A',A0⟩:=M.mem.get AL;simp only at A4 A';subst A4;have A1:=M.aq l Ap;have AM:=M.aq c AJ;rw[Aq]at A1;rw[Ar]at AM;have Av:a.eval l=.int .i64 n:=by
    generalize a.eval l=x at A1;cases A1 with|d _ _ h=>cases h;rfl
   have AN:a.eval c=.int .i64 n:=by
    generalize a.eval c=x at AM;cases AM with|d _ _ h=>cases h;rfl
   have Aw:=run_makeSlice (P:=P) (w:=w) O hi N T V AA;obtain⟨φ',A5,A6,AO,A7⟩:=M.mem.fresh (e:=⟨keyOf o,v,cont⟩) hm q A' w rfl rfl rfl rfl
    ((Array.range (n.toNat*i.size)).map (z.cells[·%z.cells.size]!)) e i.size n.toNat (.vec i.size (List.replicate n.toNat A3)) (λ_ V=>V.2) (λφ' hle Ax AX Ay=>by
     refine vd (cs:=((Array.range (n.toNat*i.size)).map (z.cells[·%z.cells.size]!)).toList) (rest:=[]) (elem:=e) rfl rfl (PK z.cells n.toNat i.size (by rw[As,AW]) A3 AW At _ _ (Au _ _)) (by simp) (by simp) (by simp) (λ_=>?_);refine eJ.new ?_;rw[Ay,aeP,ank])
   refine⟨.slice (some ⟨w.heap.size,0,none⟩) n.toNat n.toNat,_,φ',.inl ?_,?_,A5,A6,A7⟩
   ·simp[execOp,Z,Av,AN,Aw]
   ·exact .vec _ (v+1) 0 _ _ _ AO (abO _) (λ_=>⟨_,_,rfl,abO _,λ_=>⟨by simp,by simp⟩⟩) rfl
  ·trivial
 ·trivial
def xk(P:Program)(m:Mem)(t:TypeId)(s x:AV):du:=
 match tk P t with
 | .slice e=>match fm P e with
  |some sz=>match gJ m sz x with
   |some (c,A)=>match s with
    | .vec k ak off len=>match Mem.get m k with
     |some ⟨_,v,.vec E ai⟩=>.dg (c/\v=ak/\off+len<=ai.length/\E=sz/\(∀d∈A,d.size=sz))
      (.d (.int .i64 (min A.length len:Nat))) ⟨k,ak,.vec sz (bk ai off (A.take len))⟩
     |_=>.no
    |_=>.no
   |none=>.no
  |none=>.no
 |_=>.no
theorem Bz{w F sz}{ai A:List D}{cs H:List Value}{off:Nat}(h:cm w F sz ai cs)(AP:cm w F sz A H)(hle:off+A.length<=ai.length):
 cm w F sz (bk ai off A) (bk cs (off*sz) H):=by
 have AD:off*sz+H.length<=cs.length:=by rw[h.1,AP.1,<-aeq];exact ab0 _ hle
 rw[dh _ _ _ hle,dh _ _ _ AD];have:=((h.take off (by omega)).append AP).append (h.drop (off+A.length));rw[aeq,<-AP.1]at this;exact this
theorem Hk{α:Type}{cs H:List α}{o n:Nat}(h:o+H.length<=n)(AA:n<=cs.length):bk (cs.take n) o H++cs.drop n=bk cs o H:=by
 rw[dh _ _ _ (by simp;omega),dh _ _ _ (by omega),List.take_take,ame (by omega),ahf (List.take _ _++_)];congr 1;rw[List.drop_take];have AN:cs.drop n=(cs.drop (o+H.length)).drop (n-(o+H.length)):=by rw[amw];congr 1;omega
 rw[AN,amz]
theorem HZ{P:Program}{w w':World}{t u ty e:TypeId}{sz:Nat}(O:P.underlying t=some (.slice e))(I:fm P e=some sz){ao:Option Addr}{len cap:Nat}{x:Value}{m:Nat}{H:List Value}
 (AY:(Builtin.lenOf x).run P w=.ok m w) (A2:(Builtin.firstCells sz (min m len) x).run P w=.ok H.toArray w)
 (U:(match ao with|some a=>storeCells a H|none=>pure ()).run P w=.ok () w'):
 (Builtin.copy_ #[t,u] ty #[.slice ao len cap,x]).run P w=.ok (.int .i64 (min m len:Nat)) w':=by
 have hm:Nat.min m len=min m len:=rfl;cases ao with
 |none=>
  simp only[Sem.run_pure,Result.ok.injEq,true_and]at U;subst U;simp[Builtin.copy_,run_underlying O,AY,hm,run_sizeOf I,A2,goInt]
 |some a=>
  simp only at U;simp[Builtin.copy_,run_underlying O,AY,hm,run_sizeOf I,A2,U,goInt]
theorem acm(P:Program)(S:St)(o:Oper)(s x:Operand)(t u:TypeId)(Z:o.op=.call {callee:=.builtin .copy,args:=#[s,x],argTypes:=#[t,u]})
 (A9:(S.aq s).1=true) (J:(S.aq x).1=true):aG P S o (xk P S.mem t (S.aq s).2 (S.aq x).2):=by
 unfold xk;split
 ·rename_i e AK;have O:=fL AK;split
  ·rename_i sz I;split
   ·rename_i c A Az;split
    ·rename_i k ak off len B';split
     ·rename_i key v E ai AL;refine aG.rR ?_;rintro ⟨AJ,rfl,hle,rfl,B0⟩ φ G a w M;obtain⟨hm,A4,L,q,A',A0⟩:=M.mem.get AL;simp only at A4;subst A4;have Y:=M.aq s A9;have B1:=M.aq x J;rw[B']at Y;obtain⟨H,AE⟩:=HT (P:=P) M.mem B1 Az AJ B0;generalize A1:a.eval s=BF at Y;cases Y with
      |vec _ _ _ _ _ L' AZ _ h _=>
       rw[q]at AZ;cases AZ;obtain⟨ao,cap,rfl,BG,B2⟩:=h A'.symm;clear h;have A_:L.sz=E:=A0.1;have Aa:min A.length len<=A.length:=Nat.min_le_left _ _;have A2:=AE.SV (min A.length len) Aa w (λ_ _=>rfl);have Ab:(A.take len).length=min A.length len:=by rw[ae3,Nat.min_comm]
       by_cases B3:len=0
       ·subst B3;obtain⟨φ',A5,A6,AO,A7⟩:=M.mem.dg (e':=⟨key,v,.vec E (bk ai off (A.take 0))⟩) hm q rfl (L':=L) (abO _) (λ_=>rfl) A'
         (w':=w) (λ_ _ _=>rfl) (abO _) (λ_ Z=>.inl Z) rfl rfl rfl (λφ' Ac AD=>by
          have e:bk ai off (A.take 0)=ai:=by rw[dh _ _ _ (by simp;omega)];simp
          rw[e];refine A0.mono AD (λ_ _ _=>rfl) (abO _) (λb V=>?_) (λ_ _=>rfl);rintro (B4|⟨y,B5,B6,AF,Ad⟩)
          ·exact .inl B4
          ·right;rcases (Mem.mem_set M.mem.nodup).1 B5 with ⟨rfl,_⟩|⟨B7,Ae⟩
           ·subst Ac;simp at AF;subst AF;exact⟨_,hm,L,q,Ad⟩
           ·subst Ac;simp at Ae;simp[Ae]at AF;exact⟨y,B7,B6,AF,Ad⟩)
        refine⟨_,w,φ',.inl ?_,.d _ _ (.int _ _),A5,A6,A7⟩;have B8:H.take (min A.length 0*E)=[]:=by simp
        rw[B8]at A2;have:=HZ (P:=P) (ty:=o.type) (u:=u) (ao:=ao) (len:=0) (cap:=cap) O I (AE.len w) A2 (w':=w) (by cases ao<;>simp[storeCells]);simp[execOp,Z,resolve,invoke,builtin,A1,this]
       ·obtain⟨rfl,BH⟩:=B2 (by omega);obtain⟨arr,elem,hh,BI,Af,B9⟩:=nF A0 (by omega);have AQ:cm w (Fo G φ S.mem) E (A.take len) (H.take (min A.length len*E)):=by
         have:=AE.ai.take (min A.length len) Aa;have e:A.take (min A.length len)=A.take len:=by
          rcases Nat.le_total A.length len with h|h
          ·rw[ame h,aej (abO _),aej h]
          ·rw[Nat.min_eq_right h]
         rw[e]at this;exact this
        have Ag:off+(A.take len).length<=ai.length:=by rw[Ab];omega
        have BA:=Bz B9 AQ Ag;have A8:=AQ.1;rw[Ab]at A8;have AR:(off+min A.length len)*E<=ai.length*E:=ab0 _ (by omega);have BJ:ai.length*E<=L.cap*E:=ab0 _ A0.2.1;have AG:L.base+off*E+(H.take (min A.length len*E)).length<=arr.toList.length:=by
         rw[aeq]at AR;rw[A8];simp only[ace];omega
        have ⟨BB,BC,BD⟩:=hh;have U:=jI (P:=P) L.dw (L.base+off*E) elem BB (H.take (min A.length len*E)) 0 arr w BC BD (by simpa using AG) (λx J=>oh (AQ.2.1 x J));simp only[agR]at U;rw[<-dh _ _ _ AG]at U;have BE:arr.toList.take L.base++(bk ((arr.toList.drop L.base).take (ai.length*E)) (off*E) (H.take (min A.length len*E))++(arr.toList.drop L.base).drop (ai.length*E))=bk arr.toList (L.base+off*E) (H.take (min A.length len*E)):=by
         rw[Hk (by rw[A8,<-aeq];exact AR) (by simp only[aeo,ace];omega)];rw[dh _ _ _ (by rw[A8];rw[aeq]at AR;simp only[aeo,ace];omega),dh _ _ _ AG,amw,List.take_add];simp only[ahf,adN]
        obtain⟨φ',A5,A6,AO,A7⟩:=M.mem.store (e:=⟨key,v,.vec E ai⟩) hm q A' (b0:=L.dw) ⟨by omega,rfl⟩ (bk arr.toList (L.base+off*E) (H.take (min A.length len*E))).toArray v (abO _) (.vec E (bk ai off (A.take len))) (λ_ V=>V) (λφ' AD Ax AX=>by
         refine s8 (pre:=arr.toList.take L.base) (cs:=bk ((arr.toList.drop L.base).take (ai.length*E)) (off*E) (H.take (min A.length len*E))) (rest:=(arr.toList.drop L.base).drop (ai.length*E)) (elem:=elem) A_ (BA.mono AX) ?_ ?_ ?_ ?_ ?_ (λ_=>?_)
         ·simp only[ae3,ace];omega
         ·intro z N;exact Af z (by simpa using adV N)
         ·intro z N;exact Af z (by simpa using adM (adM N))
         ·rw[bQ _ _ _ Ag];exact A0.2.1
         ·show _=L.cap*E;rw[acg,bQ _ _ _ (by rw[A8,<-aeq];simp only[ae3,aeo,ace];omega),<-acg,amz];simp only[aeo,ace];omega
         ·rw[BE];exact hh.setRow _ (by show (bk arr.toList _ _).length=_;rw[bQ _ _ _ AG];simp))
        refine⟨_,_,φ',.inl ?_,.d _ _ (.int _ _),A5,A6,A7⟩;have:=HZ (P:=P) (ty:=o.type) (u:=u) (ao:=some ⟨L.dw,L.base+off*L.sz,none⟩) (len:=len) (cap:=cap) O I (AE.len w) A2 (by rw[A_];exact U);simp[execOp,Z,resolve,invoke,builtin,A1,this]
     ·trivial
    ·trivial
   ·trivial
  ·trivial
 ·trivial
theorem vi{P:Program}{s:TypeId}{f n b o:Nat}{w:World}(h:xc P s f=some n):(Instr.fieldAt s (.pointer (some ⟨b,o,none⟩)) f).run P w=.ok (.pointer (some ⟨b,o+n,none⟩)) w:=by
 unfold xc at h;split at h
 ·rename_i AN hu;split at h
  ·rename_i fl AC;split at h
   ·rename_i i hi;split at h
    ·cases h
    ·rename_i AD;simp at h;subst h;have U:(sizeOf fl.type).run P w=.ok i.size w:=run_sizeOf (by simp[fm,hi]);simp[Instr.fieldAt,run_underlying hu,AC,Instr.sureAddr,fieldPlace,U,AD,fq]
   ·cases h
  ·cases h
 ·cases h
def oD(P:Program)(m:Mem)(s:TypeId)(f:Nat)(p:AV):du:=
 match xc P s f with
 |some n=>match p with
  | .ptr k ak off=>match Mem.get m k with
   |some ⟨_,v,_⟩=>.val (v=ak) (.ptr k ak (off+n))
   |none=>.no
  | .cN k ak i j=>match Mem.get m k with
   |some ⟨_,v,_⟩=>.val (v=ak) (.cN k ak i (j+n))
   |none=>.no
  | .dM x j=>.val True (.dM x (j+n))
  |_=>.no
 |none=>.no
theorem WJ(P:Program)(S:St)(o:Oper)(s:TypeId)(x:Operand)(f:Nat)(V:o.op=.fieldAddr s x f)(M:(S.aq x).1=true):aG P S o (oD P S.mem s f (S.aq x).2):=by
 unfold oD;split
 ·rename_i n A3;split
  ·rename_i k ak off J;split
   ·rename_i key v cont T;refine aG.pure ?_;rintro rfl φ G a w E;have A:=E.aq x M;rw[J]at A;obtain⟨hm,q,L,H,I,_⟩:=E.mem.get T;simp only at I;have e:=A.qR H I;refine⟨.pointer (some ⟨L.dw,off+n,none⟩),by simp[execOp,V,e,vi A3],.ptr k v _ _ L H (by omega) (λ_=>rfl) rfl⟩
   ·trivial
  ·rename_i k ak i j J;split
   ·rename_i key v cont T;refine aG.pure ?_;rintro rfl φ G a w E;have A:=E.aq x M;rw[J]at A;obtain⟨hm,q,L,H,I,_⟩:=E.mem.get T;simp only at I;have e:=A.kB H I;refine⟨.pointer (some ⟨L.dw,L.base+i*L.sz+j+n,none⟩),by simp[execOp,V,e,vi A3],.cN k v _ _ _ L H (by omega) (λ_=>by rw[adN]) rfl⟩
   ·trivial
  ·rename_i d j J;refine aG.pure ?_;rintro _ φ G a w E;have A:=E.aq x M;rw[J]at A;generalize Z:a.eval x=av at A;cases A with
   |dM _ _ b off A5 A' A0 A6 A1=>
    refine⟨.pointer (some ⟨b,off+(j+n),none⟩),by simp[execOp,V,Z,vi A3,adN],.dM d (j+n) b off A5 A' A0 A6 A1⟩
  ·trivial
 ·trivial
def iZ(m:Mem)(p:AV):du:=
 match p with
 | .ptr k ak off=>match Mem.get m k with
  |some ⟨_,v,_⟩=>.val (v=ak) (.ptr k ak off)
  |none=>.no
 | .cN k ak i j=>match Mem.get m k with
  |some ⟨_,v,_⟩=>.val (v=ak) (.cN k ak i j)
  |none=>.no
 | .dM x j=>.val True (.dM x j)
 |_=>.no
theorem K4(P:Program)(S:St)(o:Oper)(x:Operand)(V:o.op=.nilCheck x)(M:(S.aq x).1=true):aG P S o (iZ S.mem (S.aq x).2):=by
 unfold iZ;split
 ·rename_i k ak off J;split
  ·rename_i key v cont T;refine aG.pure ?_;rintro rfl φ G a w E;have A:=E.aq x M;rw[J]at A;obtain⟨hm,q,L,H,I,_⟩:=E.mem.get T;simp only at I;have e:=A.qR H I;exact⟨_,by simp only[execOp,V,e];rfl,.ptr k v _ _ L H (by omega) (λ_=>rfl) rfl⟩
  ·trivial
 ·rename_i k ak i j J;split
  ·rename_i key v cont T;refine aG.pure ?_;rintro rfl φ G a w E;have A:=E.aq x M;rw[J]at A;obtain⟨hm,q,L,H,I,_⟩:=E.mem.get T;simp only at I;have e:=A.kB H I;exact⟨_,by simp only[execOp,V,e];rfl,.cN k v _ _ _ L H (by omega) (λ_=>rfl) rfl⟩
  ·trivial
 ·rename_i d j J;refine aG.pure ?_;rintro _ φ G a w E;have A:=E.aq x M;rw[J]at A;generalize Z:a.eval x=av at A;cases A with
  |dM _ _ b off A5 A' A0 A6 A1=>
   exact⟨.pointer (some ⟨b,off+j,none⟩),by simp only[execOp,V,Z];rfl,.dM d j b off A5 A' A0 A6 A1⟩
 ·trivial
theorem jL{φ w F k n v}(h:aB φ w F (.d (.int k n)) v):v=.int k n:=by cases h with|d _ _ h=>cases h;rfl
theorem sN{φ w F b v}(h:aB φ w F (.d (.bool b)) v):v=.bool b:=by cases h with|d _ _ h=>cases h;rfl
theorem tc{φ w F s v}(h:aB φ w F (.d (.str s)) v):∃b:ByteArray,v=.string b/\b.data.toList=s:=by cases h with|d _ _ h=>cases h with|str b _ h=>exact⟨b,rfl,h⟩
theorem te{P:Program}{t:TypeId}{n e}(h:tk P t=.arr n e):P.underlying t=some (.array n e):=by
 unfold tk at h;split at h<;>simp_all
theorem nH{P:Program}{t:TypeId}(h:tk P t=.str):P.underlying t=some .string:=by
 unfold tk at h;split at h<;>simp_all
theorem Fb{P:Program}{t:TypeId}(h:tk P t=.bool):P.underlying t=some .bool:=by
 unfold tk at h;split at h<;>simp_all
theorem wb{P:Program}{t:TypeId}{k}(h:tk P t=.int k):P.underlying t=some (.int k):=by
 unfold tk at h;split at h<;>simp_all
def mr(P:Program)(m:Mem)(t:TypeId)(p i:AV):du:=
 match i with
 | .d (.int _ n)=>match tk P t with
  | .slice e=>match fm P e with
   |some sz=>match p with
    | .d (.list xs)=>.val (0<=n/\n.toNat<xs.length/\(D.at xs n.toNat).size=sz) (.dM (D.at xs n.toNat) 0)
    | .vec k ak off len=>match Mem.get m k with
     |some ⟨_,v,.vec A4 _⟩=>.val (v=ak/\0<=n/\n.toNat<len/\A4=sz) (.cN k ak (off+n.toNat) 0)
     |some ⟨_,v,.vv _ _⟩=>.val (v=ak/\0<=n/\n.toNat<len/\sz=1) (.cN k ak (off+n.toNat) 0)
     |_=>.no
    |_=>.no
   |none=>.no
  | .arr len e=>match fm P e with
   |some sz=>match p with
    | .ptr k ak off=>match Mem.get m k with
     |some ⟨_,v,_⟩=>.val (v=ak/\0<=n/\n.toNat<len) (.ptr k ak (off+n.toNat*sz))
     |none=>.no
    | .cN k ak i j=>match Mem.get m k with
     |some ⟨_,v,.vec A4 _⟩=>if A4=1/\sz=1/\j=0 then .val (v=ak/\0<=n/\n.toNat<len) (.cN k ak (i+n.toNat) 0)else .val (v=ak/\0<=n/\n.toNat<len) (.cN k ak i (j+n.toNat*sz))
     |some ⟨_,v,_⟩=>.val (v=ak/\0<=n/\n.toNat<len) (.cN k ak i (j+n.toNat*sz))
     |none=>.no
    | .dM x j=>.val (0<=n/\n.toNat<len) (.dM x (j+n.toNat*sz))
    |_=>.no
   |none=>.no
  |_=>.no
 |_=>.no
theorem pW{P:Program}{t e:TypeId}{sz b o len cap:Nat}{k:IntKind}{n:Int}{w:World}(Y:P.underlying t=some (.slice e))(U:fm P e=some sz)(N:0<=n)(O:n.toNat<len):
 (Instr.indexAt t (.slice (some ⟨b,o,none⟩) len cap) (.int k n)).run P w=.ok (.pointer (some ⟨b,o+n.toNat*sz,none⟩)) w:=by
 have A3:n<(len:Int):=by omega
 simp[Instr.indexAt,asIntOf,run_underlying Y,run_sizeOf U,N,A3,fq]
theorem mu{P:Program}{t e:TypeId}{sz b o len:Nat}{k:IntKind}{n:Int}{w:World}(Y:P.underlying t=some (.array len e))(U:fm P e=some sz)(N:0<=n)(O:n.toNat<len):
 (Instr.indexAt t (.pointer (some ⟨b,o,none⟩)) (.int k n)).run P w=.ok (.pointer (some ⟨b,o+n.toNat*sz,none⟩)) w:=by
 have A3:n<(len:Int):=by omega
 simp[Instr.indexAt,Instr.sureAddr,asIntOf,run_underlying Y,run_sizeOf U,N,A3,fq]
theorem acn{w F xs b off cap len}(h:aO w F (.list xs) (.slice (some ⟨b,off,none⟩) len cap)){i sz:Nat}(hi:i<xs.length)(U:(D.at xs i).size=sz):
 len=xs.length/\b<w.heap.size/\¬F b/\∃v,aO w F (D.at xs i) v/\∀(j:Nat) c,v.cells[j]?=some c->w.cell? ⟨b,off+i*sz+j,none⟩=some c:=by
 generalize M:D.list xs=x at h;generalize A:Value.slice (some ⟨b,off,none⟩) len cap=v at h;cases h with
 |nil a c=>simp at M;subst M;simp at hi
 |list AO AP AQ AR A4 vs AS A' A0 A9 AE A1=>
  simp at M A;obtain⟨⟨rfl,rfl⟩,rfl,rfl⟩:=A;subst M;have:A4=sz:=by rw[<-U,A9 _ (abU (jG hi))]
  subst this;exact⟨rfl,A',A0,vs i,AE i _ (jG hi),λj c AF=>A1 i j c hi AF⟩
 |_=>simp at M
theorem S5{w F xs v}(h:aO w F (.list xs) v)(AG:xs≠[]):∃b off cap,v=.slice (some ⟨b,off,none⟩) xs.length cap:=by
 cases h with
 |nil a c=>exact absurd rfl AG
 |list b off cap sz vs=>exact⟨_,_,_,rfl⟩
theorem WK(P:Program)(S:St)(o:Oper)(t:TypeId)(x i:Operand)(V:o.op=.indexAddr t x i)(M:(S.aq x).1=true)(hi:(S.aq i).1=true):aG P S o (mr P S.mem t (S.aq x).2 (S.aq i).2):=by
 unfold mr;split
 ·rename_i AH n AI;have A2:∀{φ G a w},Rel φ G S a w->a.eval i=.int AH n:=λE=>by
   have:=E.aq i hi;rw[AI]at this;exact jL this
  split
  ·rename_i e AA;have Y:=fL AA;split
   ·rename_i sz U;split
    ·rename_i xs J;refine aG.pure ?_;rintro ⟨N,O,A9⟩ φ G a w E;have A:=E.aq x M;rw[J]at A;generalize Z:a.eval x=av at A;cases A with
     |d _ _ h=>
      obtain⟨b,off,cap,rfl⟩:=S5 h (by intro hh;subst hh;simp at O);obtain⟨_,A',A0,v,A,A1⟩:=acn h O A9;refine⟨_,by simp only[execOp,V,Z,A2 E,Sem.run_bind,pW Y U N O];rfl,?_⟩;exact .dM (D.at xs n.toNat) 0 b (off+n.toNat*sz) v A' A0 A A1
    ·rename_i k ak off len J;split
     ·rename_i key v A4 ai T;refine aG.pure ?_;rintro ⟨rfl,N,O,rfl⟩ φ G a w E;have A:=E.aq x M;rw[J]at A;obtain⟨hm,q,L,H,I,A7⟩:=E.mem.get T;simp only at I;generalize Z:a.eval x=av at A;cases A with
      |vec _ _ _ _ _ L' A8 _ h _=>
       rw[H]at A8;cases A8;obtain⟨ao,cap,rfl,AJ,AB⟩:=h I.symm;clear h;obtain⟨rfl,AK⟩:=AB (by omega);refine⟨_,by simp only[execOp,V,Z,A2 E,Sem.run_bind,pW Y U N O];rfl,?_⟩;exact .cN k v _ 0 _ L H (by omega) (λ_=>by rw[A7.1,aeq,agR,adN]) rfl
     ·rename_i key v ai y T;refine aG.pure ?_;rintro ⟨rfl,N,O,rfl⟩ φ G a w E;have A:=E.aq x M;rw[J]at A;obtain⟨hm,q,L,H,I,A7⟩:=E.mem.get T;simp only at I;generalize Z:a.eval x=av at A;cases A with
      |vec _ _ _ _ _ L' A8 _ h _=>
       rw[H]at A8;cases A8;obtain⟨ao,cap,rfl,AJ,AB⟩:=h I.symm;clear h;obtain⟨rfl,AK⟩:=AB (by omega);refine⟨_,by simp only[execOp,V,Z,A2 E,Sem.run_bind,pW Y U N O];rfl,?_⟩;exact .cN k v _ 0 _ L H (by omega) (λ_=>by rw[A7.1.1,aeq,agR,adN]) rfl
     ·trivial
    ·trivial
   ·trivial
  ·rename_i len e AA;have Y:=te AA;split
   ·rename_i sz U;split
    ·rename_i k ak off J;split
     ·rename_i key v cont T;refine aG.pure ?_;rintro ⟨rfl,N,O⟩ φ G a w E;have A:=E.aq x M;rw[J]at A;obtain⟨hm,q,L,H,I,_⟩:=E.mem.get T;simp only at I;have e:=A.qR H I;refine⟨_,by simp only[execOp,V,e,A2 E,Sem.run_bind,mu Y U N O];rfl,.ptr k v _ _ L H (by omega) (λ_=>rfl) rfl⟩
     ·trivial
    ·rename_i k ak AT j J;split
     ·rename_i key v A4 ai T;split
      ·rename_i AL;obtain⟨rfl,rfl,rfl⟩:=AL;refine aG.pure ?_;rintro ⟨rfl,N,O⟩ φ G a w E;have A:=E.aq x M;rw[J]at A;obtain⟨hm,q,L,H,I,A7⟩:=E.mem.get T;simp only at I;have e:=A.kB H I;have AM:L.sz=1:=A7.1;refine⟨_,by simp only[execOp,V,e,A2 E,Sem.run_bind,mu Y U N O];rfl,.cN k v _ _ _ L H (by omega) (λ_=>by rw[AM];simp[adN]) rfl⟩
      ·refine aG.pure ?_;rintro ⟨rfl,N,O⟩ φ G a w E;have A:=E.aq x M;rw[J]at A;obtain⟨hm,q,L,H,I,_⟩:=E.mem.get T;simp only at I;have e:=A.kB H I;refine⟨_,by simp only[execOp,V,e,A2 E,Sem.run_bind,mu Y U N O];rfl,.cN k v _ _ _ L H (by omega) (λ_=>by rw[adN]) rfl⟩
     ·rename_i key v cont _ T;refine aG.pure ?_;rintro ⟨rfl,N,O⟩ φ G a w E;have A:=E.aq x M;rw[J]at A;obtain⟨hm,q,L,H,I,_⟩:=E.mem.get T;simp only at I;have e:=A.kB H I;refine⟨_,by simp only[execOp,V,e,A2 E,Sem.run_bind,mu Y U N O];rfl,.cN k v _ _ _ L H (by omega) (λ_=>by rw[adN]) rfl⟩
     ·trivial
    ·rename_i d j J;refine aG.pure ?_;rintro ⟨N,O⟩ φ G a w E;have A:=E.aq x M;rw[J]at A;generalize Z:a.eval x=av at A;cases A with
     |dM _ _ b off A5 A' A0 A6 A1=>
      refine⟨.pointer (some ⟨b,off+(j+n.toNat*sz),none⟩),by simp[execOp,V,Z,A2 E,mu Y U N O,adN],.dM d _ b off A5 A' A0 A6 A1⟩
    ·trivial
   ·trivial
  ·trivial
 ·trivial
def eP(op:BinOp)(k:IntKind)(a b:Int):Option (Bool×D):=
 match op with
 | .add=>some (true,.int k (k.wrap (a+b)))
 | .sub=>some (true,.int k (k.wrap (a-b)))
 | .mul=>some (true,.int k (k.wrap (a*b)))
 | .quo=>some (b≠0,.int k (k.wrap (a.tdiv b)))
 | .rem=>some (b≠0,.int k (a.tmod b))
 | .and=>some (true,.int k (k.wrap (BitVec.ofInt k.bits a &&& BitVec.ofInt k.bits b).toNat))
 | .or=>some (true,.int k (k.wrap (BitVec.ofInt k.bits a ||| BitVec.ofInt k.bits b).toNat))
 | .xor=>some (true,.int k (k.wrap (BitVec.ofInt k.bits a ^^^ BitVec.ofInt k.bits b).toNat))
 | .andNot=>some (true,.int k (k.wrap (BitVec.ofInt k.bits a &&& ~~~BitVec.ofInt k.bits b).toNat))
 | .eql=>some (true,.bool (a == b))
 | .neq=>some (true,.bool (a != b))
 | .lss=>some (true,.bool (decide (a<b)))
 | .leq=>some (true,.bool (decide (a<=b)))
 | .gtr=>some (true,.bool (decide (b<a)))
 | .geq=>some (true,.bool (decide (b<=a)))
 |_=>none
def Ci(op:BinOp)(k:IntKind)(a b:Int):Option (Bool×D):=
 match op with
 | .shl=>some (0<=b,.int k (k.wrap (a*2^(min b.toNat k.bits))))
 | .shr=>some (0<=b,.int k (a.fdiv (2^(min b.toNat k.bits))))
 |_=>none
def mw(op:BinOp)(s t:List UInt8):Option (Bool×D):=
 match op with
 | .add=>some (s.length+t.length<=4611686018427387904,.str (s++t))
 | .eql=>some (true,.bool (s == t))
 | .neq=>some (true,.bool (!(s == t)))
 | .lss=>some (true,.bool (Op.bytesLess s t))
 | .leq=>some (true,.bool (Op.bytesLess s t||s == t))
 | .gtr=>some (true,.bool (!(Op.bytesLess s t||s == t)))
 | .geq=>some (true,.bool (!Op.bytesLess s t))
 |_=>none
def tf:TK->D->D->Option Bool
 | .int _,.int k a,.int A5 b=>if k=A5 then some (a == b)else none
 | .bool,.bool a,.bool b=>some (a == b)
 | .str,.str a,.str b=>some (a == b)
 |_,_,_=>none
def ec:List TK->List D->List D->Option Bool
 |[],[],[]=>some true
 |k::ks,x::xs,y::N=>match tf k x y,ec ks xs N with
  |some a,some b=>some (a&&b)
  |_,_=>none
 |_,_,_=>none
def zj(rec:TypeId->Option (List TK)):List Field->Nat->Option (List TK)
 |[],_=>some []
 |f::Z,o=>if f.name≠ "_" /\f.offset=o then (match rec f.type with
  |some ks=>match zj rec Z (o+ks.length)with
   |some r=>some (ks++r)
   |none=>none
  |none=>none)else none
def Dl(P:Program):Nat->TypeId->Option (List TK)
 |0,_=>none
 |n+1,t=>match tk P t with
  | .int k=>some [.int k]
  | .bool=>some [.bool]
  | .str=>some [.str]
  | .struct=>match P.underlying t with
   |some (.struct Z)=>if P.stoodInHeld t=false then (match zj (Dl P n) Z.toList 0 with
    |some ks=>if fm P t=some ks.length then some ks else none
    |none=>none)else none
   |_=>none
  |_=>none
def b9(P:Program)(t:TypeId):Option (List TK):=
 match P.underlying t with
 |some (.struct _)=>if P.eqGuardType P.depth t=false then Dl P 8 t else none
 |_=>none
def pX(P:Program)(op:BinOp)(t:TypeId)(x y:AV):du:=
 match x,y with
 | .d (.int k a),.d (.int A5 b)=>match op with
  | .shl=>.val (0<=b) (.d (.int k (k.wrap (a*2^(min b.toNat k.bits)))))
  | .shr=>.val (0<=b) (.d (.int k (a.fdiv (2^(min b.toNat k.bits)))))
  |op=>match eP op k a b with
   |some (c,d)=>.val (k=A5/\c) (.d d)
   |none=>.no
 | .d (.str a),.d (.str b)=>match mw op a b with
  |some (c,d)=>.val c (.d d)
  |none=>.no
 | .d (.bool a),.d (.bool b)=>match op with
  | .eql=>.val (tk P t=.bool) (.d (.bool (a == b)))
  | .neq=>.val (tk P t=.bool) (.d (.bool (a != b)))
  |_=>.no
 | .d (.agg a),.d (.agg b)=>match b9 P t with
  |some ks=>match ec ks a b with
   |some r=>match op with
    | .eql=>.val True (.d (.bool r))
    | .neq=>.val True (.d (.bool (!r)))
    |_=>.no
   |none=>.no
  |none=>.no
 |_,_=>.no
theorem H3(P:Program)(w:World)(op:BinOp)(t:TypeId)(x y:Operand)(a b:Value)(h:(∀c,a≠.agg c)/\a≠.nilIface):(eqGuard op t x y a b).run P w=.ok () w:=by
 unfold eqGuard;cases a<;>first|exact absurd rfl (h.1 _)|exact absurd rfl h.2|(cases op<;>simp)
theorem PN(P:Program)(w:World)(op:BinOp)(t:TypeId)(k:IntKind)(a b:Int)(c d)(h:eP op k a b=some (c,d))(I:c=true):∃v,(binOp op t (.int k a) (.int k b)).run P w=.ok v w/\∀F,aO w F d v:=by
 cases op<;>simp only[eP,abX,adL,reduceCtorEq]at h<;>(try exact h.elim)<;>obtain⟨rfl,rfl⟩:=h<;>(try simp only[abQ]at I)<;>
  refine⟨_,by simp only[binOp,Op.intArith,Op.intDiv,Op.intBits,Op.intCmp,ne_eq,not_true_eq_false,ad0,I,Sem.run_pure,gt_iff_lt,ge_iff_le];rfl,λF=>by first|exact .int _ _|exact .bool _⟩
theorem zn(P:Program)(w:World)(op:BinOp)(t:TypeId)(k A5:IntKind)(a b:Int)(c d)(h:Ci op k a b=some (c,d))(I:c=true):∃v,(binOp op t (.int k a) (.int A5 b)).run P w=.ok v w/\∀F,aO w F d v:=by
 cases op<;>simp only[Ci,abX,adL,reduceCtorEq]at h<;>(try exact h.elim)<;>obtain⟨rfl,rfl⟩:=h<;>(try simp only[abQ]at I)<;>
  refine⟨_,by simp[binOp,Op.shift,show ¬b<0 by omega];rfl,λF=>by first|exact .int _ _|exact .bool _⟩
theorem PO(P:Program)(w:World)(op:BinOp)(t:TypeId)(a b:ByteArray)(c d)(h:mw op a.data.toList b.data.toList=some (c,d))(I:c=true):∃v,(binOp op t (.string a) (.string b)).run P w=.ok v w/\∀F,aO w F d v:=by
 have Ac:a.size=a.data.toList.length:=by rw[ace];rfl
 have Ad:b.size=b.data.toList.length:=by rw[ace];rfl
 cases op<;>simp only[mw,abX,adL,reduceCtorEq]at h<;>(try exact h.elim)<;>obtain⟨rfl,rfl⟩:=h
 case add=>
  simp only[abQ]at I;have B0:¬(9223372036854775807<((a.size:Int)+(b.size:Int))):=by omega
  refine⟨.string (a++b),?_,λF=>.str _ _ (by simp)⟩;have An:IntKind.i64.max=9223372036854775807:=by decide
  have:¬(((a.size+b.size:Nat):Int)>IntKind.i64.max):=by rw[An];push_cast;omega
  simp only[binOp,Op.stringOp,this,ad0,Sem.run_pure]
 all_goals
  refine⟨_,by simp only[binOp,Op.stringOp,ByteArray.toList_eq,Sem.run_pure],λF=>.bool _⟩
theorem PQ{P:Program}{w:World}{F:Nat->Prop}{x y:D}{a b:Value}{r:Bool}{t:TypeId}(d:Nat)(h:tf (tk P t) x y=some r)(Y:aO w F x a)(A':aO w F y b):
 (Op.equalIn (d+1) t a b).run P w=.ok r w:=by
 unfold tf at h;split at h
 ·rename_i A5 k n Ae m A8;split at h
  ·rename_i he;subst he;simp at h;subst h;cases Y;cases A';exact run_equalIn_int w d t k _ n m (wb A8)
  ·cases h
 ·rename_i n m A8;simp at h;subst h;cases Y;cases A';exact run_equalIn_bool' w d t n m (Fb A8)
 ·rename_i n m A8;simp at h;subst h;cases Y with|str n _ Ao=>cases A' with|str m _ hm=>
  subst Ao;subst hm;rw[run_equalIn_string w d t n m (nH A8),ByteArray.toList_eq,ByteArray.toList_eq]
 ·cases h
theorem tg{P:Program}{w:World}{t:TypeId}{cs:Array Value}{off:Nat}{v:Value}(h:(tk P t).agg=false)(A6:tk P t≠.other)(E:cs[off]?=some v):(part t cs off).run P w=.ok v w:=by
 simp[part,qQ A6,h,E]
theorem qz:∀{ks:List TK}{xs N:List D}{r:Bool},ec ks xs N=some r->xs.length=ks.length/\N.length=ks.length
 |[],[],[],_,_=>⟨rfl,rfl⟩
 |k::ks,x::xs,y::N,r,h=>by
  simp only[ec]at h;split at h
  ·rename_i J;obtain⟨a,b⟩:=qz J;simp[a,b]
  ·cases h
 |[],[],_::_,_,h=>by simp[ec]at h
 |[],_::_,_,_,h=>by simp[ec]at h
 |_::_,[],_,_,h=>by simp[ec]at h
 |_::_,_::_,[],_,h=>by simp[ec]at h
theorem BI:∀{a b:List TK}{xs N:List D}{r:Bool},ec (a++b) xs N=some r->∃p q,ec a (xs.take a.length) (N.take a.length)=some p/\ec b (xs.drop a.length) (N.drop a.length)=some q/\r=(p&&q)
 |[],b,xs,N,r,h=>⟨true,r,by simp[ec],by simpa using h,by simp⟩
 |k::a,b,x::xs,y::N,r,h=>by
  simp only[List.cons_append,ec]at h;split at h
  ·rename_i u v M J;obtain⟨p,q,A2,A3,Ap⟩:=BI J;cases h;refine⟨u&&p,q,?_,by simpa using A3,by rw[Ap,Bool.and_assoc]⟩;simp only[ach,List.take_succ_cons,ec,M,A2]
  ·cases h
 |_::_,_,[],_,_,h=>by simp[ec]at h
 |_::_,_,_::_,[],_,h=>by simp[ec]at h
theorem xl{P:Program}{w:World}{F:Nat->Prop}{rec:TypeId->Option (List TK)}{Af:Nat}{T U:Array Value}
 (ih:∀(t:TypeId)(ks:List TK),rec t=some ks->∀(o:Nat)(xs N:List D)(r:Bool),ec ks xs N=some r->(∀(i:Nat) c v,xs[i]?=some c->T[o+i]?=some v->aO w F c v)->(∀(i:Nat) c v,N[i]?=some c->U[o+i]?=some v->aO w F c v)->
  o+xs.length<=T.size->o+N.length<=U.size->∃a b,(part t T o).run P w=.ok a w/\(part t U o).run P w=.ok b w/\(Op.equalIn Af t a b).run P w=.ok r w):
 ∀(Z:List Field)(o:Nat)(ks:List TK),zj rec Z o=some ks->∀(xs N:List D)(r:Bool),ec ks xs N=some r->(∀(i:Nat) c v,xs[i]?=some c->T[o+i]?=some v->aO w F c v)->(∀(i:Nat) c v,N[i]?=some c->U[o+i]?=some v->aO w F c v)->
  o+xs.length<=T.size->o+N.length<=U.size->(Op.eqFields Af T U Z).run P w=.ok r w
 |[],o,ks,O,xs,N,r,h,_,_,_,_=>by
  simp only[zj,abX]at O;subst O;cases xs<;>cases N<;>simp[ec]at h;subst h;simp[Op.eqFields]
 |f::Z,o,ks,O,xs,N,r,h,Y,A',AJ,AK=>by
  simp only[zj]at O;split at O
  ·rename_i A9;obtain⟨Aq,Ar⟩:=A9;split at O
   ·rename_i AF M;split at O
    ·rename_i Ae J;cases O;obtain⟨p,q,A2,A3,rfl⟩:=BI h;obtain⟨AG,AH⟩:=qz h;simp only[acg]at AG AH;obtain⟨a,b,g1,g2,g3⟩:=ih f.type AF M o _ _ p A2 (λi c v I E=>Y i c v (by rw[abZ]at I;split at I;exact I;cases I) E) (λi c v I E=>A' i c v (by rw[abZ]at I;split at I;exact I;cases I) E) (by simp;omega) (by simp;omega);have g4:=xl ih Z (o+AF.length) Ae J _ _ q A3 (λi c v I E=>Y (AF.length+i) c v (by rw[adY]at I;exact I) (by rw[<-adN];exact E)) (λi c v I E=>A' (AF.length+i) c v (by rw[adY]at I;exact I) (by rw[<-adN];exact E)) (by simp;omega) (by simp;omega);rw[<-Ar]at g1 g2;simp only[Op.eqFields,Aq,ne_eq,not_false_eq_true,aes,Sem.run_bind,g1,g2,g3,Result.andThen_ok,Sem.run_ite,Sem.run_pure,g4];cases p<;>simp
    ·cases O
   ·cases O
  ·cases O
theorem H5{P:Program}{w:World}{F:Nat->Prop}(d:Nat):∀(n:Nat)(T U:Array Value)(t:TypeId)(ks:List TK),Dl P n t=some ks->∀(o:Nat)(xs N:List D)(r:Bool),ec ks xs N=some r->
 (∀(i:Nat) c v,xs[i]?=some c->T[o+i]?=some v->aO w F c v)->(∀(i:Nat) c v,N[i]?=some c->U[o+i]?=some v->aO w F c v)->o+xs.length<=T.size->o+N.length<=U.size->
 ∃a b,(part t T o).run P w=.ok a w/\(part t U o).run P w=.ok b w/\(Op.equalIn (d+n) t a b).run P w=.ok r w
 |0,_,_,_,_,O,_,_,_,_,_,_,_,_,_=>by cases O
 |n+1,T,U,t,ks,O,o,xs,N,r,h,Y,A',AJ,AK=>by
  have one:∀k:TK,tk P t=k->k.agg=false->k≠.other->ks=[k]->∃a b,(part t T o).run P w=.ok a w/\(part t U o).run P w=.ok b w/\(Op.equalIn (d+(n+1)) t a b).run P w=.ok r w:=by
   rintro k A0 Ag Ah rfl;obtain⟨AG,AH⟩:=qz h;match xs,N,AG,AH with
   |[x],[y],_,_=>
    simp only[ec]at h;split at h
    ·rename_i u v M J;cases h;have E:v=true:=by simpa using J.symm
     subst E;simp only[Bool.and_true];simp only[ach,aeI]at AJ AK;have A2:=tg (P:=P) (w:=w) (t:=t) (by rw[A0];exact Ag) (by rw[A0];exact Ah) (show T[o]?=some T[o] by simp[show o<T.size by omega]);have A3:=tg (P:=P) (w:=w) (t:=t) (by rw[A0];exact Ag) (by rw[A0];exact Ah) (show U[o]?=some U[o] by simp[show o<U.size by omega]);exact⟨_,_,A2,A3,PQ (d+n) (by rw[A0];exact M) (Y 0 x _ rfl (by simp[show o<T.size by omega])) (A' 0 y _ rfl (by simp[show o<U.size by omega]))⟩
    ·cases h
  unfold Dl at O;split at O
  ·rename_i k A0;exact one _ A0 rfl (by simp) (by cases O;rfl)
  ·rename_i A0;exact one _ A0 rfl (by simp) (by cases O;rfl)
  ·rename_i A0;exact one _ A0 rfl (by simp) (by cases O;rfl)
  ·rename_i A0;split at O
   ·rename_i Z hu;split at O
    ·rename_i AL;split at O
     ·rename_i AC AM;split at O
      ·rename_i As;cases O;obtain⟨AG,AH⟩:=qz h;have Ai:∀cs:Array Value,(part t cs o).run P w=.ok (.agg (cs.extract o (o+ks.length))) w:=by
        intro cs;have Ac:=qQ (P:=P) (t:=t) (w:=w) (by rw[A0];simp);simp[part,Ac,A0,TK.agg,run_sizeOf As]
       refine⟨_,_,Ai T,Ai U,?_⟩;have A9:P.fieldsOf t=Z:=by simp[Program.fieldsOf,hu]
       show (Op.equalIn (d+n+1) t _ _).run P w=_;rw[run_equalIn_struct w (d+n) t _ _ (by rw[A9];exact hu) AL,A9];have hex:∀(cs:Array Value)(i:Nat)(v:Value),i<ks.length->(cs.extract o (o+ks.length))[0+i]?=some v->cs[o+i]?=some v:=by
        intro cs i v hi E;rw[aeF,Array.getElem?_extract]at E;split at E
        ·exact E
        ·cases E
       refine xl (F:=F) (λA7 AC AN AO AP AQ AR AS AT AU AW AX=>H5 d n _ _ A7 AC AN AO AP AQ AR AS AT AU AW AX) Z.toList 0 ks AM xs N r h (λi c v I E=>?_) (λi c v I E=>?_) ?_ ?_
       ·have hi:=(abM.1 I).1;exact Y i c v I (hex T i v (by omega) E)
       ·have hi:=(abM.1 I).1;exact A' i c v I (hex U i v (by omega) E)
       ·simp;omega
       ·simp;omega
      ·cases O
     ·cases O
    ·cases O
   ·cases O
  ·cases O
theorem LU(P:Program)(S:St)(o:Oper)(op:BinOp)(t A7:TypeId)(x y:Operand)(A6:o.op=.binOp op t x y A7)(Y:(S.aq x).1=true)(A':(S.aq y).1=true):aG P S o (pX P op t (S.aq x).2 (S.aq y).2):=by
 have AB:∀(a:Act)(w:World)(v:Value),(∀c,a.eval x≠.agg c)->a.eval x≠.nilIface->(binOp op t (a.eval x) (a.eval y)).run P w=.ok v w->(execOp a.eval o).run P w=.ok (.value v) w:=by
  intro a w v M J h;simp[execOp,A6,H3 P w op t x y _ (a.eval y) ⟨M,J⟩,h]
 unfold pX;split
 ·rename_i k n A5 m V AA;have H:∀{φ G a w},Rel φ G S a w->a.eval x=.int k n/\a.eval y=.int A5 m:=λA=>by
   have M:=A.aq x Y;have J:=A.aq y A';rw[V]at M;rw[AA]at J;exact⟨jL M,jL J⟩
  split
  ·refine aG.pure λI φ G a w A=>?_;obtain⟨v,M,J⟩:=zn P w .shl t k A5 n m _ _ rfl (amk I);exact⟨v,AB a w v (by simp[(H A).1]) (by simp[(H A).1]) (by rw[(H A).1,(H A).2];exact M),.d _ _ (J _)⟩
  ·refine aG.pure λI φ G a w A=>?_;obtain⟨v,M,J⟩:=zn P w .shr t k A5 n m _ _ rfl (amk I);exact⟨v,AB a w v (by simp[(H A).1]) (by simp[(H A).1]) (by rw[(H A).1,(H A).2];exact M),.d _ _ (J _)⟩
  ·split
   ·rename_i c d h;refine aG.pure ?_;rintro ⟨rfl,I⟩ φ G a w A;obtain⟨v,M,J⟩:=PN P w op t k n m c d h I;exact⟨v,AB a w v (by simp[(H A).1]) (by simp[(H A).1]) (by rw[(H A).1,(H A).2];exact M),.d _ _ (J _)⟩
   ·trivial
 ·rename_i s u V AA;split
  ·rename_i c d h;refine aG.qy λI φ G a w A=>?_;have M:=A.aq x Y;have J:=A.aq y A';rw[V]at M;rw[AA]at J;obtain⟨At,A2,rfl⟩:=tc M;obtain⟨Au,A3,rfl⟩:=tc J;obtain⟨v,AY,AZ⟩:=PO P w op t At Au c d h I;exact⟨v,AB a w v (by simp[A2]) (by simp[A2]) (by rw[A2,A3];exact AY),.d _ _ (AZ _)⟩
  ·trivial
 ·rename_i n m V AA;have H:∀{φ G a w},Rel φ G S a w->a.eval x=.bool n/\a.eval y=.bool m:=λA=>by
   have M:=A.aq x Y;have J:=A.aq y A';rw[V]at M;rw[AA]at J;exact⟨sN M,sN J⟩
  split
  ·refine aG.pure λI φ G a w A=>⟨.bool (n == m),AB a w _ (by simp[(H A).1]) (by simp[(H A).1]) ?_,.d _ _ (.bool _)⟩;rw[(H A).1,(H A).2];simp[binOp,Op.equal,Op.maxDepth,run_equalIn_bool' w 9999 t n m (Fb I)]
  ·refine aG.pure λI φ G a w A=>⟨.bool (n != m),AB a w _ (by simp[(H A).1]) (by simp[(H A).1]) ?_,.d _ _ (.bool _)⟩;rw[(H A).1,(H A).2];simp[binOp,Op.equal,Op.maxDepth,run_equalIn_bool' w 9999 t n m (Fb I),bne]
  ·trivial
 ·rename_i xs N V AA;split
  ·rename_i ks A1;split
   ·rename_i r Av;have key:∀{φ G a w},Rel φ G S a w->∃T U,a.eval x=.agg T/\a.eval y=.agg U/\(Op.equal t (.agg T) (.agg U)).run P w=.ok r w/\(eqGuard op t x y (.agg T) (.agg U)).run P w=.ok () w:=by
     intro φ G a w A;have M:=A.aq x Y;have J:=A.aq y A';rw[V]at M;rw[AA]at J;generalize a.eval x=B1 at M;generalize a.eval y=B2 at J;cases M with|d _ _ M=>
     cases J with|d _ _ J=>
     cases M with|agg _ T AJ B3 Aw=>
     cases J with|agg _ U AK B4 Ax=>
     unfold b9 at A1;split at A1
     ·rename_i Z hu;split at A1
      ·rename_i Dj;have A9:P.fieldsOf t=Z:=by simp[Program.fieldsOf,hu]
       have A8:tk P t=.struct:=by simp[tk,hu]
       unfold Dl at A1;simp only[A8,hu]at A1;split at A1
       ·rename_i AL;split at A1
        ·rename_i AC AM;split at A1
         ·cases A1;refine⟨T,U,rfl,rfl,?_,?_⟩
          ·unfold Op.equal Op.maxDepth;rw[run_equalIn_struct w 9999 t T U (by rw[A9];exact hu) AL,A9];exact xl (F:=Fo G φ S.mem) (λA7 AC AN AO AP AQ AR AS AT AU AW AX=>H5 9992 7 _ _ A7 AC AN AO AP AQ AR AS AT AU AW AX) Z.toList 0 ks AM xs N r Av (λi c v I E=>Aw i c v I (by simpa using E)) (λi c v I E=>Ax i c v I (by simpa using E)) (by omega) (by omega)
          ·cases op<;>simp[eqGuard,Dj]
         ·cases A1
        ·cases A1
       ·cases A1
      ·cases A1
     ·cases A1
    split
    ·refine aG.pure λ_ φ G a w A=>?_;obtain⟨T,U,A2,A3,M,J⟩:=key A;exact⟨.bool r,by simp[execOp,A6,A2,A3,J,binOp,M],.d _ _ (.bool _)⟩
    ·refine aG.pure λ_ φ G a w A=>?_;obtain⟨T,U,A2,A3,M,J⟩:=key A;exact⟨.bool (!r),by simp[execOp,A6,A2,A3,J,binOp,M],.d _ _ (.bool _)⟩
    ·trivial
   ·trivial
  ·trivial
 ·trivial
def jB(P:Program)(m:Mem)(neg:Bool)(t:TypeId)(x:AV):Value->du
 | .slice none 0 0=>match tk P t with
  | .slice _=>match x with
   | .d (.list (_::_))=>.val true (.d (.bool neg))
   | .lit (.slice none 0 0)=>.val true (.d (.bool (!neg)))
   | .nn=>.val true (.d (.bool neg))
   | .vec k ak _ len=>match Mem.get m k with
    |some ⟨_,v,.vec _ _⟩=>.val (v=ak/\0<len) (.d (.bool neg))
    |_=>.no
   |_=>.no
  |_=>.no
 | .pointer none=>match tk P t with
  | .ptr _=>match x with
   | .lit (.pointer none)=>.val true (.d (.bool (!neg)))
   | .ptr k ak _=>match Mem.get m k with
    |some ⟨_,v,_⟩=>.val (v=ak) (.d (.bool neg))
    |_=>.no
   |_=>.no
  |_=>.no
 | .nilIface=>match tk P t with
  | .iface=>match x with
   | .gw _ _=>.val true (.d (.bool neg))
   | .err=>.val true (.d (.bool neg))
   | .lit .nilIface=>.val true (.d (.bool (!neg)))
   |_=>.no
  |_=>.no
 |_=>.no
theorem PT{φ w F d A_ v}(h:aB φ w F (.d (.list (d::A_))) v):∃b off cap,v=.slice (some ⟨b,off,none⟩) (A_.length+1) cap:=by
 cases h with|d _ _ h=>
 cases h with|list _ b off cap sz vs=>exact⟨b,off,cap,rfl⟩
theorem adW{P:Program}{t e:TypeId}(h:tk P t=.ptr e):P.underlying t=some (.pointer e):=by
 unfold tk at h;split at h<;>simp_all
theorem WL{P:Program}{t:TypeId}(h:tk P t=.iface):∃ms,P.underlying t=some (.interface ms):=by
 unfold tk at h;split at h<;>simp_all
theorem qA{P:Program}(w:World)(d:Nat){t e:TypeId}(a:Option Addr)(n c:Nat)(h:P.underlying t=some (.slice e)):
 (Op.equalIn (d+1) t (.slice a n c) (.slice none 0 0)).run P w=.ok a.isNone w:=by
 cases a<;>simp[Op.equalIn,run_underlying h]
theorem Gb{P:Program}(w:World)(d:Nat){t e:TypeId}(a:Option Addr)(h:P.underlying t=some (.pointer e)):
 (Op.equalIn (d+1) t (.pointer a) (.pointer none)).run P w=.ok a.isNone w:=by
 cases a<;>simp[Op.equalIn,run_underlying h]
theorem BJ{P:Program}(w:World)(d:Nat){t:TypeId}{ms}(Ay:TypeId)(v:Value)(h:P.underlying t=some (.interface ms)):
 (Op.equalIn (d+1) t (.iface Ay v) .nilIface).run P w=.ok false w:=by
 simp[Op.equalIn,run_underlying h]
theorem H7{P:Program}(w:World)(d:Nat){t:TypeId}{ms}(h:P.underlying t=some (.interface ms)):
 (Op.equalIn (d+1) t .nilIface .nilIface).run P w=.ok true w:=by
 simp[Op.equalIn,run_underlying h]
theorem aco{P:Program}{o:Oper}{neg:Bool}{t A7:TypeId}{x:Operand}{v:Value}(A6:o.op=.binOp (if neg then .neq else .eql) t x (.const v) A7){a:Act}{w:World}{b:Bool}
 (M:∀c,a.eval x≠.agg c) (Aj:v=.slice none 0 0\/v=.pointer none\/v=.nilIface) (Ak:(∀k n,a.eval x≠.int k n)/\(∀k n,a.eval x≠.float k n)/\(∀k n m,a.eval x≠.complex k n m)/\(∀s,a.eval x≠.string s))
 (h:(Op.equalIn 10000 t (a.eval x) v).run P w=.ok b w):(execOp a.eval o).run P w=.ok (.value (.bool (if neg then !b else b))) w:=by
 have e:a.eval (.const v)=v:=rfl;have AD:(eqGuard (if neg then .neq else .eql) t x (.const v) (a.eval x) v).run P w=.ok () w:=by
  unfold eqGuard;generalize a.eval x=u at M⊢;rcases Aj with rfl|rfl|rfl<;>cases u<;>cases neg<;>simp
 have Ad:(binOp (if neg then .neq else .eql) t (a.eval x) v).run P w=.ok (.bool (if neg then !b else b)) w:=by
  generalize a.eval x=u at h Ak⊢;obtain⟨g1,g2,g3,g4⟩:=Ak;rcases Aj with rfl|rfl|rfl<;>cases u<;>cases neg<;>simp_all [binOp,Op.equal,Op.maxDepth]
 simp only[execOp,A6,e,Sem.run_bind,AD,Result.andThen_ok,Ad,Sem.run_pure]
theorem LV(P:Program)(S:St)(o:Oper)(neg:Bool)(t A7:TypeId)(x:Operand)(v:Value)(A6:o.op=.binOp (if neg then .neq else .eql) t x (.const v) A7)(Y:(S.aq x).1=true):aG P S o (jB P S.mem neg t (S.aq x).2 v):=by
 have go:∀{φ G a w}{b:Bool},Rel φ G S a w->(∀c,a.eval x≠.agg c)->(v=.slice none 0 0\/v=.pointer none\/v=.nilIface)->((∀k n,a.eval x≠.int k n)/\(∀k n,a.eval x≠.float k n)/\(∀k n m,a.eval x≠.complex k n m)/\(∀s,a.eval x≠.string s))->
  (Op.equalIn 10000 t (a.eval x) v).run P w=.ok b w->∃AI,(execOp a.eval o).run P w=.ok (.value AI) w/\aB φ w (Fo G φ S.mem) (.d (.bool (if neg then !b else b))) AI:=by
  intro φ G a w b A M J AY AZ;exact⟨_,aco A6 M J AY AZ,.d _ _ (.bool _)⟩
 have B5:∀{b:Bool},(if neg=true then !b else b)=(if neg=true then !b else b):=rfl;unfold jB;split
 ·split
  ·rename_i e AE;have A4:=fL AE;split
   ·rename_i d A_ V;refine aG.qy λ_ φ G a w A=>?_;have E:=A.aq x Y;rw[V]at E;obtain⟨b,off,cap,H⟩:=PT E;have:=go (b:=false) A (by simp[H]) (.inl rfl) (by simp[H]) (by rw[H];exact qA w 9999 _ _ _ A4);cases neg<;>simpa using this
   ·rename_i V;refine aG.qy λ_ φ G a w A=>?_;have E:=A.aq x Y;rw[V]at E;generalize H:a.eval x=u at E;cases E;have:=go (b:=true) A (by simp[H]) (.inl rfl) (by simp[H]) (by rw[H];exact qA w 9999 _ _ _ A4);cases neg<;>simpa using this
   ·rename_i V;refine aG.qy λ_ φ G a w A=>?_;have E:=A.aq x Y;rw[V]at E;generalize H:a.eval x=u at E;cases E;have:=go (b:=false) A (by simp[H]) (.inl rfl) (by simp[H]) (by rw[H];exact qA w 9999 _ _ _ A4);cases neg<;>simpa using this
   ·rename_i k ak off len V;split
    ·rename_i key AI sz ai AD;refine aG.pure ?_;rintro ⟨rfl,B6⟩ φ G a w A;have E:=A.aq x Y;rw[V]at E;obtain⟨hm,O,L,Aa,Ab,Az⟩:=A.mem.get AD;generalize H:a.eval x=u at E;cases E with
     |vec _ _ _ _ _ L' Al _ h _=>
      rw[Aa]at Al;cases Al;obtain⟨ao,cap,rfl,B7,B'⟩:=h Ab.symm;obtain⟨rfl,_⟩:=B' (by omega);have:=go (b:=false) A (by simp[H]) (.inl rfl) (by simp[H]) (by rw[H];exact qA w 9999 _ _ _ A4);cases neg<;>simpa using this
    ·trivial
   ·trivial
  ·trivial
 ·split
  ·rename_i e AE;have A4:=adW AE;split
   ·rename_i V;refine aG.qy λ_ φ G a w A=>?_;have E:=A.aq x Y;rw[V]at E;generalize H:a.eval x=u at E;cases E;have:=go (b:=true) A (by simp[H]) (.inr (.inl rfl)) (by simp[H]) (by rw[H];exact Gb w 9999 _ A4);cases neg<;>simpa using this
   ·rename_i k ak off V;split
    ·rename_i key AI c AD;refine aG.pure ?_;rintro rfl φ G a w A;have E:=A.aq x Y;rw[V]at E;obtain⟨hm,O,L,Aa,Ab,Az⟩:=A.mem.get AD;have H:=E.qR Aa Ab;have:=go (b:=false) A (by simp[H]) (.inr (.inl rfl)) (by simp[H]) (by rw[H];exact Gb w 9999 _ A4);cases neg<;>simpa using this
    ·trivial
   ·trivial
  ·trivial
 ·split
  ·rename_i AE;obtain⟨ms,A4⟩:=WL AE;split
   ·rename_i B8 B9 V;refine aG.qy λ_ φ G a w A=>?_;have E:=A.aq x Y;rw[V]at E;generalize H:a.eval x=u at E;cases E;have:=go (b:=false) A (by simp[H]) (.inr (.inr rfl)) (by simp[H]) (by rw[H];exact BJ w 9999 _ _ A4);cases neg<;>simpa using this
   ·rename_i V;refine aG.qy λ_ φ G a w A=>?_;have E:=A.aq x Y;rw[V]at E;generalize H:a.eval x=u at E;cases E;have:=go (b:=false) A (by simp[H]) (.inr (.inr rfl)) (by simp[H]) (by rw[H];exact BJ w 9999 _ _ A4);cases neg<;>simpa using this
   ·rename_i V;refine aG.qy λ_ φ G a w A=>?_;have E:=A.aq x Y;rw[V]at E;generalize H:a.eval x=u at E;cases E;have:=go (b:=true) A (by simp[H]) (.inr (.inr rfl)) (by simp[H]) (by rw[H];exact H7 w 9999 A4);cases neg<;>simpa using this
   ·trivial
  ·trivial
 ·trivial
def iR(s:List UInt8)(i:Nat):UInt8:=s[i]?.getD 0
def pY(P:Program)(t:TypeId)(x i:AV):du:=
 match i with
 | .d (.int _ n)=>match x with
  | .d (.str s)=>.val (tk P t=.str/\0<=n/\n.toNat<s.length) (.d (.int .u8 (iR s n.toNat).toNat))
  | .d (.agg cs)=>match tk P t with
   | .arr len e=>match (tk P e).agg,fm P e with
    |false,some 1=>.val (0<=n/\n.toNat<len/\len<=cs.length/\tk P e≠.other) (.d (D.at cs n.toNat))
    |true,some sz=>.val (0<=n/\n.toNat<len/\len*sz<=cs.length) (.d (.agg ((cs.drop (n.toNat*sz)).take sz)))
    |_,_=>.no
   |_=>.no
  |_=>.no
 |_=>.no
theorem S9(b:ByteArray)(i:Nat):b[i]?=b.data.toList[i]?:=by
 by_cases h:i<b.size
 ·have AI:i<b.data.size:=h;rw[getElem?_pos b i h,afk,getElem?_pos b.data i AI];rfl
 ·have AI:¬i<b.data.size:=h;rw[getElem?_neg b i h,afk,getElem?_neg b.data i AI]
theorem H8{P:Program}{w:World}{t:TypeId}{b:ByteArray}{k:IntKind}{n:Int}(AA:tk P t=.str)(T:0<=n)(I:n.toNat<b.data.toList.length):
 (Instr.index t (.string b) (.int k n)).run P w=.ok (.int .u8 (iR b.data.toList n.toNat).toNat) w:=by
 have e:b[n.toNat]?=some (iR b.data.toList n.toNat):=by rw[S9];simp only[iR];rw[ad2 I];rfl
 simp only[Instr.index,asIntOf,Sem.run_bind,Sem.run_pure,Result.andThen_ok,run_underlying (nH AA),T,aes,e]
theorem Gc{P:Program}{w:World}{t:TypeId}{cs:Array Value}{off n:Nat}(h:(tk P t).agg=true)(Y:fm P t=some n):(part t cs off).run P w=.ok (.agg (cs.extract off (off+n))) w:=by
 have J:tk P t≠.other:=by intro AI;rw[AI]at h;cases h
 simp[part,qQ J,h,run_sizeOf Y]
theorem yE{w F}{cs:List D}{a:Array Value}(h:aO w F (.agg cs) (.agg a))(o n:Nat)(hle:o+n<=cs.length):aO w F (.agg ((cs.drop o).take n)) (.agg (a.extract o (o+n))):=by
 have U:=h.cells;cases h with|agg _ _ I Ab E=>
 have M:=aO.oy (w:=w) (F:=F) (cs:=(cs.drop o).take n) (vs:=(a.toList.drop o).take n) (by simp;omega)
  (λv AF=>U.2.1 v (by simpa [Value.cells]using adM (adV AF)))
  (λi c v A M=>by
   rw[abZ]at A M;split at A
   ·rename_i hi;simp only[hi,aes]at M;exact E (o+i) c v (by simpa using A) (by simpa using M)
   ·cases A)
 have e:((a.toList.drop o).take n).toArray=a.extract o (o+n):=by
  apply Array.ext';simp
 rwa [e]at M
theorem Ta(P:Program)(S:St)(o:Oper)(t:TypeId)(x i:Operand)(J:o.op=.index t x i)(H:(S.aq x).1=true)(hi:(S.aq i).1=true):aG P S o (pY P t (S.aq x).2 (S.aq i).2):=by
 unfold pY;split
 ·rename_i k n AW;split
  ·rename_i s N;refine aG.pure ?_;rintro ⟨AA,T,I⟩ φ G a w E;have A:=E.aq x H;have M:=E.aq i hi;rw[N]at A;rw[AW]at M;obtain⟨b,A1,rfl⟩:=tc A;exact⟨_,by simp only[execOp,J,A1,jL M,Sem.run_bind,H8 AA T I];rfl,.d _ _ (.int _ _)⟩
  ·rename_i cs N;split
   ·rename_i len e O;split
    ·rename_i AX Y;refine aG.pure ?_;rintro ⟨T,I,hle,AY⟩ φ G a w E;have A:=E.aq x H;have M:=E.aq i hi;rw[N]at A;rw[AW]at M;generalize V:a.eval x=av at A;cases A with|d _ _ A=>
     cases A with|agg _ A4 Ap Aq Ac=>
     have AB:n<(len:Int):=by omega
     have Ad:n.toNat<A4.size:=by omega
     refine⟨A4[n.toNat],?_,.d _ _ (Ac n.toNat _ _ (jG (by omega)) (by simp[Ad]))⟩;have AC:=tg (P:=P) (w:=w) (t:=e) (cs:=A4) (off:=n.toNat*1) AX AY (v:=A4[n.toNat]) (by simp[Ad]);simp only[amm]at AC;simp[execOp,J,V,jL M,Instr.index,asIntOf,run_underlying (te O),T,AB,run_sizeOf Y,AC]
    ·rename_i sz AX Y;refine aG.pure ?_;rintro ⟨T,I,hle⟩ φ G a w E;have A:=E.aq x H;have M:=E.aq i hi;rw[N]at A;rw[AW]at M;generalize V:a.eval x=av at A;cases A with|d _ _ A=>
     have Ar:=A;cases A with|agg _ A4 Ap Aq Ac=>
     have AB:n<(len:Int):=by omega
     have As:n.toNat*sz+sz<=cs.length:=by
      have:(n.toNat+1)*sz<=len*sz:=ab0 _ I;rw[aeq]at this;omega
     refine⟨_,?_,.d _ _ (yE Ar (n.toNat*sz) sz As)⟩;have AC:=Gc (P:=P) (w:=w) (t:=e) (cs:=A4) (off:=n.toNat*sz) AX Y;simp[execOp,J,V,jL M,Instr.index,asIntOf,run_underlying (te O),T,AB,run_sizeOf Y,AC]
    ·trivial
   ·trivial
  ·trivial
 ·trivial
def bound(m:Option AV)(AN:Int):Option Int:=
 match m with
 |none=>some AN
 |some (.d (.int _ n))=>some n
 |some _=>none
def kG(P:Program)(m:Mem)(t:TypeId)(x:AV)(lo hi:Option AV):du:=
 match x with
 | .d (.str s)=>match bound lo 0,bound hi s.length with
  |some l,some h=>.val (tk P t=.str/\0<=l/\l<=h/\h.toNat<=s.length) (.d (.str ((s.take h.toNat).drop l.toNat)))
  |_,_=>.no
 | .d (.list xs)=>match tk P t with
  | .slice e=>match fm P e,bound lo 0,bound hi xs.length with
   |some sz,some l,some h=>.val (0<=l/\l<=h/\h.toNat<=xs.length/\(∀d∈xs,d.size=sz)) (.d (.list ((xs.take h.toNat).drop l.toNat)))
   |_,_,_=>.no
  |_=>.no
 | .vec k ak off len=>match tk P t,Mem.get m k with
  | .slice e,some ⟨_,v,.vec A2 _⟩=>match fm P e,bound lo 0,bound hi len with
   |some sz,some l,some h=>.val (v=ak/\A2=sz/\0<=l/\l<=h/\h.toNat<=len) (.vec k ak (off+l.toNat) (h.toNat-l.toNat))
   |_,_,_=>.no
  | .slice e,some ⟨_,v,.vv _ _⟩=>match fm P e,bound lo 0,bound hi len with
   |some sz,some l,some h=>.val (v=ak/\sz=1/\0<=l/\l<=h/\h.toNat<=len) (.vec k ak (off+l.toNat) (h.toNat-l.toNat))
   |_,_,_=>.no
  |_,_=>.no
 | .cN k ak i j=>match tk P t,Mem.get m k with
  | .arr n e,some ⟨_,v,.vec A2 ai⟩=>match fm P e,bound lo 0,bound hi n with
   |some sz,some l,some h=>.val (v=ak/\A2=sz/\i=0/\j=0/\n<=ai.length/\0<=l/\l<=h/\h.toNat<=n) (.vec k ak l.toNat (h.toNat-l.toNat))
   |_,_,_=>.no
  |_,_=>.no
 | .ptr k ak off=>match tk P t,Mem.get m k with
  | .arr n e,some ⟨_,v,.box cs⟩=>match fm P e,bound lo 0,bound hi n with
   |some sz,some l,some h=>.val (v=ak/\sz=1/\off+n<=cs.length/\0<=l/\l<=h/\h.toNat<=n) (.vec k ak (off+l.toNat) (h.toNat-l.toNat))
   |_,_,_=>.no
  |_,_=>.no
 |_=>.no
theorem iz{P:Program}{w:World}{isS:Bool}{len cap:Nat}{lo hi:Option Value}{l h:Int}
 (A6:(lo=none/\l=0)\/∃k,lo=some (.int k l)) (A7:(hi=none/\h=len)\/∃k,hi=some (.int k h)) (T:0<=l) (hle:l<=h) (A0:h.toNat<=cap):
 (Instr.sliceBounds isS len cap lo hi none).run P w=.ok (l.toNat,h.toNat,cap) w:=by
 have A:h<=(cap:Int):=by omega
 have M:0<=h:=by omega
 have AJ:l<=(h.toNat:Int):=by omega
 rcases A6 with ⟨rfl,rfl⟩|⟨k,rfl⟩<;>rcases A7 with ⟨rfl,rfl⟩|⟨B6,rfl⟩<;>
  simp_all [Instr.sliceBounds,Instr.sliceBound,asIntOf]
theorem gL{S:St}{φ G a w}(E:Rel φ G S a w){x:Option Operand}{AN n:Int}(H:∀y,x=some y->(S.aq y).1=true)(h:bound (x.map λy=>(S.aq y).2) AN=some n):
 (x.map a.eval=none/\n=AN)\/∃k,x.map a.eval=some (.int k n):=by
 cases x with
 |none=>simp[bound]at h;exact .inl ⟨rfl,h.symm⟩
 |some y=>
  right;simp only[ahj]at h⊢;unfold bound at h;split at h
  ·rename_i heq;cases heq
  ·rename_i k m heq;simp at h heq;subst h;have:=E.aq y (H y rfl);rw[heq]at this;exact⟨k,by rw[jL this]⟩
  ·cases h
theorem PV{w F xs v sz}(h:aO w F (.list xs) v)(Y:∀d∈xs,d.size=sz){l hh:Nat}(hle:l<=hh)(At:hh<=xs.length):
 ∃ao cap,v=.slice ao xs.length cap/\xs.length<=cap/\(ao=none->cap=0)/\∀AG AK,(AK=none->AG=0)->hh-l<=AG->(AK=ao.map (·.add (l*sz))\/(hh-l=0))->aO w F (.list ((xs.take hh).drop l)) (.slice AK (hh-l) AG):=by
 have I:((xs.take hh).drop l).length=hh-l:=by simp;omega
 generalize H:D.list xs=x at h;cases h with
 |nil a c AZ=>
  simp at H;subst H;refine⟨a,c,rfl,by simp,AZ,λAG AK A_ _ _=>?_⟩;have A:hh-l=0:=by simp at At;omega
  rw[A];simp;exact .nil _ _ A_
 |list AL b off cap A2 vs A0 Au Av AO AF U=>
  simp at H;subst H;refine⟨_,cap,rfl,A0,by simp,λAG AK A_ AP AQ=>?_⟩;by_cases Ae:hh-l=0
  ·have e:(xs.take hh).drop l=[]:=ab8 (by omega);rw[e,Ae];exact .nil _ _ A_
  ·have AQ:=AQ.resolve_right Ae;have Aw:A2=sz:=by
    have Af:0<xs.length:=by omega
    rw[<-AO xs[0] (aep Af),Y xs[0] (aep Af)]
   subst Aw;simp only[ahj,fq]at AQ;rw[AQ,<-I];refine .list _ b (off+l*A2) AG A2 (λi=>vs (l+i)) (by rw[I];exact AP) Au Av (λd A8=>AO d (adV (adM A8))) (λi d A8=>?_) (λi j c hi Ax=>?_)
   ·rw[adY,abZ]at A8;split at A8
    ·exact AF _ d A8
    ·cases A8
   ·have:=U (l+i) j c (by rw[I]at hi;omega) Ax;rw[aeq,<-adN]at this;exact this
 |_=>simp at H
theorem WM(P:Program)(S:St)(o:Oper)(t:TypeId)(x:Operand)(lo hi:Option Operand)(J:o.op=.slice t x lo hi none)(H:(S.aq x).1=true)(A6:∀y,lo=some y->(S.aq y).1=true)(A7:∀y,hi=some y->(S.aq y).1=true):
 aG P S o (kG P S.mem t (S.aq x).2 (lo.map λy=>(S.aq y).2) (hi.map λy=>(S.aq y).2)):=by
 unfold kG;split
 ·rename_i s N;split
  ·rename_i l h I hh;refine aG.pure ?_;rintro ⟨AA,T,hle,A0⟩ φ G a w E;have A:=E.aq x H;rw[N]at A;obtain⟨b,A1,rfl⟩:=tc A;have AR:b.size=b.data.toList.length:=by rw[ace];rfl
   have A3:=iz (P:=P) (w:=w) (isS:=false) (len:=b.size) (cap:=b.size) (gL E A6 I) (by have:=gL E A7 hh;rw[<-AR]at this;exact this) T hle (by rw[AR];exact A0);refine⟨.string (b.extract l.toNat h.toNat),?_,.d _ _ (.str _ _ ?_)⟩
   ·simp[execOp,J,A1,Instr.sliceAt,Instr.slice,run_underlying (nH AA),A3]
   ·simp[ByteArray.data_extract,List.drop_take]
  ·trivial
 ·rename_i xs N;split
  ·rename_i e O;split
   ·rename_i sz l h Y I hh;refine aG.pure ?_;rintro ⟨T,hle,A0,AO⟩ φ G a w E;have A:=E.aq x H;rw[N]at A;generalize V:a.eval x=av at A;cases A with|d _ _ A=>
    obtain⟨ao,cap,rfl,B7,AZ,Ay⟩:=PV A AO (l:=l.toNat) (hh:=h.toNat) (by omega) A0;have U:h.toNat<=cap:=by omega
    have A3:=iz (P:=P) (w:=w) (isS:=true) (len:=xs.length) (cap:=cap) (gL E A6 I) (gL E A7 hh) T hle U;refine⟨.slice (if cap=l.toNat then ao else ao.map (·.add (l.toNat*sz))) (h.toNat-l.toNat) (cap-l.toNat),?_,.d _ _ (Ay _ _ (λAB=>?_) (by omega) ?_)⟩
    ·simp[execOp,J,V,Instr.sliceAt,Instr.slice,run_underlying (fL O),A3,run_sizeOf Y]
    ·have:ao=none:=by split at AB<;>simp_all
     have:=AZ this;omega
    ·by_cases Az:cap=l.toNat
     ·exact .inr (by omega)
     ·exact .inl (by simp[Az])
   ·trivial
  ·trivial
 ·rename_i k ak off len N;split
  ·rename_i e key v A2 ai O A5;split
   ·rename_i sz l h Y I hh;refine aG.pure ?_;rintro ⟨rfl,rfl,T,hle,A0⟩ φ G a w E;have A:=E.aq x H;rw[N]at A;obtain⟨hm,AS,L,A',Z,AD⟩:=E.mem.get A5;simp only at Z;generalize V:a.eval x=av at A;cases A with
    |vec _ _ _ _ _ L' A9 _ AE _=>
     rw[A']at A9;cases A9;obtain⟨ao,cap,rfl,Ag,AT⟩:=AE Z.symm;clear AE;have A3:=iz (P:=P) (w:=w) (isS:=true) (len:=len) (cap:=cap) (gL E A6 I) (gL E A7 hh) T hle (by omega);refine⟨.slice (if cap=l.toNat then ao else ao.map (·.add (l.toNat*A2))) (h.toNat-l.toNat) (cap-l.toNat),?_,?_⟩
     ·simp[execOp,J,V,Instr.sliceAt,Instr.slice,run_underlying (fL O),A3,run_sizeOf Y]
     ·refine .vec k v _ _ _ L A' (by omega) (λ_=>⟨_,_,rfl,by omega,λU=>?_⟩) rfl;obtain⟨rfl,B'⟩:=AT (by omega);refine⟨?_,by omega⟩;rw[abN (by omega)];simp only[ahj,fq,AD.1,aeq,adN]
   ·trivial
  ·rename_i e key v ai y O A5;split
   ·rename_i sz l h Y I hh;refine aG.pure ?_;rintro ⟨rfl,rfl,T,hle,A0⟩ φ G a w E;have A:=E.aq x H;rw[N]at A;obtain⟨hm,AS,L,A',Z,AD⟩:=E.mem.get A5;simp only at Z;generalize V:a.eval x=av at A;cases A with
    |vec _ _ _ _ _ L' A9 _ AE _=>
     rw[A']at A9;cases A9;obtain⟨ao,cap,rfl,Ag,AT⟩:=AE Z.symm;clear AE;have A3:=iz (P:=P) (w:=w) (isS:=true) (len:=len) (cap:=cap) (gL E A6 I) (gL E A7 hh) T hle (by omega);refine⟨.slice (if cap=l.toNat then ao else ao.map (·.add (l.toNat*1))) (h.toNat-l.toNat) (cap-l.toNat),?_,?_⟩
     ·simp[execOp,J,V,Instr.sliceAt,Instr.slice,run_underlying (fL O),A3,run_sizeOf Y]
     ·refine .vec k v _ _ _ L A' (by omega) (λ_=>⟨_,_,rfl,by omega,λU=>?_⟩) rfl;obtain⟨rfl,B'⟩:=AT (by omega);refine⟨?_,by omega⟩;rw[abN (by omega)];simp only[ahj,fq,AD.1.1,aeq,adN]
   ·trivial
  ·trivial
 ·rename_i k ak i j N;split
  ·rename_i n e key v A2 ai O A5;split
   ·rename_i sz l h Y I hh;refine aG.pure ?_;rintro ⟨rfl,rfl,rfl,rfl,AB,T,hle,A0⟩ φ G a w E;have A:=E.aq x H;rw[N]at A;obtain⟨hm,AS,L,A',Z,AD⟩:=E.mem.get A5;simp only at Z;have A1:=A.kB A' Z;have A3:=iz (P:=P) (w:=w) (isS:=false) (len:=n) (cap:=n) (gL E A6 I) (gL E A7 hh) T hle A0;refine⟨.slice (some (if n=l.toNat then ⟨L.dw,L.base,none⟩else ⟨L.dw,L.base+l.toNat*A2,none⟩)) (h.toNat-l.toNat) (n-l.toNat),?_,?_⟩
    ·simp[execOp,J,A1,Instr.sliceAt,Instr.sureAddr,run_underlying (te O),A3,run_sizeOf Y,fq]
    ·refine .vec k v _ _ _ L A' (by omega) (λ_=>⟨_,_,rfl,by omega,λU=>⟨?_,by have:=AD.2.1;omega⟩⟩) rfl;rw[abN (by omega),AD.1]
   ·trivial
  ·trivial
 ·rename_i k ak off N;split
  ·rename_i n e key v cs O A5;split
   ·rename_i sz l h Y I hh;refine aG.pure ?_;rintro ⟨rfl,rfl,AB,T,hle,A0⟩ φ G a w E;have A:=E.aq x H;rw[N]at A;obtain⟨hm,AS,L,A',Z,⟨B0,z2,z3⟩,_⟩:=E.mem.get A5;simp only at Z;have A1:=A.qR A' Z;have A3:=iz (P:=P) (w:=w) (isS:=false) (len:=n) (cap:=n) (gL E A6 I) (gL E A7 hh) T hle A0;refine⟨.slice (some (if n=l.toNat then ⟨L.dw,off,none⟩else ⟨L.dw,off+l.toNat,none⟩)) (h.toNat-l.toNat) (n-l.toNat),?_,?_⟩
    ·simp[execOp,J,A1,Instr.sliceAt,Instr.sureAddr,run_underlying (te O),A3,run_sizeOf Y,fq]
    ·refine .vec k v _ _ _ L A' (by omega) (λ_=>⟨_,_,rfl,by omega,λU=>⟨?_,by omega⟩⟩) rfl;rw[abN (by omega),B0,z2];simp
   ·trivial
  ·trivial
 ·trivial
def Dr(t:Bool)(x y:D):D:=
 match x,y with
 | .bool a,.bool b=>.bool (bif t then a else b)
 |x,y=>bif t then x else y
def tj(t:Bool)(x y:AV):AV:=
 match x,y with
 | .d x,.d y=>.d (Dr t x y)
 |x,y=>bif t then x else y
def Hu(c a b:Bool×AV):du:=
 match c.2 with
 | .d (.bool t)=>.val (c.1=true/\(t=true->a.1=true)/\(t=false->b.1=true)) (tj t a.2 b.2)
 |_=>.no
theorem acp(P:Program)(S:St)(o:Oper)(c x y:Operand)(J:o.op=.pick c x y):aG P S o (Hu (S.aq c) (S.aq x) (S.aq y)):=by
 unfold Hu;split
 ·rename_i t U;refine aG.pure ?_;rintro ⟨A,M,AJ⟩ φ G a w E;have Ah:=E.aq c A;rw[U]at Ah;have e:=sN Ah;cases t
  ·have AU:=E.aq y (AJ rfl);refine⟨a.eval y,by simp[execOp,J,e,asBool],?_⟩;have AM:tj false (S.aq x).2 (S.aq y).2=(S.aq y).2:=by
    unfold tj;split
    ·rename_i u v Ai Aj;rw[Aj];congr 1;unfold Dr;split<;>rfl
    ·rfl
   rw[AM];exact AU
  ·have H:=E.aq x (M rfl);refine⟨a.eval x,by simp[execOp,J,e,asBool],?_⟩;have AM:tj true (S.aq x).2 (S.aq y).2=(S.aq x).2:=by
    unfold tj;split
    ·rename_i u v Ai Aj;rw[Ai];congr 1;unfold Dr;split<;>rfl
    ·rfl
   rw[AM];exact H
 ·trivial
theorem acq(P:Program)(S:St)(o:Oper)(x:Operand)(J:o.op=.move x\/o.op=.assign x)(H:(S.aq x).1=true):aG P S o (.val True (S.aq x).2):=by
 refine aG.pure λ_ φ G a w E=>⟨a.eval x,?_,E.aq x H⟩;rcases J with J|J<;>simp[execOp,J]
def H9(op:UnOp)(x:AV):du:=
 match op,x with
 | .not,.d (.bool b)=>.val True (.d (.bool (!b)))
 | .neg,.d (.int k n)=>.val True (.d (.int k (k.wrap (0-n))))
 | .xor,.d (.int k n)=>.val True (.d (.int k (k.wrap (BitVec.ofInt k.bits (if k.signed then-1 else k.max) ^^^ BitVec.ofInt k.bits n).toNat)))
 |_,_=>.no
theorem ai9(P:Program)(S:St)(o:Oper)(op:UnOp)(t:TypeId)(x:Operand)(J:o.op=.unOp op t x)(H:(S.aq x).1=true):aG P S o (H9 op (S.aq x).2):=by
 unfold H9;split
 ·rename_i b N;refine aG.pure λ_ φ G a w E=>?_;have A:=E.aq x H;rw[N]at A;exact⟨.bool (!b),by simp[execOp,J,sN A,Op.unary],.d _ _ (.bool _)⟩
 ·rename_i k n N;refine aG.pure λ_ φ G a w E=>?_;have A:=E.aq x H;rw[N]at A;exact⟨.int k (k.wrap (0-n)),by simp only[execOp,J,jL A,Op.unary,Op.intArith,Sem.run_bind,Sem.run_pure,Result.andThen_ok],.d _ _ (.int _ _)⟩
 ·rename_i k n N;refine aG.pure λ_ φ G a w E=>?_;have A:=E.aq x H;rw[N]at A;exact⟨_,by simp only[execOp,J,jL A,Op.unary,Op.intBits,Sem.run_bind,Sem.run_pure,Result.andThen_ok],.d _ _ (.int _ _)⟩
 ·trivial
def tp(i:Nat)(x:AV):du:=
 match x with
 | .bY vs=>match vs[i]? with
  |some v=>.val True v
  |none=>.no
 |_=>.no
theorem PW(P:Program)(S:St)(o:Oper)(x:Operand)(i:Nat)(J:o.op=.extract x i)(H:(S.aq x).1=true):aG P S o (tp i (S.aq x).2):=by
 unfold tp;split
 ·rename_i vs N;split
  ·rename_i v AF;refine aG.pure λ_ φ G a w E=>?_;have A:=E.aq x H;rw[N]at A;generalize V:a.eval x=av at A;cases A with|bY _ A4 I U=>
   have hi:i<A4.size:=by rw[<-I];exact (abM.1 AF).1
   exact⟨A4[i],by simp[execOp,J,V,Instr.extract,hi],U i v _ AF (by simp[hi])⟩
  ·trivial
 ·trivial
def oG(f:Fn)(first cap:List AV):du:=
 match f,first with
 | .func f,[]=>.val (f<r8) (.fn f cap)
 | .func f,x::r=>match cap with
  |[]=>.val True (.fn (f+r8) (x::r))
  |_=>.no
 |_,_=>.no
theorem K5(P:Program)(S:St)(o:Oper)(f:Fn)(first cap:Array Operand)(J:o.op=.makeFunc f first cap)(Ab:∀x∈first.toList,(S.aq x).1=true)(U:∀x∈cap.toList,(S.aq x).1=true):aG P S o (oG f (first.toList.map λx=>(S.aq x).2) (cap.toList.map λx=>(S.aq x).2)):=by
 have key:∀(l:Array Operand),(∀x∈l.toList,(S.aq x).1=true)->∀φ G a w,Rel φ G S a w->∀(i:Nat)(c:AV)(v:Value),(l.toList.map λx=>(S.aq x).2)[i]?=some c->(l.map a.eval)[i]?=some v->aB φ w (Fo G φ S.mem) c v:=by
  intro l I φ G a w E i c v A M;simp only[adK,afk,abS]at A;simp only[Array.getElem?_map,abS]at M;obtain⟨x,H,rfl⟩:=A;obtain⟨y,AU,rfl⟩:=M;rw[H]at AU;cases AU;exact E.aq x (I x (by simpa using Array.mem_of_getElem? H))
 generalize Ak:(first.toList.map λx=>(S.aq x).2)=B8;generalize Al:(cap.toList.map λx=>(S.aq x).2)=cs;unfold oG;split
 ·rename_i f;refine aG.pure λB1 φ G a w E=>?_;have B2:first=#[]:=by cases first;simp_all
  refine⟨.func (.func f) #[] (cap.map a.eval),by simp[execOp,J,Instr.makeFunc,B2],.fn f _ _ B1 (by simp[<-Al]) (λi c v A M=>?_)⟩;rw[<-Al]at A;exact key cap U φ G a w E i c v A M
 ·rename_i f x r;split
  ·refine aG.pure λ_ φ G a w E=>?_;have B3:cap=#[]:=by cases cap;simp_all
   refine⟨.func (.func f) (first.map a.eval) #[],by simp[execOp,J,Instr.makeFunc,B3],.r9 f _ _ (by rw[<-Ak];simp) (λi c v A M=>?_)⟩;rw[<-Ak]at A;exact key first Ab φ G a w E i c v A M
  ·trivial
 ·trivial
def sr(P:Program)(t:TypeId)(x:AV):du:=
 match x.norm with
 | .d d=>.val (tk P t≠.iface/\tk P t≠.other) (.gw t d)
 |_=>.no
theorem Cj{P:Program}{t:TypeId}(h:tk P t≠.other):∃d,P.underlying t=some d:=by
 unfold tk at h;cases hu:P.underlying t with
 |none=>simp[hu]at h
 |some d=>exact⟨d,rfl⟩
theorem Ia(P:Program)(S:St)(o:Oper)(t:TypeId)(x:Operand)(J:o.op=.makeInterface t x)(H:(S.aq x).1=true):aG P S o (sr P t (S.aq x).2):=by
 unfold sr;split
 ·rename_i d N;refine aG.pure ?_;rintro ⟨A,M⟩ φ G a w E;have AJ:=(E.aq x H).norm;rw[N]at AJ;obtain⟨An,hu⟩:=Cj M;refine⟨.iface t (a.eval x),?_,?_⟩
  ·have AY:∀ms,An≠.interface ms:=by rintro ms rfl;simp[tk,hu]at A
   simp only[execOp,J,Instr.makeInterface,Sem.run_bind,run_underlying hu,Result.andThen_ok];cases An<;>first|rfl|exact absurd rfl (AY _)
  ·cases AJ with|d _ _ h=>exact .gw t d _ h
 ·trivial
def nX(P:Program)(m:Mem)(t:TypeId)(x:AV):du:=
 match x with
 | .d (.str s)=>.val (tk P t=.str) (.d (.int .i64 s.length))
 | .d (.list xs)=>match tk P t with
  | .slice _=>.val True (.d (.int .i64 xs.length))
  |_=>.no
 | .vec k ak _ len=>match tk P t,Mem.get m k with
  | .slice _,some ⟨_,v,_⟩=>.val (v=ak) (.d (.int .i64 len))
  |_,_=>.no
 | .lit (.slice none 0 0)=>match tk P t with
  | .slice _=>.val True (.d (.int .i64 0))
  |_=>.no
 | .nn=>match tk P t with
  | .slice _=>.val True (.d (.int .i64 0))
  |_=>.no
 |_=>match tk P t with
  | .arr n _=>.val True (.d (.int .i64 n))
  |_=>.no
theorem run_len_slice{P:Program}{w:World}{t ty e:TypeId}{ao len cap}(h:tk P t=.slice e):(Builtin.len_ #[t] ty #[.slice ao len cap]).run P w=.ok (.int .i64 len) w:=by
 simp[Builtin.len_,run_underlying (fL h),goInt]
theorem adX(P:Program)(S:St)(o:Oper)(x:Operand)(t:TypeId)(J:o.op=.call {callee:=.builtin .len,args:=#[x],argTypes:=#[t]})(H:(S.aq x).1=true):aG P S o (nX P S.mem t (S.aq x).2):=by
 have AH:∀(a:Act)(w:World)(v:Value),(Builtin.len_ #[t] o.type #[a.eval x]).run P w=.ok v w->(execOp a.eval o).run P w=.ok (.value v) w:=by
  intro a w v h;simp[execOp,J,resolve,invoke,builtin,h]
 unfold nX;split
 ·rename_i s N;refine aG.pure λAA φ G a w E=>?_;have A:=E.aq x H;rw[N]at A;obtain⟨b,A1,rfl⟩:=tc A;have AR:b.size=b.data.toList.length:=by rw[ace];rfl
  refine⟨.int .i64 b.data.toList.length,AH a w _ ?_,.d _ _ (.int _ _)⟩;simp only[Builtin.len_,A1,aeG,List.getElem?_cons_zero,Sem.run_bind,run_underlying (nH AA),Result.andThen_ok,Sem.run_pure,goInt,<-AR]
 ·rename_i xs N;split
  ·rename_i e O;refine aG.pure λ_ φ G a w E=>?_;have A:=E.aq x H;rw[N]at A;generalize V:a.eval x=av at A;cases A with|d _ _ h=>
   have I:∃ao cap,av=.slice ao xs.length cap:=by cases h<;>exact⟨_,_,rfl⟩
   obtain⟨ao,cap,rfl⟩:=I;exact⟨_,AH a w _ (by rw[V];exact run_len_slice O),.d _ _ (.int _ _)⟩
  ·trivial
 ·rename_i k ak off len N;split
  ·rename_i e key v cont O A5;refine aG.pure ?_;rintro rfl φ G a w E;have A:=E.aq x H;rw[N]at A;obtain⟨hm,AS,L,A',Z,AD⟩:=E.mem.get A5;simp only at Z;generalize V:a.eval x=av at A;cases A with
   |vec _ _ _ _ _ L' A9 _ AE _=>
    rw[A']at A9;cases A9;obtain⟨ao,cap,rfl,Ag,AT⟩:=AE Z.symm;exact⟨_,AH a w _ (by rw[V];exact run_len_slice O),.d _ _ (.int _ _)⟩
  ·trivial
 ·rename_i N;split
  ·rename_i e O;refine aG.pure λ_ φ G a w E=>?_;have A:=E.aq x H;rw[N]at A;generalize V:a.eval x=av at A;cases A;exact⟨_,AH a w _ (by rw[V];exact run_len_slice O),.d _ _ (.int _ _)⟩
  ·trivial
 ·rename_i N;split
  ·rename_i e O;refine aG.pure λ_ φ G a w E=>?_;have A:=E.aq x H;rw[N]at A;generalize V:a.eval x=av at A;cases A;exact⟨_,AH a w _ (by rw[V];exact run_len_slice O),.d _ _ (.int _ _)⟩
  ·trivial
 ·split
  ·rename_i n e O;refine aG.pure λ_ φ G a w E=>?_;refine⟨.int .i64 n,AH a w _ ?_,.d _ _ (.int _ _)⟩;simp[Builtin.len_,run_underlying (te O),goInt]
  ·trivial
def mV(isMax:Bool):AV->List AV->Option D
 | .d (.int k a),[]=>some (.int k a)
 | .d (.int k a),y::r=>match y with
  | .d (.int _ b)=>mV isMax (.d (.int k (if isMax then (if b>a then b else a)else (if b<a then b else a)))) r
  |_=>none
 |_,_=>none
def Fe(isMax:Bool)(xs:List AV):du:=
 match xs with
 |x::r=>match mV isMax x r with
  |some d=>.val True (.d d)
  |none=>.no
 |[]=>.no
theorem K6{P:Program}{φ w F}(isMax:Bool):∀(xs:List AV)(x:AV)(vs:List Value)(v:Value)(d:D),mV isMax x xs=some d->aB φ w F x v->xs.length=vs.length->
 (∀(i:Nat) c u,xs[i]?=some c->vs[i]?=some u->aB φ w F c u)->
 ∃u,(vs.foldlM (if isMax then Builtin.max2 else Builtin.min2) v).run P w=.ok u w/\aO w F d u:=by
 intro xs;induction xs with
 |nil=>
  intro x vs v d h H I U;have:vs=[]:=ab8 (by simpa using I.symm);subst this;unfold mV at h;split at h<;>simp_all;subst h;rw[jL H];exact .int _ _
 |cons y AL ih=>
  intro x vs v d h H I U;cases vs with
  |nil=>simp at I
  |cons u us=>
   unfold mV at h;split at h
   ·simp_all
   ·rename_i k a B9 r heq;simp at heq;obtain⟨rfl,rfl⟩:=heq;split at h
    ·rename_i B4 b;have A1:=jL H;have AM:=jL (U 0 (.d (.int B4 b)) u (by simp) (by simp));subst A1;subst AM;have AP:∀(i:Nat) c u,AL[i]?=some c->us[i]?=some u->aB φ w F c u:=λi c u A M=>U (i+1) c u (by simpa using A) (by simpa using M);cases isMax
     ·obtain⟨Aa,A,M⟩:=ih _ us (.int k (if b<a then b else a)) d h (.d _ _ (.int _ _)) (by simpa using I) AP;refine⟨Aa,?_,M⟩;simp only[ahG,ad0]at A⊢;simp only[List.foldlM_cons,Builtin.min2,pure_bind];exact A
     ·obtain⟨Aa,A,M⟩:=ih _ us (.int k (if b>a then b else a)) d h (.d _ _ (.int _ _)) (by simpa using I) AP;refine⟨Aa,?_,M⟩;simp only[aes]at A⊢;simp only[List.foldlM_cons,Builtin.max2,pure_bind];exact A
    ·cases h
   ·cases h
theorem Td(P:Program)(S:St)(o:Oper)(isMax:Bool)(args:Array Operand)(B5:Array TypeId)(J:o.op=.call {callee:=.builtin (if isMax then .max else .min),args,argTypes:=B5})(H:∀x∈args.toList,(S.aq x).1=true):aG P S o (Fe isMax (args.toList.map λx=>(S.aq x).2)):=by
 unfold Fe;split
 ·rename_i x r heq;split
  ·rename_i d A8;refine aG.pure λ_ φ G a w E=>?_;obtain⟨l,I⟩:∃l,args.toList=l:=⟨_,rfl⟩;rw[I]at heq H;cases l with
   |nil=>simp at heq
   |cons y AL=>
    simp at heq;obtain⟨rfl,rfl⟩:=heq;obtain⟨u,A,M⟩:=K6 (P:=P) (φ:=φ) (w:=w) (F:=Fo G φ S.mem) isMax _ _ (AL.map a.eval) (a.eval y) d A8 (E.aq y (H y (by simp))) (by simp) (λi c u A M=>by
     simp only[adK,abS]at A M;obtain⟨p,AC,rfl⟩:=A;obtain⟨q,Ao,rfl⟩:=M;rw[AC]at Ao;cases Ao;exact E.aq p (H p (by simp[abU AC])))
    refine⟨u,?_,.d _ _ M⟩;have BA:(args.map a.eval).toList=a.eval y::AL.map a.eval:=by simp[I]
    cases isMax
    ·simp only[ahG,ad0]at A J;simp[execOp,J,resolve,invoke,builtin,Builtin.min_,I,A]
    ·simp only[aes]at A J;simp[execOp,J,resolve,invoke,builtin,Builtin.max_,I,A]
  ·trivial
 ·trivial
theorem Gd(off:Nat):∀(l:List Value)(k:Nat)(cs:Array Value),off+k+l.length<=cs.size->
 ((l.zipIdx k).foldl (λcs x=>cs.setIfInBounds (off+x.2) x.1) cs).toList=cs.toList.take (off+k)++l++cs.toList.drop (off+k+l.length)
 |[],k,cs,_=>by simp
 |v::l,k,cs,h=>by
  simp only[List.zipIdx_cons,ag9,ach]at h⊢;rw[Gd off l (k+1) _ (by simp;omega),Array.toList_setIfInBounds];have:=list_seg_step cs.toList (off+k) v l (by simp;omega);rw[show off+(k+1)=off+k+1 by omega,show off+k+(l.length+1)=off+k+1+l.length by omega];simpa [ach,adN,Nat.add_comm 1]using this
theorem Ib(cs v:Array Value)(off:Nat)(h:off+v.size<=cs.size):
 (v.zipIdx.foldl (λcs (x:Value×Nat)=>cs.setIfInBounds (off+x.2) x.1) cs).toList=bk cs.toList off v.toList:=by
 rw[<-Array.foldl_toList,Array.toList_zipIdx,Gd off v.toList 0 cs (by simpa using h),dh _ _ _ (by simpa using h)];simp
def qB(place:Nat->Option (Nat×Nat)):List (Nat×AV)->Bool->List AV->Option (Bool×List AV)
 |[],c,cs=>some (c,cs)
 |(i,x)::r,c,cs=>match place i with
  |some (off,n)=>qB place r (c/\x.ly=true/\x.cells.length=n/\off+n<=cs.length) (bk cs off x.cells)
  |none=>none
theorem zr{φ w F}(place:Nat->Option (Nat×Nat)):∀(ps:List (Nat×AV))(U c:Bool)(cs O:List AV)(vs:List (Nat×Value))(E:Array Value),
 qB place ps U cs=some (c,O)->c=true->cs.length=E.size->(∀v∈E,cA v=true)->(∀(i:Nat) x v,cs[i]?=some x->E[i]?=some v->aB φ w F x v)->
 ps.length=vs.length->(∀(i:Nat) p v,ps[i]?=some p->vs[i]?=some v->p.1=v.1/\aB φ w F p.2 v.2)->
 ∃D,Instr.fill place E vs=some D/\U=true/\O.length=D.size/\(∀v∈D,cA v=true)/\∀(i:Nat) x v,O[i]?=some x->D[i]?=some v->aB φ w F x v
 |[],U,c,cs,O,vs,E,h,N,I,H,J,V,Z=>by
  have:vs=[]:=ab8 (by simpa using V.symm);subst this;simp only[qB,abX,adL]at h;obtain⟨rfl,rfl⟩:=h;exact⟨E,rfl,N,I,H,J⟩
 |(i,x)::ps,U,c,cs,O,vs,E,h,N,I,H,J,V,Z=>by
  cases vs with
  |nil=>simp at V
  |cons v vs=>
   obtain⟨j,v⟩:=v;obtain⟨AD,A'⟩:=Z 0 (i,x) (j,v) (by simp) (by simp);simp only at AD A';subst AD;simp only[qB]at h;split at h
   ·rename_i off n AP
    --AE condition of AE rest holds AE condition of this part
    obtain⟨q,A2⟩:∃q:Bool,q=decide (U=true/\x.ly=true/\x.cells.length=n/\off+n<=cs.length):=⟨_,rfl⟩;have AQ:c=true->q=true:=by
     rw[<-A2]at h;clear A2;revert h
     generalize bk cs off x.cells=AS;clear Z V J H I A' N;induction ps generalizing q AS with
     |nil=>intro h;simp only[qB,abX,adL]at h;obtain⟨rfl,_⟩:=h;exact id
     |cons p ps ih=>
      intro h AF;simp only[qB]at h;split at h
      ·exact (ad7 (ih _ _ h AF)).1
      ·cases h
    have A0:=AQ N;rw[A2]at A0;replace A0:=ad7 A0;obtain⟨AT,AU,Ad,hle⟩:=A0;obtain⟨AG,AH⟩:=A'.ly AU;have AI:off+v.cells.size<=E.size:=by omega
    have A1:=Ib E v.cells off AI;obtain⟨A3,AJ⟩:∃A3,A3=v.cells.zipIdx.foldl (λcs (x:Value×Nat)=>cs.setIfInBounds (off+x.2) x.1) E:=⟨_,rfl⟩;rw[<-AJ]at A1;have AK:off+v.cells.toList.length<=E.toList.length:=by simpa using AI
    obtain⟨D,Y,AF,AW,AX,AY⟩:=zr (φ:=φ) (w:=w) (F:=F) place ps _ c _ O vs A3 h N
     (by rw[bQ _ _ _ (by omega),<-ace,A1,bQ _ _ _ AK];simpa using I)
     (λu hu=>by
      rw[<-Array.mem_toList_iff,A1]at hu;rcases kE AK hu with hu|hu
      ·exact H u (by simpa using hu)
      ·exact AH u (by simpa using hu))
     (λi y u AZ hu=>by
      rw[<-afk,A1]at hu;exact s4 (R:=λx v=>aB φ w F x v) (by simpa using I) (by simpa using AG.symm) (by omega) (λi c v h A=>J i c v h (by simpa using A)) (λi c v h A=>A'.cells AH AG i c v h (by simpa using A)) i y u AZ hu)
     (by simpa using V) (λi p v h A=>Z (i+1) p v (by simpa using h) (by simpa using A))
    refine⟨D,?_,AT,AW,AX,AY⟩;simp only[Instr.fill,AP];rw[abN (by simp;omega)];rw[<-Y,AJ]
   ·cases h
def bp(P:Program)(t:TypeId):Option (List (Nat×Nat)):=
 match P.underlying t with
 |some (.struct M)=>M.toList.mapM λf=>(P.info? f.type).map λi=>(f.offset,i.size)
 |_=>none
theorem BL{P:Program}{w:World}:∀(M:List Field)(l:List (Nat×Nat)),(M.mapM λf=>(P.info? f.type).map λi=>(f.offset,i.size))=some l->
 (M.mapM λf=>(do pure (f.offset,<-sizeOf f.type):Sem (Nat×Nat))).run P w=.ok l w
 |[],l,h=>by simp at h;subst h;simp
 |f::M,l,h=>by
  simp only[List.mapM_cons]at h⊢;cases hi:P.info? f.type with
  |none=>simp[hi]at h
  |some i=>
   simp only[hi,ahj,Option.pure_def,Option.bind_eq_bind,aeE]at h;cases hm:(M.mapM λf=>(P.info? f.type).map λi=>(f.offset,i.size))with
   |none=>simp[hm]at h
   |some A_=>
    simp[hm]at h;subst h;have A4:(sizeOf f.type).run P w=.ok i.size w:=run_sizeOf (by simp[fm,hi]);have ih:=BL (P:=P) (w:=w) M A_ hm;simp only[Sem.run_bind,A4,Result.andThen_ok,Sem.run_pure,ih]
def Du(P:Program)(t:TypeId)(ps:List (Nat×AV)):du:=
 match sq P t with
 |some zs=>match bp P t with
  |some l=>match qB (λi=>l[i]?) ps true zs with
   |some (c,cs)=>.val c (AR cs)
   |none=>.no
  |none=>match tk P t with
   | .arr _ e=>match fm P e with
    |some sz=>match qB (λi=>some (i*sz,sz)) ps true zs with
     |some (c,cs)=>.val c (AR cs)
     |none=>.no
    |none=>.no
   |_=>.no
 |none=>.no
theorem WN(P:Program)(S:St)(o:Oper)(t:TypeId)(ps:Array (Nat×Operand))(AL:o.op=.build t ps)(Aa:∀x∈ps.toList,(S.aq x.2).1=true):
 aG P S o (Du P t (ps.toList.map λx=>(x.1,(S.aq x.2).2))):=by
 have parts:∀{φ G a w},Rel φ G S a w->∀(i:Nat)(p:Nat×AV)(v:Nat×Value),(ps.toList.map λx=>(x.1,(S.aq x.2).2))[i]?=some p->(ps.toList.map λx=>(x.1,a.eval x.2))[i]?=some v->p.1=v.1/\aB φ w (Fo G φ S.mem) p.2 v.2:=by
  intro φ G a w J i p v H T;simp only[adK,abS]at H T;obtain⟨x,AM,rfl⟩:=H;obtain⟨y,AN,rfl⟩:=T;rw[AM]at AN;cases AN;exact⟨rfl,J.aq _ (Aa x (abU AM))⟩
 unfold Du;split
 ·rename_i zs AO;split
  ·rename_i l I;split
   ·rename_i c cs Y;refine aG.qy λN φ G a w J=>?_;obtain⟨z,A5,A6,H,A7⟩:=oA AO w;obtain⟨D,T,_,A8,A9,AA⟩:=zr (φ:=φ) (w:=w) (F:=Fo G φ S.mem) _ _ _ _ _ _ (ps.toList.map λx=>(x.1,a.eval x.2)) z.cells Y N A6.symm H (λi x v h A=>A7 _ _ _ i x v h A) (by simp) (parts J);unfold bp at I;split at I
    ·rename_i M hu;have hm:=BL (P:=P) (w:=w) M.toList l I;refine⟨.agg D,?_,?_⟩
     ·have Ab:(M.mapM λf=>(do pure (f.offset,<-sizeOf f.type):Sem (Nat×Nat))).run P w=.ok l.toArray w:=by
       rw[Array.mapM_eq_mapM_toList];simp only[Sem.run_map,hm,Result.andThen_ok]
      simp only[execOp,AL,Instr.build,Sem.run_bind,A5,Result.andThen_ok,run_underlying hu,Ab];have e:(λ(i:Nat)=>l.toArray[i]?)=λ(i:Nat)=>l[i]?:=by funext i;simp
      have AB:(Array.map (λx=>(x.1,a.eval x.2)) ps).toList=ps.toList.map λx=>(x.1,a.eval x.2):=by simp
      rw[e,AB,T];rfl
     ·have:=yY (φ:=φ) (w:=w) (F:=Fo G φ S.mem) (cs:=cs) (vs:=D.toList) (by simpa using A8) (λv AC=>A9 v (by simpa using AC)) (λi c v h A=>AA i c v h (by simpa using A));simpa using this
    ·cases I
   ·trivial
  ·split
   ·rename_i n e Ac;split
    ·rename_i sz A4;split
     ·rename_i c cs Y;refine aG.qy λN φ G a w J=>?_;obtain⟨z,A5,A6,H,A7⟩:=oA AO w;obtain⟨D,T,_,A8,A9,AA⟩:=zr (φ:=φ) (w:=w) (F:=Fo G φ S.mem) _ _ _ _ _ _ (ps.toList.map λx=>(x.1,a.eval x.2)) z.cells Y N A6.symm H (λi x v h A=>A7 _ _ _ i x v h A) (by simp) (parts J);refine⟨.agg D,?_,?_⟩
      ·simp only[execOp,AL,Instr.build,Sem.run_bind,A5,Result.andThen_ok,run_underlying (te Ac),run_sizeOf A4];have AB:(Array.map (λx=>(x.1,a.eval x.2)) ps).toList=ps.toList.map λx=>(x.1,a.eval x.2):=by simp
       rw[AB,T];rfl
      ·have:=yY (φ:=φ) (w:=w) (F:=Fo G φ S.mem) (cs:=cs) (vs:=D.toList) (by simpa using A8) (λv AC=>A9 v (by simpa using AC)) (λi c v h A=>AA i c v h (by simpa using A));simpa using this
     ·trivial
    ·trivial
   ·trivial
 ·trivial
theorem Ck(sz:Nat):∀(vs:List (Nat×Value))(k:Nat)(cells:Array Value),vs.map (·.1)=List.range' k vs.length->(∀v∈vs,v.2.cells.size=sz)->(k+vs.length)*sz=cells.size->
 ∃out,Instr.fill (λi=>some (i*sz,sz)) cells vs=some out/\out.toList=cells.toList.take (k*sz)++vs.flatMap (λv=>v.2.cells.toList)
 |[],k,cells,_,_,O=>by
  refine⟨cells,rfl,?_⟩;simp only[aeI,agR]at O;simp only[O,List.flatMap_nil,aeP];rw[<-ace,List.take_length]
 |(i,v)::vs,k,cells,hi,T,O=>by
  simp only[aeC,ach,aih,List.cons.injEq]at hi;obtain⟨rfl,hi⟩:=hi;have M:=T (i,v) (by simp);simp only at M;simp only[ach]at O;have Aa:i*sz+v.cells.size<=cells.size:=by
   rw[M,<-O,<-ahv];exact ab0 _ (by omega)
  have H:=Ib cells v.cells (i*sz) Aa;obtain⟨AP,Ap⟩:∃AP,AP=v.cells.zipIdx.foldl (λcs (x:Value×Nat)=>cs.setIfInBounds (i*sz+x.2) x.1) cells:=⟨_,rfl⟩;rw[<-Ap]at H;have Aq:i*sz+v.cells.toList.length<=cells.toList.length:=by simpa using Aa
  have A4:AP.size=cells.size:=by rw[<-ace,H,bQ _ _ _ Aq];simp
  obtain⟨out,U,AQ⟩:=Ck sz vs (i+1) AP hi (λx J=>T x (by simp[J])) (by rw[A4,<-O];congr 1;omega);refine⟨out,?_,?_⟩
  ·simp only[Instr.fill];rw[abN (by simp;omega),<-U,Ap]
  ·rw[AQ,H,dh _ _ _ Aq];have BN:v.cells.toList.length=sz:=by simpa using M
   rw[ahv,anh (by simp;omega),aej (by simp;omega)];simp
theorem Dv{φ w F}{sz:Nat}:∀(A:List D)(vs:List Value),A.length=vs.length->(∀d∈A,d.size=sz)->(∀(i:Nat) d v,A[i]?=some d->vs[i]?=some v->aB φ w F (.d d) v)->
 cm w F sz A (vs.flatMap λv=>v.cells.toList)
 |[],vs,O,_,_=>by
  have:vs=[]:=ab8 (by simpa using O.symm);subst this;exact cm.nil ..
 |d::A,vs,O,T,E=>by
  cases vs with
  |nil=>simp at O
  |cons v vs=>
   have ih:=Dv (φ:=φ) (w:=w) (F:=F) A vs (by simpa using O) (λx J=>T x (by simp[J])) (λi d v h A7=>E (i+1) d v (by simpa using h) (by simpa using A7));have A8:=E 0 d v (by simp) (by simp);cases A8 with|d _ _ A8=>
   have A9:=T d (by simp);have AR:v.cells.size=sz:=by rw[A8.size,A9]
   have one:cm w F sz [d] v.cells.toList:=by
    refine⟨by simp[AR],λu hu=>A8.cells.2.1 u (by simpa using hu),λx J=>by simp at J;subst J;exact A9,λi x J=>?_⟩;cases i with
    |zero=>simp at J;subst J;exact⟨v,A8,λj c AC=>by simpa using AC⟩
    |succ i=>simp at J
   simpa using one.append ih
theorem Ie{w:World}{F F':Nat->Prop}{sz:Nat}{A:List D}{cs rest:List Value}{elem:TypeId}{fr}{N:World}{arr:Array Value}(E:cm w F sz A cs)(hh:N.heap[w.heap.size]?=some (.cells arr elem fr))(AD:arr.toList=cs++rest)
 (hm:∀x v,aO w F x v->aO N F' x v) (Ay:¬F' w.heap.size) (cap:Nat) (AI:A.length<=cap):aO N F' (.list A) (.slice (some ⟨w.heap.size,0,none⟩) A.length cap):=by
 obtain⟨BO,a2,a3,a4⟩:=E;have Ab:∀i,∃v,∀d,A[i]?=some d->aO w F d v/\∀(j:Nat) c,v.cells[j]?=some c->cs[i*sz+j]?=some c:=by
  intro i;cases I:A[i]? with
  |none=>exact⟨undef,λd h=>by cases h⟩
  |some d=>obtain⟨v,H,U⟩:=a4 i d I;exact⟨v,λAr h=>by cases h;exact⟨H,U⟩⟩
 obtain⟨vs,AR⟩:=Classical.axiomOfChoice Ab;refine .list A w.heap.size 0 cap sz vs AI ?_ Ay a3 (λi d I=>hm _ _ (AR i d I).1) (λi j c hi AC=>?_)
 ·exact (ad1.1 hh).1
 ·obtain⟨H,U⟩:=AR i A[i] (by simp[hi]);have AQ:=U j c AC;rw[F4 hh,<-afk,AD,aeF,abW (abM.1 AQ).1];exact AQ
theorem Ig{φ:bN}{G:Fr}{m:Mem}{w N:World}(hold:∀b,b<w.heap.size->N.heap[b]?=w.heap[b]?)(T:w.heap.size<=N.heap.size)(x v)(J:aO w (Fo G φ m) x v):aO N (Fo G φ m) x v:=
 J.mono (λb Z _=>hold b Z) T (λ_ _ h=>h)
def q8:List (Nat×AV)->Option (List D)
 |[]=>some []
 |(_,x)::r=>match x.norm,q8 r with
  | .d d,some A=>some (d::A)
  |_,_=>none
theorem Dw{φ w F}:∀(ps:List (Nat×AV))(A:List D)(vs:List Value),q8 ps=some A->ps.length=vs.length->(∀(i:Nat) p v,ps[i]?=some p->vs[i]?=some v->aB φ w F p.2 v)->
 A.length=vs.length/\∀(i:Nat) d v,A[i]?=some d->vs[i]?=some v->aB φ w F (.d d) v
 |[],A,vs,h,O,_=>by
  simp[q8]at h;subst h;exact⟨by simpa using O,λi d v A7=>by simp at A7⟩
 |(i,x)::ps,A,vs,h,O,E=>by
  simp only[q8]at h;split at h<;>simp at h;rename_i d Az J A9;subst h;cases vs with
  |nil=>simp at O
  |cons v vs=>
   have ih:=Dw (φ:=φ) (w:=w) (F:=F) ps Az vs A9 (by simpa using O) (λi p v h A7=>E (i+1) p v (by simpa using h) (by simpa using A7));refine⟨by simp[ih.1],λj Ar As h A7=>?_⟩;cases j with
   |zero=>
    simp at h A7;subst h;subst A7;have:=(E 0 (i,x) v (by simp) (by simp)).norm;simp only[J]at this;exact this
   |succ j=>exact ih.2 j Ar As (by simpa using h) (by simpa using A7)
def gB(P:Program)(t:TypeId)(A1:Nat)(len:Nat):List (Nat×AV)->Option cB->Option du
 |[(0,.lit (.slice none 0 0))],some ⟨_,v,_⟩=>match tk P t with
  | .slice e=>match fm P e,mo P e with
   |some sz,some _=>some (.dg (sz=1/\len=1) (.vec A1 (v+1) 0 1) ⟨A1,v+1,.box [.lit (.slice none 0 0)]⟩)
   |_,_=>none
  |_=>none
 |_,_=>none
def qC(P:Program)(m:Mem)(A1:Nat)(t:TypeId)(len:Nat)(ps:List (Nat×AV)):du:=
 match tk P t with
 | .slice e=>match fm P e,mo P e,q8 ps with
  |some sz,some A5,some A=>match Mem.get m A1 with
   |some ⟨_,v,_⟩=>.dg (A5.size=sz/\len*sz<=2^24/\ps.map (·.1)=List.range' 0 len/\(∀d∈A,d.size=sz)) (.vec A1 (v+1) 0 len) ⟨A1,v+1,.vec sz A⟩
   |none=>.val (A5.size=sz/\len*sz<=2^24/\ps.map (·.1)=List.range' 0 len/\(∀d∈A,d.size=sz)) (.d (.list A))
  |_,_,_=>.no
 |_=>.no
def j2(P:Program)(m:Mem)(A1:Nat)(t:TypeId)(len:Nat)(ps:List (Nat×AV)):du:=
 match gB P t A1 len ps (Mem.get m A1)with
 |some r=>r
 |none=>qC P m A1 t len ps
theorem wc{P:Program}{w:World}{t e:TypeId}{sz len:Nat}{A5:D}(AS:tk P t=.slice e)(T:fm P e=some sz)(AE:mo P e=some A5)(Z:len*sz<=2^24)
 {vs:List (Nat×Value)} (hi:vs.map (·.1)=List.range' 0 len) (M:∀v∈vs,v.2.cells.size=sz):
 ∃arr:Array Value,arr.toList=vs.flatMap (λv=>v.2.cells.toList)/\(Instr.buildSlice t len vs.toArray).run P w=.ok (.slice (some ⟨w.heap.size,0,none⟩) len len) (w.alloc (.cells arr e)):=by
 obtain⟨z,A',BP,BQ,_⟩:=Dk AE w;have V:vs.length=len:=by
  have:=aeK List.length hi;simpa using this
 have B':¬(len*sz>2^24):=by omega
 by_cases A8:len*sz=0
 ·obtain⟨out,H,U⟩:=Ck sz vs 0 #[] (by rw[V];exact hi) M (by rw[V];simp[A8]);refine⟨out,by simpa using U,?_⟩;simp only[Instr.buildSlice,Sem.run_bind,run_underlying (fL AS),Result.andThen_ok,run_sizeOf T,A8,aes,show Array.range 0=#[]from rfl,Array.map_empty,H,show ¬(0>2^24) by decide,ad0,Sem.run_bind,Sem.run_pure,ia]
 ·obtain⟨out,H,U⟩:=Ck sz vs 0 ((Array.range (len*sz)).map (z.cells[·%z.cells.size]!)) (by rw[V];exact hi) M (by rw[V];simp);refine⟨out,by simpa using U,?_⟩;simp only[Instr.buildSlice,Sem.run_bind,run_underlying (fL AS),Result.andThen_ok,run_sizeOf T,B',ad0,A8,A',Sem.run_pure,H,ia]
theorem Hl(P:Program)(S:St)(o:Oper)(t:TypeId)(len:Nat)(ps:Array (Nat×Operand))(AT:o.op=.buildSlice t len ps)(J:∀x∈ps.toList,(S.aq x.2).1=true):
 aG P S o (j2 P S.mem (keyOf o) t len (ps.toList.map λx=>(x.1,(S.aq x.2).2))):=by
 have parts:∀{φ G a w},Rel φ G S a w->∀(i:Nat)(p:Nat×AV)(v:Value),(ps.toList.map λx=>(x.1,(S.aq x.2).2))[i]?=some p->(ps.toList.map λx=>a.eval x.2)[i]?=some v->aB φ w (Fo G φ S.mem) p.2 v:=by
  intro φ G a w E i p v H U;simp only[adK,abS]at H U;obtain⟨x,At,rfl⟩:=H;obtain⟨y,Au,rfl⟩:=U;rw[At]at Au;cases Au;exact E.aq _ (J x (abU At))
 have main:∀{e sz A5 A},tk P t=.slice e->fm P e=some sz->mo P e=some A5->q8 (ps.toList.map λx=>(x.1,(S.aq x.2).2))=some A->A5.size=sz->len*sz<=2^24->
  (ps.toList.map λx=>(x.1,(S.aq x.2).2)).map (·.1)=List.range' 0 len->(∀d∈A,d.size=sz)->∀{φ G a w},Rel φ G S a w->
  A.length=len/\∃arr:Array Value,cm w (Fo G φ S.mem) sz A arr.toList/\(execOp a.eval o).run P w=.ok (.value (.slice (some ⟨w.heap.size,0,none⟩) len len)) (w.alloc (.cells arr e)):=by
  intro e sz A5 A AS T AE A9 AU Z hi A4 φ G a w E;obtain⟨H,U⟩:=Dw (φ:=φ) (w:=w) (F:=Fo G φ S.mem) _ A (ps.toList.map λx=>a.eval x.2) A9 (by simp) (parts E);have AF:=Dv A _ H A4 U;have B0:(ps.toList.map λx=>(x.1,a.eval x.2)).map (·.1)=List.range' 0 len:=by rw[<-hi];simp
  have M:∀v∈(ps.toList.map λx=>(x.1,a.eval x.2)),v.2.cells.size=sz:=by
   intro v M;simp only[ab4]at M;obtain⟨x,B1,rfl⟩:=M;obtain⟨i,Av,B2⟩:=ani.1 B1;have hid:i<A.length:=by rw[H];simpa using Av
   have:=U i A[i] (a.eval x.2) (by simp[hid]) (by simp[ad2 Av,B2]);cases this with|d _ _ h=>rw[h.size];exact A4 _ (aep hid)
  obtain⟨arr,Ac,A'⟩:=wc (P:=P) (w:=w) AS T AE Z B0 M;refine⟨?_,arr,?_,?_⟩
  ·have:=aeK List.length hi;simp at this;rw[H];simp;exact this
  ·rw[Ac];have e:(ps.toList.map λx=>(x.1,a.eval x.2)).flatMap (λv=>v.2.cells.toList)=(ps.toList.map λx=>a.eval x.2).flatMap (λv=>v.cells.toList):=by simp[List.flatMap_map]
   rw[e];exact AF
  ·have B3:(ps.map λx=>(x.1,a.eval x.2))=(ps.toList.map λx=>(x.1,a.eval x.2)).toArray:=by apply Array.ext';simp
   simp only[execOp,AT,Sem.run_bind];have Ad:(ps.map λ(i,x)=>(i,a.eval x))=(ps.toList.map λx=>(x.1,a.eval x.2)).toArray:=B3;rw[Ad,A'];rfl
 have nil:∀r,gB P t (keyOf o) len (ps.toList.map λx=>(x.1,(S.aq x.2).2)) (Mem.get S.mem (keyOf o))=some r->aG P S o r:=by
  intro r A2;unfold gB at A2;split at A2
  ·rename_i key v cont AL AJ;split at A2
   ·rename_i e AW;split at A2
    ·rename_i sz A5 T AE;cases A2;refine aG.rR ?_;rintro ⟨rfl,rfl⟩ φ G a w E;have B4:ps.toList.length=1:=by have:=aeK List.length AL;simpa using this
     obtain⟨q,Ae⟩:∃q,ps.toList=[q]:=by
      match BR:ps.toList,B4 with
      |[q],_=>exact⟨q,rfl⟩
     have Af:=parts E 0 (0,.lit (.slice none 0 0)) (a.eval q.2) (by rw[AL];rfl) (by rw[Ae];rfl);simp only at Af;have Ag:a.eval q.2=.slice none 0 0:=by
      generalize a.eval q.2=u at Af;cases Af;rfl
     have B5:q.1=0:=by
      rw[Ae]at AL;simp only[aeC,List.map_nil,List.cons.injEq,adL]at AL;exact AL.1.1
     obtain⟨arr,Ac,A'⟩:=wc (P:=P) (w:=w) (len:=1) AW T AE (by decide) (vs:=[(0,.slice none 0 0)]) rfl (by simp[Value.cells]);have AD:arr=#[.slice none 0 0]:=by apply Array.ext';rw[Ac];simp[Value.cells]
     subst AD;obtain⟨hm,AG,L,AM,AH,_⟩:=E.mem.get AJ;simp only at AG AH;subst AG;obtain⟨φ',Ah,Ai,Aj,Ak⟩:=E.mem.fresh (e:=⟨keyOf o,v,cont⟩) hm AM AH w rfl rfl rfl rfl #[.slice none 0 0] e 1 1 (.box [.lit (.slice none 0 0)]) (λ_ Z=>Z) (λφ' hle B6 Aw AA=>by
      refine⟨⟨rfl,rfl,rfl⟩,#[.slice none 0 0],e,.new AA,rfl,by simp[cA],λn c u A3 hu=>?_⟩;cases n with
      |zero=>simp at A3 hu;subst A3;subst hu;exact .lit _ rfl
      |succ n=>simp at A3)
     refine⟨.slice (some ⟨w.heap.size,0,none⟩) 1 1,_,φ',.inl ?_,.vec _ (v+1) 0 _ _ _ Aj (abO _) (λ_=>⟨_,_,rfl,abO _,λ_=>⟨by simp,by simp⟩⟩) rfl,Ah,Ai,Ak⟩;have Ad:(ps.map λ(i,x)=>(i,a.eval x))=#[(0,.slice none 0 0)]:=by
      apply Array.ext';simp[Ae,B5,Ag]
     simp only[execOp,AT,Sem.run_bind];rw[Ad];have B7:(Instr.buildSlice t 1 #[(0,Value.slice none 0 0)]).run P w=_:=A';rw[B7];rfl
    ·cases A2
   ·cases A2
  ·cases A2
 unfold j2;split
 ·rename_i r A2;exact nil r A2
 rename_i A2;clear A2 nil;unfold qC;split
 ·rename_i e AW;split
  ·rename_i sz A5 A T AE A9;split
   ·rename_i key v cont AJ;refine aG.rR ?_;rintro ⟨AU,Z,hi,A4⟩ φ G a w E;obtain⟨V,arr,AF,A'⟩:=main AW T AE A9 AU Z hi A4 E;obtain⟨hm,AG,L,AM,AH,_⟩:=E.mem.get AJ;simp only at AG AH;subst AG;obtain⟨φ',Ah,Ai,Aj,Ak⟩:=E.mem.fresh (e:=⟨keyOf o,v,cont⟩) hm AM AH w rfl rfl rfl rfl arr e sz len (.vec sz A) (λ_ Z=>Z.2) (λφ' hle B6 Aw AA=>by
     refine vd (cs:=arr.toList) (rest:=[]) (elem:=e) rfl rfl (AF.mono Aw) (by simp) (by simpa using Nat.le_of_eq V) (by rw[aeP,AF.1,V]) (λ_=>?_);refine eJ.new ?_;rw[AA,aeP,ank])
    exact⟨_,_,φ',.inl A',.vec _ (v+1) 0 _ _ _ Aj (abO _) (λ_=>⟨_,_,rfl,abO _,λ_=>⟨by simp,by simp⟩⟩) rfl,Ah,Ai,Ak⟩
   ·refine aG.anM ?_;rintro ⟨AU,Z,hi,A4⟩ φ G a w E;obtain⟨V,arr,AF,A'⟩:=main AW T AE A9 AU Z hi A4 E;have hold:∀b,b<w.heap.size->(w.alloc (.cells arr e)).heap[b]?=w.heap[b]?:=λb Z=>RowKit.Below.heap_alloc w _ b Z;have AA:=heap_alloc_new w (.cells arr e);refine⟨_,_,.inl A',.d _ _ ?_,hold,by simp,rfl,rfl,rfl⟩;have:=Ie (cap:=len) AF AA (rest:=[]) (by simp) (λx v h=>Ig hold (by simp) x v h) (λh=>absurd (Ch E.mem _ h) (Nat.lt_irrefl _)) (Nat.le_of_eq V);rw[V]at this;exact this
  ·trivial
 ·trivial
def q9(s:List UInt8):List D:=s.map λb=>.int .u8 b.toNat
def byteOf:D->UInt8
 | .int _ n=>UInt8.ofNat n.toNat
 |_=>0
def D.isByte:D->Bool
 | .int .u8 _=>true
 |_=>false
theorem D.Tg{d:D}(h:d.isByte=true):∃n,d=.int .u8 n:=by
 unfold D.isByte at h;split at h<;>simp_all
def mf(P:Program)(m:Mem)(A1:Nat)(src dst:TypeId)(x:AV):du:=
 match tk P dst,x with
 | .int k,.d (.int _ n)=>.val (tk P src≠.other) (.d (.int k (k.wrap n)))
 | .str,.d (.int _ n)=>.val (tk P src≠.other) (.d (.str (Utf8.encode n).data.toList))
 | .str,.d (.str s)=>.val (tk P src=.str) (.d (.str s))
 | .str,x=>match tk P src with
  | .slice e=>match gJ m 1 x with
   |some (c,A6)=>.val (c/\tk P e=.int .u8/\fm P e=some 1/\∀d∈A6,d.isByte=true) (.d (.str (A6.map byteOf)))
   |none=>.no
  |_=>.no
 | .slice e,.d (.str s)=>match tk P src,tk P e,Mem.get m A1 with
  | .str,.int .u8,none=>.val True (.d (.list (q9 s)))
  |_,_,_=>.no
 |_,_=>.no
theorem Dx{P:Program}{w:World}:∀(cs:List Value)(s0:ByteArray)(Y:List Int),cs=Y.map (Value.int .u8)->
 (forIn cs s0 (λc s=>(match c with| .int .u8 n=>pure (ForInStep.yield (s.push (UInt8.ofNat n.toNat)))|_=>(do stuck "bytesToString: byte expected";pure (ForInStep.yield s)):Sem (ForInStep ByteArray)))).run P w=.ok ⟨(s0.data.toList++Y.map λn=>UInt8.ofNat n.toNat).toArray⟩ w
 |[],s0,Y,h=>by
  have:Y=[]:=by simpa using h.symm
  subst this;simp
 |c::cs,s0,Y,h=>by
  cases Y with
  |nil=>simp at h
  |cons n Y=>
   simp at h;obtain⟨rfl,rfl⟩:=h;simp only[List.forIn_cons,Sem.run_bind,Sem.run_pure,Result.andThen_ok];rw[Dx (Y.map (Value.int .u8)) (s0.push (UInt8.ofNat n.toNat)) Y rfl];simp
theorem K7{P:Program}{w:World}{e:TypeId}{b:ByteArray}:∃(arr:Array Value)(fr:Nat×Nat)(w':World)(cap:Nat)(rest:List Value),b.size<=cap/\(Conv.stringToBytes e b).run P w=.ok (.slice (some ⟨w.heap.size,0,none⟩) b.size cap) w'/\
 arr.toList=(b.data.toList.map λx=>Value.int .u8 x.toNat)++rest/\w'.heap[w.heap.size]?=some (.cells arr e fr)/\(∀k,k<w.heap.size->w'.heap[k]?=w.heap[k]?)/\w.heap.size<=w'.heap.size/\w'.os=w.os/\w'.tape=w.tape/\w'.output=w.output:=by
 obtain⟨cap,AI⟩:∃cap,cap=(Question.appendCap b.size 0 e).cut (w.tape w.drawn (.appendCap b.size 0 e)):=⟨_,rfl⟩;obtain⟨arr,AD⟩:∃arr:Array Value,arr=(b.data.map λx=>Value.int .u8 x.toNat)++Array.replicate (cap-b.size) (.int .u8 0):=⟨_,rfl⟩;obtain⟨N,AK⟩:∃N,N=w.drew.alloc (.cells arr e):=⟨_,rfl⟩;have AA:N.heap[w.heap.size]?=some (.cells arr e (0,0)):=by
  have:=heap_alloc_new w.drew (.cells arr e);rw[<-AK]at this;exact this
 have Aa:w.heap.size<N.heap.size:=(ad1.1 AA).1;have B8:N.shape? w.heap.size=some (e,arr.size):=by simp[World.shape?,AA]
 refine⟨arr,(arr.size,arr.size+1),N.freeze ⟨w.heap.size,arr.size,none⟩ 1,cap,List.replicate (cap-b.size) (.int .u8 0),?_,?_,?_,?_,?_,?_,?_,?_,?_⟩
 ·rw[AI];simp[Question.cut]
 ·have Ab:(choose (.appendCap b.size 0 e)).run P w=.ok cap w.drew:=by
   rw[AI];rfl
  have B9:(newRow e arr).run P w.drew=.ok ⟨w.heap.size,0,none⟩ N:=by rw[AK];rfl
  have BA:(markStringish ⟨w.heap.size,0,none⟩).run P N=.ok () (N.freeze ⟨w.heap.size,arr.size,none⟩ 1):=by
   simp only[markStringish,shape,Sem.run_bind,Sem.run,B8,Result.andThen_ok,freeze]
  simp only[Conv.stringToBytes,Sem.run_bind,Ab,Result.andThen_ok,<-AD,B9,BA,Sem.run_pure]
 ·rw[AD];simp
 ·simp[World.freeze,aiW,AA]
 ·intro k AG;have H:(N.freeze ⟨w.heap.size,arr.size,none⟩ 1).heap[k]?=N.heap[k]?:=by
   simp only[World.freeze,Nat.one_ne_zero,ad0,aiW];rw[abN (by omega)]
  rw[H,AK];exact RowKit.Below.heap_alloc w.drew _ k AG
 ·simp[World.freeze];omega
 ·simp[World.freeze,AK];rfl
 ·simp[World.freeze,AK]
 ·simp[World.freeze,AK];rfl
theorem PX(n:Int):byteOf (.int .u8 n)=UInt8.ofNat n.toNat:=rfl
theorem LX(P:Program)(S:St)(o:Oper)(src dst:TypeId)(x:Operand)(AT:o.op=.convert src dst x)(J:(S.aq x).1=true):aG P S o (mf P S.mem (keyOf o) src dst (S.aq x).2):=by
 have A':∀(a:Act)(w w':World)(v:Value),(convert src dst (a.eval x)).run P w=.ok v w'->(execOp a.eval o).run P w=.ok (.value v) w':=by
  intro a w w' v h;simp[execOp,AT,h]
 unfold mf;split
 ·rename_i k BS n I A0;refine aG.pure λA3 φ G a w E=>?_;have H:=E.aq x J;rw[A0]at H;obtain⟨BB,hu⟩:=Cj A3;refine⟨.int k (k.wrap n),A' a w w _ ?_,.d _ _ (.int _ _)⟩;rw[jL H];simp[convert,run_underlying hu,run_underlying (wb I),Conv.intToInt]
 ·rename_i k n I A0;refine aG.pure λA3 φ G a w E=>?_;have H:=E.aq x J;rw[A0]at H;obtain⟨BB,hu⟩:=Cj A3;refine⟨.string (Utf8.encode n),A' a w w _ ?_,.d _ _ (.str _ _ rfl)⟩;rw[jL H];simp[convert,run_underlying hu,run_underlying (nH I),Conv.intToString]
 ·rename_i s I A0;refine aG.pure λA3 φ G a w E=>?_;have H:=E.aq x J;rw[A0]at H;obtain⟨b,Al,rfl⟩:=tc H;refine⟨.string b,A' a w w _ ?_,.d _ _ (.str _ _ rfl)⟩;rw[Al];simp[convert,run_underlying (nH A3),run_underlying (nH I)]
 ·rename_i I _ _;split
  ·rename_i e AX;split
   ·rename_i c A6 AB;refine aG.pure ?_;rintro ⟨A3,AY,BT,AN⟩ φ G a w E;replace AN:=λd I=>D.Tg (AN d I);have A0:=E.aq x J;obtain⟨BC,An⟩:=HT (P:=P) E.mem A0 AB A3 (λd I=>by obtain⟨n,rfl⟩:=AN d I;rfl);have V:=An.len w;have AO:=An.first w (λ_ _=>rfl);obtain⟨BD,BU,BV,BE⟩:=An.ai
    --BW cells as numbers
    have AZ:∃Y:List Int,BC=Y.map (Value.int .u8)/\A6=Y.map (D.int .u8):=by
     refine⟨A6.map λd=>(match d with| .int _ n=>n|_=>0),?_,?_⟩
     ·apply List.ext_getElem?;intro i;by_cases hi:i<A6.length
      ·obtain⟨v,M,BF⟩:=BE i A6[i] (by simp[hi]);obtain⟨n,A_⟩:=AN A6[i] (aep hi);rw[A_]at M;cases M;have:=BF 0 (.int .u8 n) rfl;simp only[amm,agR]at this;rw[this];simp[hi,A_]
      ·rw[afa (by rw[BD];omega),afa (by simp;omega)]
     ·apply List.ext_getElem?;intro i;by_cases hi:i<A6.length
      ·obtain⟨n,A_⟩:=AN A6[i] (aep hi);simp[hi,A_]
      ·rw[afa (by omega),afa (by simp;omega)]
    obtain⟨Y,rfl,rfl⟩:=AZ;generalize Ag:a.eval x=Ao at V AO A0;have M:(∃ao m cap,Ao=.slice ao m cap)\/(∃b,Ao=.string b):=by
     cases Ao<;>first|exact .inl ⟨_,_,_,rfl⟩|exact .inr ⟨_,rfl⟩|(simp[Builtin.lenOf,stuck]at V)
    refine⟨.string ⟨(Y.map λn=>UInt8.ofNat n.toNat).toArray⟩,A' a w w _ ?_,.d _ _ (.str _ _ ?_)⟩
    ·rw[Ag];rcases M with ⟨ao,m,cap,rfl⟩|⟨b,rfl⟩
     ·simp only[Builtin.lenOf,Sem.run_pure,Result.ok.injEq,and_true]at V;subst V;cases ao with
      |none=>
       have BG:Y=[]:=by
        simp only[Builtin.firstCells,Sem.run_pure,Result.ok.injEq,and_true]at AO;have:=aeK Array.size AO;simp at this;exact ab8 this.symm
       subst BG;simp[convert,run_underlying (fL AX),run_underlying (nH I),run_underlying (wb AY),Conv.bytesToString];rfl
      |some BX=>
       simp only[Builtin.firstCells,amm]at AO;have Z:=Dx (P:=P) (w:=w) (Y.map (Value.int .u8)) ByteArray.empty Y rfl;simp only[convert,run_underlying (fL AX),run_underlying (nH I),run_underlying (wb AY),Sem.run_bind,Result.andThen_ok,Conv.bytesToString,AO];rw[<-Array.forIn_toList];simp only[Sem.run_pure];refine Eq.trans (aeK (λr=>Result.andThen r λa w'=>Result.ok (Value.string a) w') Z) ?_;rfl
     ·exfalso;have AZ:∀s,(S.aq x).2=.d (.str s)->False:=by assumption
      generalize (S.aq x).2=y at AB A0 AZ;unfold gJ at AB;split at AB
      ·cases A0 with|d _ _ h=>cases h
      ·exact AZ _ rfl
      ·cases A0
      ·cases A0
      ·split at AB
       ·rename_i key As BY ai AJ;simp only[abX,adL]at AB;obtain⟨rfl,_⟩:=AB;obtain⟨_,_,L,AM,AH,_⟩:=E.mem.get AJ;cases A0 with
        |vec _ _ _ _ _ L' Ax _ h _=>
         rw[AM]at Ax;cases Ax;obtain⟨_,_,U,_⟩:=h (by rw[<-(ad7 A3).1];exact AH.symm);cases U
       ·cases AB
      ·cases AB
    ·simp[PX,Function.comp_def]
   ·trivial
  ·trivial
 ·rename_i e s I A0;split
  ·rename_i AX AY AJ;intro _ φ G a w E;have H:=E.aq x J;rw[A0]at H;obtain⟨b,Al,rfl⟩:=tc H;have BH:b.size=b.data.toList.length:=by rw[ace];rfl
   obtain⟨arr,fr,w',cap,rest,AI,BI,AD,hh,hold,A4,BJ,BK,BL⟩:=K7 (P:=P) (w:=w) (e:=e) (b:=b);have AF:cm w (Fo G φ S.mem) 1 (q9 b.data.toList) (b.data.toList.map λx=>Value.int .u8 x.toNat):=by
    refine⟨by simp[q9],?_,?_,?_⟩
    ·intro v M;simp only[ab4]at M;obtain⟨y,_,rfl⟩:=M;rfl
    ·intro d I;simp only[q9,ab4]at I;obtain⟨y,_,rfl⟩:=I;rfl
    ·intro i d I;simp only[q9,adK,abS]at I;obtain⟨y,BM,rfl⟩:=I;refine⟨.int .u8 y.toNat,.int _ _,λj c AC=>?_⟩;cases j with
     |zero=>simp only[Value.cells]at AC;simp at AC;subst AC;simp only[adK,amm,agR,BM];rfl
     |succ j=>simp[Value.cells]at AC
   have O:=Ie (cap:=cap) AF hh AD (λx v h=>Ig hold A4 x v h) (λh=>absurd (Ch E.mem _ h) (Nat.lt_irrefl _)) (by simp[q9];exact AI);refine⟨_,w',.inl (A' a w w' _ ?_),.d _ _ O,hold,A4,BJ,BK,BL⟩;have V:(q9 b.data.toList).length=b.size:=by rw[BH];simp[q9]
   rw[Al,V];simp only[convert,run_underlying (nH AX),run_underlying (fL I),run_underlying (wb AY),Sem.run_bind,Result.andThen_ok];exact BI
  ·trivial
 ·trivial
end Go.Am
end

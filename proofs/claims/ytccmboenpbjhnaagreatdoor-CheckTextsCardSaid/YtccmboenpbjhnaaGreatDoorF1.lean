/-
  Texts of one proof, one behind the other.
-/
import Derived.WalkKit
import Derived.Laws.Rows
import Derived.Laws.CopyRow
import Derived.Laws.StructEq
set_option linter.all false
namespace Go.Am
open Go
def Ds:=@Bool.and_eq_true
def D1:=@List.getElem?_eq_some_iff
def aab:=@if_neg
def aad:=@Nat.le_refl
def aak:=@decide_eq_true_eq
def aam:=@List.length_append
def aan:=@List.length_cons
def aat:=@if_pos
def aaw:=@List.length_nil
def aax:=@Option.map_eq_some_iff
def aay:=@List.mem_of_getElem?
def aaC:=@List.mem_cons
def aaF:=@List.getElem?_append_left
def aa0:=@List.mem_append
def aa1:=@Option.some.injEq
def abI:=@List.getElem?_append_right
def abJ:=@List.getElem?_eq_getElem
def abN:=@Array.getD_eq_getD_getElem?
def abO:=@List.eq_nil_of_length_eq_zero
def abR:=@List.map_cons
def abS:=@Nat.mul_le_mul_right
def abV:=@List.mem_map
def abW:=@List.getElem?_take
def abX:=@List.all_eq_true
def abY:=@Nat.add_assoc
def ab0:=@List.mem_map_of_mem
def ab6:=@List.getElem?_map
def ab9:=@Array.length_toList
def aca:=@List.mem_range
def acb:=@List.getD_eq_getElem?_getD
def acr:=@Prod.mk.injEq
def acw:=@if_false
def acx:=@List.getElem?_drop
def acD:=@List.append_assoc
def acE:=@Option.bind_some
def acH:=@if_true
def acJ:=@List.mem_of_mem_drop
def acU:=@Array.getElem?_eq_some_iff
def acV:=@of_decide_eq_true
def acW:=@Bool.false_eq_true
def afM:=@List.mem_of_mem_take
def afP:=@decide_eq_false_iff_not
def afQ:=@List.not_mem_nil
def afR:=@List.nil_append
def afS:=@List.mem_filter
def afT:=@List.mem_cons_of_mem
def afV:=@List.append_nil
def afX:=@List.getElem?_eq_none
def af2:=@List.size_toArray
def af3:=@List.cons_append
def af4:=@List.length_singleton
def af6:=@Nat.add_mul
def af7:=@Option.getD_some
def af8:=@Classical.axiomOfChoice
def af9:=@decide_eq_true
def ahI:=@Nat.zero_add
def ahK:=@Bool.not_eq_true'
def ahL:=@List.getElem?_toArray
def ahM:=@List.map_nil
def ahQ:=@List.foldl_cons
def ahR:=@Bool.or_eq_true
def ahS:=@congrArg
def ahU:=@List.length_drop
def ahV:=@List.getElem_mem
def ahX:=@Array.getElem?_eq_getElem
def ah0:=@Nat.add_zero
def ah1:=@Array.getElem?_toList
def ah2:=@Array.getElem?_append_left
def ah3:=@Option.map_some
def ah4:=@List.map_append
def aib:=@Option.bind_eq_some_iff
def aic:=@List.length_take
def ake:=@Ne.symm
def akj:=@Nat.succ_mul
def akk:=@List.filter_eq_nil_iff
def akl:=@decide_eq_decide
def akm:=@Nat.le_trans
def akt:=@List.foldl_nil
def akv:=@List.cons.injEq
def akw:=@List.take_of_length_le
def akz:=@List.range'_succ
def akA:=@Nat.lt_of_lt_of_le
def akB:=@List.mem_singleton
def akG:=@List.filter_filter
def akL:=@List.filter_append
def akQ:=@List.take_append_drop
def akS:=@List.takeWhile_prefix
def akT:=@List.eq_nil_or_concat
def akV:=@Array.getElem?_modify
def akW:=@Nat.min_eq_left
def akX:=@List.mem_append_left
def akY:=@List.filter_congr
def ak0:=@Classical.not_not
def ak7:=@Option.isSome_iff_exists
def ak8:=@Bool.and_true
def ala:=@true_and
def alb:=@Nat.mul_one
def alc:=@Nat.le_succ
def ale:=@List.take_append_of_le_length
def alg:=@not_or
def alj:=@Nat.eq_zero_or_pos
def alk:=@Nat.le_add_left
def alz:=@List.sum_cons
def alB:=@List.concat_eq_append
def ans:=@List.length_filter_lt_length_iff_exists
def an4:=@List.mem_iff_getElem
def an5:=@Int.le_refl
def an9:=@List.getLast?_eq_getElem?
def aoh:=@List.map_congr_left
def aon:=@or_false
def aop:=@decide_eq_false
def aot:=@List.getElem?_replicate
def aou:=@List.filter_cons_of_neg
def aoz:=@and_true
def aoB:=@List.mem_range'_1
def aoI:=@List.drop_drop
def aoR:=@Iff.rfl
def aoS:=@List.singleton_append
def aoT:=@List.all_cons
def aoU:=@List.getElem?_of_mem
def aoV:=@Array.toArray_toList
end Go.Am
section
namespace Go.Am
open Go
inductive D where
 |int (k:IntKind) (n:Int)
 |bool (b:Bool)
 |str (s:List UInt8)
 |list (xs:List D)
 |agg (cs:List D)
 |Cf
def D.size:D->Nat
 | .agg cs=>cs.length
 |_=>1
def D.flat:D->Bool
 | .agg _=>false
 |_=>true
def cF:Value->Bool
 | .agg _=>false
 | .tuple _=>false
 |_=>true
theorem eI{v:Value}(h:cF v=true):v.cells=#[v]:=by cases v<;>simp_all [cF,Value.cells]
inductive aQ(w:World)(F:Nat->Prop):D->Value->Prop
 |int (k n):aQ w F (.int k n) (.int k n)
 |bool (b):aQ w F (.bool b) (.bool b)
 |Cf (v:Value) (h:v=.nilIface\/∃t p,v=.iface t p):aQ w F .Cf v
 |str (b:ByteArray) (s:List UInt8) (h:b.data.toList=s):aQ w F (.str s) (.string b)
 |agg (cs:List D) (a:Array Value) (H:cs.length=a.size)
  (V:∀d∈cs,d.flat=true) (I:∀(i:Nat)(d:D)(v:Value),cs[i]?=some d->a[i]?=some v->aQ w F d v):aQ w F (.agg cs) (.agg a)
 |nil (a:Option Addr) (cap:Nat) (A2:a=none->cap=0):aQ w F (.list []) (.slice a 0 cap)
 |list (xs:List D) (b off cap sz:Nat) (vs:Nat->Value) (A3:xs.length<=cap) (T:b<w.heap.size) (O:¬F b) (A4:∀d∈xs,d.size=sz)
  (W:∀(i:Nat)(d:D),xs[i]?=some d->aQ w F d (vs i))
  (I:∀(i j:Nat)(c:Value),i<xs.length->(vs i).cells[j]?=some c->w.cell? ⟨b,off+i*sz+j,none⟩=some c):
  aQ w F (.list xs) (.slice (some ⟨b,off,none⟩) xs.length cap)
theorem aQ.size{w F d v}(h:aQ w F d v):v.cells.size=d.size:=by
 cases h
 case Cf h=>rcases h with rfl|⟨t,p,rfl⟩<;>rfl
 all_goals simp_all [D.size,Value.cells]
theorem aQ.one{w F d v}(h:aQ w F d v)(V:d.flat=true):cF v=true:=by
 cases h
 case Cf h=>rcases h with rfl|⟨t,p,rfl⟩<;>rfl
 all_goals simp_all [D.flat,Am.cF]
theorem mb{w w':World}{b o:Nat}(h:w'.heap[b]?=w.heap[b]?):w'.cell? ⟨b,o,none⟩=w.cell? ⟨b,o,none⟩:=by
 simp[World.cell?,h]
theorem aQ.mono{w w':World}{F F':Nat->Prop}{d v}(h:aQ w F d v)
 (Y:∀b,b<w.heap.size->¬F b->w'.heap[b]?=w.heap[b]?) (A':w.heap.size<=w'.heap.size) (O:∀b,b<w.heap.size->F' b->F b):aQ w' F' d v:=by
 induction h with
 |int k n=>exact .int k n
 |bool b=>exact .bool b
 |Cf v h=>exact .Cf v h
 |str b s h=>exact .str b s h
 |agg cs a H V _ ih=>exact .agg cs a H V ih
 |nil a cap A2=>exact .nil a cap A2
 |list xs b off cap sz vs A3 T Z A4 _ I ih=>
  exact .list xs b off cap sz vs A3 (by omega) (λh=>Z (O b T h)) A4 ih (λi j c hi AA=>by
   rw[mb (Y b T Z)];exact I i j c hi AA)
def vi:Nat:=1000000
inductive AV where
 |bu
 |d (x:D)
 |agg (cs:List AV)
 |ptr (k ar off:Nat)
 |vec (k ar off len:Nat)
 |cS (k ar i j:Nat)
 |eu (x:D) (j:Nat)
 |fn (f:FuncId) (cap:List AV)
 |aY (vs:List AV)
 |iA (t:TypeId) (x:D)
 |lit (v:Value)
 |nn
 |err
structure Loc where
 ar:Nat
 dZ:Nat
 sz:Nat
 cap:Nat
 base:Nat
 da:List (Option Nat):=[]
abbrev bP:=Nat->Option Loc
inductive aH(φ:bP)(w:World)(F:Nat->Prop):AV->Value->Prop
 |bu (v):aH φ w F .bu v
 |d (x v) (h:aQ w F x v):aH φ w F (.d x) v
 |agg (cs:List AV) (a:Array Value) (H:cs.length=a.size) (E:∀v∈a,cF v=true) (I:∀(i:Nat)(c:AV)(v:Value),cs[i]?=some c->a[i]?=some v->aH φ w F c v):aH φ w F (.agg cs) (.agg a)
 |ptr (k ar off:Nat) (v:Value) (L:Loc) (J:φ k=some L) (W:ar<=L.ar) (h:ar=L.ar->v=.pointer (some ⟨L.dZ,off,none⟩)) (E:cF v=true):aH φ w F (.ptr k ar off) v
 |vec (k ar off len:Nat) (v:Value) (L:Loc) (J:φ k=some L) (W:ar<=L.ar)
  (h:ar=L.ar->∃a cap,v=.slice a len cap/\len<=cap/\(cap>0->a=some ⟨L.dZ,L.base+off*L.sz,none⟩/\off+cap<=L.cap)) (E:cF v=true):aH φ w F (.vec k ar off len) v
 |cS (k ar i j:Nat) (v:Value) (L:Loc) (J:φ k=some L) (W:ar<=L.ar) (h:ar=L.ar->v=.pointer (some ⟨L.dZ,L.base+i*L.sz+j,none⟩)) (E:cF v=true):aH φ w F (.cS k ar i j) v
 |eu (x:D) (j:Nat) (b off:Nat) (A0:Value) (T:b<w.heap.size) (O:¬F b) (A5:aQ w F x A0)
  (I:∀(i:Nat)(c:Value),A0.cells[i]?=some c->w.cell? ⟨b,off+i,none⟩=some c):aH φ w F (.eu x j) (.pointer (some ⟨b,off+j,none⟩))
 |fn (f:FuncId) (cap:List AV) (a:Array Value) (V:f<vi) (H:cap.length=a.size) (I:∀(i:Nat)(c:AV)(v:Value),cap[i]?=some c->a[i]?=some v->aH φ w F c v):aH φ w F (.fn f cap) (.func (.func f) #[] a)
 |vj (f:FuncId) (cap:List AV) (a:Array Value) (H:cap.length=a.size) (I:∀(i:Nat)(c:AV)(v:Value),cap[i]?=some c->a[i]?=some v->aH φ w F c v):aH φ w F (.fn (f+vi) cap) (.func (.func f) a #[])
 |aY (vs:List AV) (a:Array Value) (H:vs.length=a.size) (I:∀(i:Nat)(c:AV)(v:Value),vs[i]?=some c->a[i]?=some v->aH φ w F c v):aH φ w F (.aY vs) (.tuple a)
 |iA (t:TypeId) (x:D) (v:Value) (h:aQ w F x v):aH φ w F (.iA t x) (.iface t v)
 |lit (v) (E:cF v=true):aH φ w F (.lit v) v
 |nn (a:Addr) (cap:Nat):aH φ w F .nn (.slice (some a) 0 cap)
 |err (t:TypeId) (v:Value):aH φ w F .err (.iface t v)
def bP.le(φ φ':bP):Prop:=∀k L,φ k=some L->∃L',φ' k=some L'/\L.ar<=L'.ar/\(L'.ar=L.ar->L'={L with da:=L'.da})
theorem bP.le_refl(φ:bP):φ.le φ:=λ_ L h=>⟨L,h,aad _,λ_=>rfl⟩
theorem bP.le_trans{φ φ' A6:bP}(h:φ.le φ')(AB:φ'.le A6):φ.le A6:=by
 intro k L J;obtain⟨A7,E,AF,AC⟩:=h k L J;obtain⟨AD,AE,AG,A8⟩:=AB k A7 E;refine⟨AD,AE,by omega,λe=>?_⟩;have M:A7.ar=L.ar:=by omega
 have U:=AC M;rw[U]at A8;exact A8 (by rw[e])
theorem aH.mono{φ φ':bP}{w w':World}{F F':Nat->Prop}{x v}(h:aH φ w F x v)(A1:φ.le φ')
 (Y:∀b,b<w.heap.size->¬F b->w'.heap[b]?=w.heap[b]?) (A':w.heap.size<=w'.heap.size) (O:∀b,b<w.heap.size->F' b->F b):aH φ' w' F' x v:=by
 induction h with
 |bu v=>exact .bu v
 |d x v h=>exact .d x v (h.mono Y A' O)
 |agg cs a H E _ ih=>exact .agg cs a H E ih
 |ptr k ar off v L J W h E=>
  obtain⟨L',y,A9,he⟩:=A1 k L J;exact .ptr k ar off v L' y (by omega) (λe=>by
   have M:L'.ar=L.ar:=by omega
   have U:=he M;rw[U];exact h (by rw[e,M])) E
 |vec k ar off len v L J W h E=>
  obtain⟨L',y,A9,he⟩:=A1 k L J;exact .vec k ar off len v L' y (by omega) (λe=>by
   have M:L'.ar=L.ar:=by omega
   have U:=he M;rw[U];exact h (by rw[e,M])) E
 |cS k ar i j v L J W h E=>
  obtain⟨L',y,A9,he⟩:=A1 k L J;exact .cS k ar i j v L' y (by omega) (λe=>by
   have M:L'.ar=L.ar:=by omega
   have U:=he M;rw[U];exact h (by rw[e,M])) E
 |eu x j b off A0 T Z A5 I=>
  exact .eu x j b off A0 (by omega) (λh=>Z (O b T h)) (A5.mono Y A' O) (λi c hi=>by rw[mb (Y b T Z)];exact I i c hi)
 |fn f cap a V H _ ih=>exact .fn f cap a V H ih
 |vj f cap a H _ ih=>exact .vj f cap a H ih
 |aY vs a H _ ih=>exact .aY vs a H ih
 |iA t x v h=>exact .iA t x v (h.mono Y A' O)
 |lit v E=>exact .lit v E
 |nn a cap=>exact .nn a cap
 |err t v=>exact .err t v
inductive aD where
 |dead
 |box (cs:List AV)
 |vec (sz:Nat) (aj:List D)
 |vv (aj:List (List D)) (y:Option AV)
structure cq where
 key:Nat
 ar:Nat
 cont:aD
abbrev Mem:=List cq
def Mem.get:Mem->Nat->Option cq
 |[],_=>none
 |e::r,k=>if e.key=k then some e else Mem.get r k
def Mem.set:Mem->cq->Mem
 |[],_=>[]
 |e::r,x=>if e.key=x.key then x::r else e::Mem.set r x
theorem Mem.get_mem{m:Mem}{k e}(h:Mem.get m k=some e):e∈m/\e.key=k:=by
 induction m with
 |nil=>simp[Mem.get]at h
 |cons x r ih=>
  simp only[Mem.get]at h;split at h
  ·simp_all
  ·have:=ih h;simp_all
theorem Mem.get_of_mem{m:Mem}{e}(J:(m.map (·.key)).Nodup)(h:e∈m):Mem.get m e.key=some e:=by
 induction m with
 |nil=>simp at h
 |cons x r ih=>
  simp only[abR,List.nodup_cons]at J;simp only[Mem.get];rcases aaC.1 h with rfl|h
  ·simp
  ·have:x.key≠e.key:=λhe=>J.1 (by rw[he];exact ab0 h);simp[this,ih J.2 h]
theorem Mem.iE(m:Mem)(x:cq):(Mem.set m x).map (·.key)=m.map (·.key):=by
 induction m with
 |nil=>rfl
 |cons e r ih=>
  simp only[Mem.set];split
  ·simp_all
  ·simp[ih]
theorem Mem.mem_set{m:Mem}{x e:cq}(J:(m.map (·.key)).Nodup):e∈Mem.set m x↔(e=x/\x.key∈m.map (·.key))\/(e∈m/\e.key≠x.key):=by
 induction m with
 |nil=>simp[Mem.set]
 |cons y r ih=>
  simp only[abR,List.nodup_cons]at J;simp only[Mem.set];split
  ·rename_i O;constructor
   ·intro h;rcases aaC.1 h with rfl|h
    ·left;simp[O]
    ·right;refine⟨by simp[h],λhe=>J.1 ?_⟩;rw[O,<-he];exact ab0 h
   ·rintro (⟨rfl,_⟩|⟨h,Y⟩)
    ·simp
    ·rcases aaC.1 h with rfl|h
     ·exact absurd O Y
     ·simp[h]
  ·rename_i O;simp only[aaC,ih J.2,abR];constructor
   ·rintro (rfl|⟨rfl,h⟩|⟨h,Y⟩)
    ·right;exact⟨.inl rfl,O⟩
    ·left;exact⟨rfl,.inr h⟩
    ·right;exact⟨.inr h,Y⟩
   ·rintro (⟨rfl,h⟩|⟨h,Y⟩)
    ·rcases h with h|h
     ·exact absurd h.symm O
     ·right;left;exact⟨rfl,h⟩
    ·rcases h with rfl|h
     ·left;rfl
     ·right;right;exact⟨h,Y⟩
theorem Mem.rK{m:Mem}{x:cq}(h:x.key∈m.map (·.key)):Mem.get (Mem.set m x) x.key=some x:=by
 induction m with
 |nil=>simp at h
 |cons y r ih=>
  simp only[Mem.set];split
  ·simp[Mem.get]
  ·rename_i O;simp only[Mem.get,O,acw];exact ih (by simp only[abR,aaC]at h;rcases h with h|h;exact absurd h.symm O;exact h)
theorem Mem.rL{m:Mem}{x:cq}{k:Nat}(h:x.key≠k):Mem.get (Mem.set m x) k=Mem.get m k:=by
 induction m with
 |nil=>rfl
 |cons y r ih=>
  simp only[Mem.set];split
  ·rename_i O;have:y.key≠k:=by rw[O];exact h
   simp[Mem.get,h,this]
  ·simp only[Mem.get,ih]
def aD.db(L:Loc):aD->Nat->Prop
 | .dead,_=>False
 | .box _,b=>L.dZ=b
 | .vec _ _,b=>0<L.cap/\L.dZ=b
 | .vv _ _,b=>(0<L.cap/\L.dZ=b)\/some b∈L.da
def jQ(φ:bP)(m:Mem)(b:Nat):Prop:=∃e∈m,∃L,φ e.key=some L/\e.cont.db L b
structure Fr where
 g:Nat->Prop
 dv:List Deferred
instance:CoeFun Fr (λ_=>Nat->Prop):=⟨Fr.g⟩
def Fo(G:Fr)(φ:bP)(m:Mem)(b:Nat):Prop:=G b\/jQ φ m b
def fJ(w:World)(b:Nat)(arr:Array Value)(elem:TypeId):Prop:=∃fr:Nat×Nat,w.heap[b]?=some (.cells arr elem fr)/\(fr=(0,0)\/arr.size<=fr.1)
theorem fJ.same{w w':World}{b:Nat}{arr:Array Value}{elem:TypeId}(h:fJ w b arr elem)(U:w'.heap[b]?=w.heap[b]?):fJ w' b arr elem:=by
 obtain⟨fr,V,Z⟩:=h;exact⟨fr,by rw[U];exact V,Z⟩
theorem fJ.lt{w:World}{b:Nat}{arr:Array Value}{elem:TypeId}(h:fJ w b arr elem):b<w.heap.size:=by
 obtain⟨fr,V,Z⟩:=h;exact (acU.1 V).1
theorem fJ.new{w:World}{b:Nat}{arr:Array Value}{elem:TypeId}(h:w.heap[b]?=some (.cells arr elem (0,0))):fJ w b arr elem:=⟨(0,0),h,.inl rfl⟩
def Cg(w:World)(F:Nat->Prop)(v:Option Value)(xs:List D)(o:Option Nat):Prop:=
 match o with
 |none=>xs=[]/\∃a,v=some (.slice a 0 0)
 |some b=>∃(row:Array Value)(AH:TypeId)(off cap:Nat),v=some (.slice (some ⟨b,off,none⟩) xs.length cap)/\0<cap/\xs.length<=cap/\off+cap<=row.size/\fJ w b row AH/\(∀u∈row,cF u=true)/\
  ∀(i:Nat)(d:D),xs[i]?=some d->d.size=1/\∃u,aQ w F d u/\∀(j:Nat)(c:Value),u.cells[j]?=some c->row[off+i*1+j]?=some c
theorem Cg.mono{w w':World}{F F':Nat->Prop}{v xs o}(h:Cg w F v xs o)(A2:∀d u,d∈xs->aQ w F d u->aQ w' F' d u)
 (A3:∀b,o=some b->w'.heap[b]?=w.heap[b]?):Cg w' F' v xs o:=by
 cases o with
 |none=>exact h
 |some b=>
  obtain⟨row,AH,off,cap,V,Z,A5,A9,AM,Ah,Ai⟩:=h;exact⟨row,AH,off,cap,V,Z,A5,A9,AM.same (A3 b rfl),Ah,λj d AI=>let ⟨g1,u,g2,g3⟩:=Ai j d AI;⟨g1,u,A2 d u (aay AI) g2,g3⟩⟩
def mB(φ:bP)(w:World)(F:Nat->Prop)(L:Loc)(aj:List (List D))(y:Option AV):Prop:=
 (L.sz=1/\aj.length+y.toList.length<=L.cap/\L.da.length=aj.length)/\
  (∀(i j:Nat)(b:Nat),L.da[i]?=some (some b)->L.da[j]?=some (some b)->i=j)/\(∀b,some b∈L.da->0<L.cap/\b≠L.dZ)/\
  (0<L.cap->∃(arr:Array Value)(elem:TypeId),fJ w L.dZ arr elem/\arr.size=L.base+L.cap/\(∀v∈arr,cF v=true)/\
   (∀(i:Nat)(xs:List D)(o:Option Nat),aj[i]?=some xs->L.da[i]?=some o->Cg w F arr[L.base+i]? xs o)/\
   ∀x,y=some x->∃v,arr[L.base+aj.length]?=some v/\aH φ w F x v)
theorem mB.mono{φ φ':bP}{w w':World}{F F':Nat->Prop}{L aj y}(f:AV->AV)(h:mB φ w F L aj y)
 (A2:∀xs∈aj,∀d∈xs,∀u,aQ w F d u->aQ w' F' d u) (AN:∀x,y=some x->∀v,aH φ w F x v->aH φ' w' F' (f x) v)
 (A3:∀b,((0<L.cap/\L.dZ=b)\/some b∈L.da)->w'.heap[b]?=w.heap[b]?):mB φ' w' F' L aj (y.map f):=by
 obtain⟨A',V,Z,h⟩:=h;refine⟨by cases y<;>exact A',V,Z,λM=>?_⟩;obtain⟨arr,elem,g1,g2,g3,g4,g5⟩:=h M;refine⟨arr,elem,g1.same (A3 _ (.inl ⟨M,rfl⟩)),g2,g3,λi xs o hi H=>(g4 i xs o hi H).mono (λd u hm=>A2 xs (aay hi) d hm u) (λb e=>A3 b (.inr (by subst e;exact aay H))),λx I=>?_⟩;cases y with
 |none=>cases I
 |some z=>
  cases I;obtain⟨v,q1,q2⟩:=g5 z rfl;exact⟨v,q1,AN z rfl v q2⟩
theorem mB.aqb{φ φ':bP}{w w':World}{F F':Nat->Prop}{L aj y}(h:mB φ w F L aj y)
 (A2:∀xs∈aj,∀d∈xs,∀u,aQ w F d u->aQ w' F' d u) (AN:∀x,y=some x->∀v,aH φ w F x v->aH φ' w' F' x v)
 (A3:∀b,((0<L.cap/\L.dZ=b)\/some b∈L.da)->w'.heap[b]?=w.heap[b]?):mB φ' w' F' L aj y:=by
 have:=h.mono id A2 AN A3;cases y<;>exact this
theorem mB.ar{φ w F L aj y}(h:mB φ w F L aj y)(v:Nat):mB φ w F {L with ar:=v} aj y:=h
def eJ(φ:bP)(w:World)(F:Nat->Prop)(L:Loc):aD->Prop
 | .dead=>True
 | .box cs=>(L.sz=1/\L.base=0/\L.cap=cs.length)/\∃(arr:Array Value)(elem:TypeId),fJ w L.dZ arr elem/\arr.size=cs.length/\(∀v∈arr,cF v=true)/\
  ∀(i:Nat)(c:AV)(v:Value),cs[i]?=some c->arr[i]?=some v->aH φ w F c v
 | .vec sz aj=>L.sz=sz/\aj.length<=L.cap/\(∀d∈aj,d.size=L.sz)/\(0<L.cap->∃(arr:Array Value)(elem:TypeId),fJ w L.dZ arr elem/\
  arr.size=L.base+L.cap*L.sz/\(∀v∈arr,cF v=true)/\
  ∀(i:Nat)(d:D),aj[i]?=some d->∃v,aQ w F d v/\∀(j:Nat)(c:Value),v.cells[j]?=some c->arr[L.base+i*L.sz+j]?=some c)
 | .vv aj y=>mB φ w F L aj y
def akb(φ:bP)(w:World)(F:Nat->Prop)(e:cq):Prop:=∃L,φ e.key=some L/\L.ar=e.ar/\eJ φ w F L e.cont
theorem eJ.lt{φ w F L c b}(h:eJ φ w F L c)(H:c.db L b):b<w.heap.size:=by
 cases c with
 |dead=>exact H.elim
 |box cs=>obtain⟨_,arr,elem,h,_⟩:=h;have:L.dZ=b:=H;subst this;exact h.lt
 |vec sz aj=>obtain⟨M,rfl⟩:=H;obtain⟨_,_,_,h⟩:=h;obtain⟨arr,elem,h,_⟩:=h M;exact h.lt
 |vv aj y=>
  obtain⟨⟨_,_,Au⟩,_,A5,h⟩:=h;rcases H with ⟨M,rfl⟩|H
  ·obtain⟨arr,elem,h,_⟩:=h M;exact h.lt
  ·obtain⟨i,hi⟩:=aoU H;obtain⟨arr,elem,_,_,_,AM,_⟩:=h (A5 b H).1;have Av:=(D1.1 hi).1;obtain⟨row,AH,_,_,_,_,_,_,g,_⟩:=AM i (aj[i]'(by omega)) (some b) (by simp[show i<aj.length by omega]) hi
   exact g.lt
theorem eJ.mono{φ φ':bP}{w w':World}{F F':Nat->Prop}{L c}(h:eJ φ w F L c)(AU:φ.le φ')
 (T:∀b,b<w.heap.size->¬F b->w'.heap[b]?=w.heap[b]?) (U:w.heap.size<=w'.heap.size) (AA:∀b,b<w.heap.size->F' b->F b)
 (A3:∀b,c.db L b->w'.heap[b]?=w.heap[b]?):eJ φ' w' F' L c:=by
 cases c with
 |dead=>trivial
 |box cs=>
  obtain⟨A',arr,elem,V,Z,A5,A9⟩:=h;exact⟨A',arr,elem,V.same (A3 _ rfl),Z,A5,λi c v M AB=>(A9 i c v M AB).mono AU T U AA⟩
 |vec sz aj=>
  obtain⟨Aj,A',Ak,h⟩:=h;refine⟨Aj,A',Ak,λM=>?_⟩;obtain⟨arr,elem,V,Z,A5,A9⟩:=h M;exact⟨arr,elem,V.same (A3 _ ⟨M,rfl⟩),Z,A5,λi d A2=>let ⟨v,AB,AI⟩:=A9 i d A2;⟨v,AB.mono T U AA,AI⟩⟩
 |vv aj y=>exact mB.aqb h (λ_ _ _ _ u hu=>hu.mono T U AA) (λx _ v I=>I.mono AU T U AA) A3
structure bz(φ:bP)(G:Fr)(m:Mem)(w:World):Prop where
 nodup:(m.map (·.key)).Nodup
 sA:∀k L,φ k=some L->k∈m.map (·.key)
 fB:∀e∈m,akb φ w (Fo G φ m) e
 apart:∀e∈m,∀e'∈m,∀L L',φ e.key=some L->φ e'.key=some L'->(∃b,e.cont.db L b/\e'.cont.db L' b)->e.key=e'.key
 mC:∀b,jQ φ m b->¬G b
 bound:∀b,G b->b<w.heap.size
theorem bz.Hj{φ G m w}(h:bz φ G m w){b}(E:jQ φ m b):b<w.heap.size:=by
 obtain⟨e,he,L,A7,H⟩:=E;obtain⟨L',AW,_,M⟩:=h.fB e he;rw[A7]at AW;cases AW;exact M.lt H
structure bk(φ:bP)(m:Mem)(w:World)(φ':bP)(m':Mem)(w':World):Prop where
 le:φ.le φ'
 Ch:∀b,b<w.heap.size->¬jQ φ m b->w'.heap[b]?=w.heap[b]?
 own:∀b,b<w.heap.size->jQ φ' m' b->jQ φ m b
 size:w.heap.size<=w'.heap.size
 os:w'.os=w.os
 tape:w'.tape=w.tape
 output:w'.output=w.output
theorem bk.refl(φ m w):bk φ m w φ m w:=⟨bP.le_refl _,λ_ _ _=>rfl,λ_ _ h=>h,aad _,rfl,rfl,rfl⟩
theorem bk.trans{φ m w AX AY AZ A_ Aa Ab}(h:bk φ m w AX AY AZ)(k:bk AX AY AZ A_ Aa Ab):bk φ m w A_ Aa Ab where
 le:=bP.le_trans h.le k.le
 Ch:=λb E J=>by
  rw[k.Ch b (akA E h.size) (λV=>J (h.own b E V)),h.Ch b E J]
 own:=λb E J=>h.own b E (k.own b (akA E h.size) J)
 size:=akm h.size k.size
 os:=k.os.trans h.os
 tape:=k.tape.trans h.tape
 output:=k.output.trans h.output
theorem bk.av{φ m w φ' m' w' G}(h:bk φ m w φ' m' w'){x v}(I:aH φ w (Fo G φ m) x v):aH φ' w' (Fo G φ' m') x v:=
 I.mono h.le (λb E J=>h.Ch b E (λH=>J (.inr H))) h.size (λb E=>Or.imp id (h.own b E))
theorem bz.dq{φ G m w w'}(h:bz φ G m w){e e':cq}(he:e∈m){L L':Loc}(A7:φ e.key=some L)(A4:e'.key=e.key)
 (Al:L.ar<=L'.ar) (An:L'.ar=L.ar->L'={L with da:=L'.da})
 (AB:L'.ar=e'.ar)
 (hold:∀b,b<w.heap.size->¬e.cont.db L b->w'.heap[b]?=w.heap[b]?) (U:w.heap.size<=w'.heap.size)
 (AO:∀b,e'.cont.db L' b->e.cont.db L b\/w.heap.size<=b)
 (AP:w'.os=w.os) (Ao:w'.tape=w.tape) (Ap:w'.output=w.output)
 (M:∀φ':bP,φ'=(λk=>if k=e.key then some L' else φ k)->φ.le φ'->eJ φ' w' (Fo G φ' (Mem.set m e')) L' e'.cont):
 ∃φ',bz φ' G (Mem.set m e') w'/\bk φ m w φ' (Mem.set m e') w'/\φ' e.key=some L'/\∀k,k≠e.key->φ' k=φ k:=by
 have hle:φ.le (λk=>if k=e.key then some L' else φ k):=by
  intro k AQ A';by_cases T:k=e.key
  ·subst T;rw[A7]at A';cases A';exact⟨L',by simp,Al,An⟩
  ·exact⟨AQ,by simp[T,A'],aad _,λ_=>rfl⟩
 have Aw:e'.key∈m.map (·.key):=by rw[A4];exact ab0 he
 have AR:∀x∈m,x.key≠e.key->∀A0,φ x.key=some A0->∀b,x.cont.db A0 b->e.cont.db L b->False:=
  λx I Y A0 W b A1 A6=>Y (h.apart x I e he A0 L W A7 ⟨b,A1,A6⟩)
 have AS:∀b,b<w.heap.size->jQ (λk=>if k=e.key then some L' else φ k) (Mem.set m e') b->jQ φ m b:=by
  rintro b E ⟨x,I,A0,W,A1⟩;rcases (Mem.mem_set h.nodup).1 I with ⟨rfl,_⟩|⟨A8,Y⟩
  ·simp[A4]at W;subst W;rcases AO b A1 with A6|Ac
   ·exact⟨e,he,L,A7,A6⟩
   ·omega
  ·rw[A4]at Y;simp[Y]at W;exact⟨x,A8,A0,W,A1⟩
 have Ad:∀b,b<w.heap.size->¬jQ φ m b->w'.heap[b]?=w.heap[b]?:=λb E J=>
  hold b E λH=>J ⟨e,he,L,A7,H⟩
 refine⟨_,⟨by rw[Mem.iE];exact h.nodup,?_,?_,?_,?_,?_⟩,⟨hle,Ad,AS,U,AP,Ao,Ap⟩,by simp,λk T=>by simp[T]⟩
 ·intro k AQ A';rw[Mem.iE];by_cases T:k=e.key
  ·subst T;exact ab0 he
  ·simp[T]at A';exact h.sA k AQ A'
 ·intro x I;rcases (Mem.mem_set h.nodup).1 I with ⟨rfl,_⟩|⟨A8,Y⟩
  ·exact⟨L',by simp[A4],AB,M _ rfl hle⟩
  ·rw[A4]at Y;obtain⟨A0,W,Aq,AJ⟩:=h.fB x A8;refine⟨A0,by simp[Y,W],Aq,AJ.mono hle (λb E J=>Ad b E (λH=>J (.inr H))) U (λb E=>Or.imp id (AS b E)) (λb A1=>?_)⟩;exact hold _ (AJ.lt A1) (λA6=>AR x A8 Y A0 W b A1 A6)
 ·rintro x I y O A0 Ae W AC ⟨b,A1,AK⟩;rcases (Mem.mem_set h.nodup).1 I with ⟨rfl,_⟩|⟨A8,AE⟩<;>rcases (Mem.mem_set h.nodup).1 O with ⟨rfl,_⟩|⟨AT,AF⟩
  ·rfl
  ·rw[A4]at AF;simp[A4]at W;subst W;simp[AF]at AC;obtain⟨Ax,Af,_,Ar⟩:=h.fB y AT;rw[AC]at Af;cases Af;rcases AO b A1 with A6|Ac
   ·exact (AR y AT AF Ae AC b AK A6).elim
   ·have:=Ar.lt AK;omega
  ·rw[A4]at AE;simp[A4]at AC;subst AC;simp[AE]at W;obtain⟨Ay,Ag,_,AJ⟩:=h.fB x A8;rw[W]at Ag;cases Ag;rcases AO b AK with A6|Ac
   ·exact (AR x A8 AE A0 W b A1 A6).elim
   ·have:=AJ.lt A1;omega
  ·rw[A4]at AE AF;simp[AE]at W;simp[AF]at AC;exact h.apart x A8 y AT A0 Ae W AC ⟨b,A1,AK⟩
 ·intro b E AD;exact h.mC b (AS b (h.bound b AD) E) AD
 ·intro b AD;exact akA (h.bound b AD) U
theorem bz.grow{φ G m w w'}(h:bz φ G m w)(hold:∀b,b<w.heap.size->w'.heap[b]?=w.heap[b]?)(U:w.heap.size<=w'.heap.size):bz φ G m w' where
 nodup:=h.nodup
 sA:=h.sA
 fB:=λe he=>by
  obtain⟨L,A7,AB,M⟩:=h.fB e he;exact⟨L,A7,AB,M.mono (bP.le_refl _) (λb E _=>hold b E) U (λ_ _ h=>h) (λb H=>hold _ (M.lt H))⟩
 apart:=h.apart
 mC:=h.mC
 bound:=λb AD=>akA (h.bound b AD) U
theorem bk.grow{φ m w w'}(hold:∀b,b<w.heap.size->w'.heap[b]?=w.heap[b]?)(U:w.heap.size<=w'.heap.size)(AP:w'.os=w.os)(AG:w'.tape=w.tape)(H:w'.output=w.output):bk φ m w φ m w':=
 ⟨bP.le_refl _,λb E _=>hold b E,λ_ _ h=>h,U,AP,AG,H⟩
abbrev Env:=List (Nat×Bool×AV)
def Env.lk:Env->Nat->Option (Bool×AV)
 |[],_=>none
 |(t,x)::r,u=>if t=u then some x else Env.lk r u
structure St where
 n:Nat
 gl:List (Nat×D)
 env:Env
 mem:Mem
def fF(w:World)(F:Nat->Prop)(gl:List (Nat×D)):Prop:=
 ∀x∈gl,(x.1<w.heap.size/\∀cs,x.2=.agg cs->∃cur e As,w.heap[x.1]?=some (.cells cur e As)/\cur.size=cs.length)/\¬F x.1/\∃AL,aQ w F x.2 AL/\∀(i:Nat)(c:Value),AL.cells[i]?=some c->w.cell? ⟨x.1,i,none⟩=some c
theorem fF.mono{w w':World}{F F':Nat->Prop}{gl}(h:fF w F gl)(T:∀b,b<w.heap.size->¬F b->w'.heap[b]?=w.heap[b]?)(U:w.heap.size<=w'.heap.size)
 (AA:∀b,b<w.heap.size->F' b->F b):fF w' F' gl:=λx I=>by
 obtain⟨⟨V,A'⟩,Z,AL,A5,A9⟩:=h x I;exact⟨⟨by omega,by rw[T _ V Z];exact A'⟩,λAt=>Z (AA _ V At),AL,A5.mono T U AA,λi c M=>by rw[mb (T _ V Z)];exact A9 i c M⟩
theorem bk.mD{φ m w φ' m' w' G gl}(h:bk φ m w φ' m' w')(I:fF w (Fo G φ m) gl):fF w' (Fo G φ' m') gl:=
 I.mono (λb E J=>h.Ch b E (λH=>J (.inr H))) h.size (λb E=>Or.imp id (h.own b E))
structure Rel(φ:bP)(G:Fr)(S:St)(a:Act)(w:World):Prop where
 size:a.tmps.size=S.n
 defers:a.defers=G.dv
 env:∀t x,Env.lk S.env t=some (true,x)->aH φ w (Fo G φ S.mem) x (a.tmps.getD t undef)
 mem:bz φ G S.mem w
 mD:fF w (Fo G φ S.mem) S.gl
def St.put(S:St)(d:Option Nat)(g:Bool)(x:AV):St:=
 match d with
 |some d=>{S with env:=(d,g,x)::S.env}
 |none=>S
theorem Rel.put{φ G S a w}(h:Rel φ G S a w)(d:Option Nat)(A2:∀t,d=some t->t<S.n)(g:Bool)(x:AV)(v:Value)
 (I:g=true->aH φ w (Fo G φ S.mem) x v):Rel φ G (S.put d g x) (a.put d v) w:=by
 cases d with
 |none=>exact h
 |some d=>
  have A2:=A2 d rfl;refine⟨by simp[Act.put,St.put,h.size],by simp[Act.put,h.defers],?_,h.mem,h.mD⟩;intro t y O;simp only[St.put,Env.lk]at O;by_cases AG:d=t
  ·subst AG;simp only[acH,aa1,acr]at O;obtain⟨rfl,rfl⟩:=O;have:d<a.tmps.size:=by rw[h.size];exact A2
   have e:(a.put (some d) v).tmps.getD d undef=v:=by simp[Act.put,this]
   rw[e];exact I rfl
  ·simp only[AG,acw]at O;have e:(a.put (some d) v).tmps.getD t undef=a.tmps.getD t undef:=by simp[Act.put,AG]
   rw[e];exact h.env t y O
theorem Rel.Cj{φ G S a w φ' m' w'}(h:Rel φ G S a w)(hm:bz φ' G m' w')(T:bk φ S.mem w φ' m' w'):Rel φ' G {S with mem:=m'} a w':=
 ⟨h.size,h.defers,λt x I=>T.av (h.env t x I),hm,T.mD h.mD⟩
theorem qW{v:Value}(h:cF v=true):v.oneCell'=true:=by cases v<;>simp_all [cF,Value.oneCell']
inductive TK where
 |int (k:IntKind)
 |bool
 |str
 |slice (e:TypeId)
 |arr (n:Nat) (e:TypeId)
 |struct
 |iface
 |ptr (e:TypeId)
 |func
 |other
 deriving DecidableEq
def tk(P:Program)(t:TypeId):TK:=
 match P.underlying t with
 |some (.int k)=>.int k
 |some .bool=>.bool
 |some .string=>.str
 |some (.slice e)=>.slice e
 |some (.array n e)=>.arr n e
 |some (.struct _)=>.struct
 |some (.interface _)=>.iface
 |some (.pointer e)=>.ptr e
 |some (.func _ _ _)=>.func
 |_=>.other
def gr(P:Program)(t:TypeId):Option Nat:=(P.info? t).map (·.size)
def AF(P:Program)(s:TypeId)(f:Nat):Option Nat:=
 match P.underlying s with
 |some (.struct Ah)=>match Ah[f]? with
  |some fl=>match P.info? fl.type with
   |some i=>if i.size=0 then none else some fl.offset
   |none=>none
  |none=>none
 |_=>none
def TK.agg:TK->Bool
 | .arr _ _=>true
 | .struct=>true
 |_=>false
theorem ub{P:Program}{t:TypeId}{w:World}(h:tk P t≠.other):(isAgg t).run P w=.ok (tk P t).agg w:=by
 unfold isAgg;cases hu:P.underlying t with
 |none=>simp[tk,hu]at h
 |some d=>
  rw[Sem.run_bind,run_underlying hu];cases d<;>simp_all [tk,TK.agg]
theorem run_sizeOf{P:Program}{t:TypeId}{n:Nat}{w:World}(h:gr P t=some n):(sizeOf t).run P w=.ok n w:=by
 unfold gr at h;cases hi:P.info? t with
 |none=>simp[hi]at h
 |some i=>simp[hi]at h;simp[sizeOf,typeInfo,hi,h]
theorem gu(b o j:Nat):(⟨b,o,none⟩:Addr).add j=⟨b,o+j,none⟩:=by unfold Addr.add;split<;>simp_all
theorem xV{P:Program}{t:TypeId}{w:World}{a:Addr}{v:Value}(AH:(tk P t).agg=false)(AI:tk P t≠.other)(I:w.cell? a=some v):
 (Instr.loadAt t (.pointer (some a))).run P w=.ok v w:=by
 simp[Instr.loadAt,Instr.sureAddr,loadVar,Sem.run_bind,ub AI,AH,load,Sem.run,I]
theorem xW{P:Program}{t:TypeId}{w:World}{b o:Nat}{vs:List Value}(AH:(tk P t).agg=true)(AW:gr P t=some vs.length)
 (I:∀j v,vs[j]?=some v->w.cell? ⟨b,o+j,none⟩=some v):
 (Instr.loadAt t (.pointer (some ⟨b,o,none⟩))).run P w=.ok (.agg vs.toArray) w:=by
 have AI:tk P t≠.other:=by intro h;rw[h]at AH;cases AH
 have U:=run_loadCells_list (P:=P) w ⟨b,o,none⟩ vs (λj v h=>by rw[gu];exact I j v h);simp[Instr.loadAt,Instr.sureAddr,loadVar,Sem.run_bind,ub AI,AH,run_sizeOf AW,U]
theorem lC{P:Program}(g o:Nat)(t:TypeId)(A4:Nat×Nat):∀(vs:List Value)(i:Nat)(cur:Array Value)(w:World),w.heap[g]?=some (.cells cur t A4)->(A4=(0,0)\/cur.size<=A4.1)->o+i+vs.length<=cur.size->(∀v∈vs,v.oneCell'=true)->
 (storeCells ⟨g,o,none⟩ vs i).run P w=.ok () (w.setRow g (cur.toList.take (o+i)++vs++cur.toList.drop (o+i+vs.length)).toArray)
 |[],i,cur,w,V,_,_,_=>by
  simp only[storeCells,afV,aaw,ah0,akQ,aoV];rw[setRow_self w g cur t A4 V];rfl
 |v::rest,i,cur,w,V,AQ,U,H=>by
  have hi:o+i<cur.size:=by simp at U;omega
  have Ai:(⟨g,o,none⟩:Addr).add i=⟨g,o+i,none⟩:=by unfold Addr.add;split<;>simp_all
  have Aj:w.cell? ⟨g,o+i,none⟩=some cur[o+i]:=by simp[World.cell?,V,hi]
  have Ak:w.frozen? ⟨g,o+i,none⟩=false:=by
   obtain⟨lo,AD⟩:=A4;simp only[World.frozen?,V,Bool.and_eq_false_iff,afP];rcases AQ with h|h
   ·cases h;omega
   ·simp only at h;omega
  have Al:(store ((⟨g,o,none⟩:Addr).add i) v).run P w=.ok () (w.setRow g (cur.setIfInBounds (o+i) v)):=by
   rw[Ai,run_store P w _ v _ (H v (by simp)),Aj];simp[Ak,setCell_eq_setRow w g (o+i) cur t A4 v V]
  have ih:=lC (P:=P) g o t A4 rest (i+1) (cur.setIfInBounds (o+i) v) (w.setRow g (cur.setIfInBounds (o+i) v)) (setRow_heap w g cur _ t _ V) (by simpa using AQ) (by simp at U⊢;omega) (λx O=>H x (by simp[O]));simp only[storeCells,Sem.run_bind,Al,Result.andThen_ok,ih,setRow_setRow];congr 3;have e:=list_seg_step cur.toList (o+i) v rest (by simp at U⊢;omega);simpa [Array.toList_setIfInBounds,abY]using e
theorem Qx{P:Program}{t:TypeId}{w:World}{b o:Nat}{arr:Array Value}{elem:TypeId}{v:Value}(AW:gr P t=some v.cells.size)
 (V:fJ w b arr elem) (U:o+v.cells.size<=arr.size) (H:∀x∈v.cells,cF x=true):
 (Instr.storeAt t (.pointer (some ⟨b,o,none⟩)) v).run P w=.ok () (w.setRow b (arr.toList.take o++v.cells.toList++arr.toList.drop (o+v.cells.size)).toArray):=by
 obtain⟨A4,V,AQ⟩:=V;have h:=lC (P:=P) b o elem A4 v.cells.toList 0 arr w V AQ (by simpa using U) (λx O=>qW (H x (by simpa using O)));simp only[ah0,ab9]at h;simp[Instr.storeAt,Instr.sureAddr,storeVar,Sem.run_bind,run_sizeOf AW,h]
def D.cells:D->List D
 | .agg cs=>cs
 |x=>[x]
def D.at(xs:List D)(i:Nat):D:=xs[i]?.getD (.bool false)
def D.cell(x:D)(j:Nat):D:=x.cells[j]?.getD (.bool false)
def toD1:AV->Option D
 | .d x=>some x
 | .lit (.slice none 0 0)=>some (.list [])
 | .nn=>some (.list [])
 |_=>none
def toDs:List AV->Option (List D)
 |[]=>some []
 |x::r=>match x,toDs r with
  | .d y,some AJ=>some (y::AJ)
  |_,_=>none
def toDsN:List AV->Option (List D)
 |[]=>some []
 |x::r=>match toD1 x,toDsN r with
  |some y,some AJ=>some (y::AJ)
  |_,_=>none
def Eh(cs:List AV):AV:=match toDs cs with|some W=>.d (.agg W)|none=>.agg cs
def AV.norm:AV->AV
 | .agg cs=>match toDsN cs with|some W=>.d (.agg W)|none=>.agg cs
 | .lit (.slice none 0 0)=>.d (.list [])
 | .nn=>.d (.list [])
 |x=>x
def AV.cells:AV->List AV
 | .agg cs=>cs
 | .d (.agg W)=>W.map .d
 |x=>[x]
theorem D.hU(x:D):x.cells.length=x.size:=by cases x<;>rfl
theorem Vz{w:World}{F:Nat->Prop}{x:D}{v:Value}(A0:x.flat=true)(h:aQ w F x v)(O:x.cells=[x])(M:v.cells=#[v]):
 v.cells.toList.length=x.cells.length/\(∀u∈v.cells,cF u=true)/\∀(i:Nat)(c:D)(u:Value),x.cells[i]?=some c->v.cells[i]?=some u->aQ w F c u/\c.flat=true:=by
 rw[O,M];refine⟨rfl,λu hu=>by simp at hu;subst hu;exact h.one A0,λi c u H E=>?_⟩;cases i with
 |zero=>simp at H E;subst H;subst E;exact⟨h,A0⟩
 |succ i=>simp at H
theorem aQ.cells{w F x v}(h:aQ w F x v):v.cells.toList.length=x.cells.length/\(∀u∈v.cells,cF u=true)/\∀(i:Nat)(c:D)(u:Value),x.cells[i]?=some c->v.cells[i]?=some u->aQ w F c u/\c.flat=true:=by
 cases AE:x with
 |agg cs=>
  subst AE;cases h with
  |agg cs a U A0 I=>
   refine⟨by simp[D.cells,Value.cells,U],?_,λi c u H E=>⟨I i c u H E,A0 c (aay H)⟩⟩;intro u hu;have hu:u∈a:=hu;obtain⟨i,hi,rfl⟩:=Array.mem_iff_getElem.1 hu;have AD:i<cs.length:=by rw[U];exact hi
   exact (I i cs[i] a[i] (by simp[AD]) (by simp[hi])).one (A0 _ (ahV AD))
 |_=>subst AE;exact Vz rfl h rfl (eI (h.one rfl))
theorem aQ.rj{w F}{cs:List D}{vs:List Value}(U:cs.length=vs.length)(H:∀v∈vs,cF v=true)
 (I:∀(i:Nat) c v,cs[i]?=some c->vs[i]?=some v->aQ w F c v):aQ w F (.agg cs) (.agg vs.toArray):=by
 refine .agg cs vs.toArray (by simpa using U) ?_ (λi d v h AK=>I i d v h (by simpa using AK));intro d AE;obtain⟨i,hi,rfl⟩:=an4.1 AE;have AD:i<vs.length:=by omega
 have A2:=I i cs[i] vs[i] (by simp[hi]) (by simp[AD]);have E:=H vs[i] (ahV AD);revert A2 E
 generalize vs[i]=v;generalize cs[i]=c;intro A2 E;cases A2<;>simp_all [D.flat,cF]
theorem toDs_rel{φ w F}:∀{cs:List AV}{W:List D}{vs:List Value},toDs cs=some W->(∀(i:Nat) c v,cs[i]?=some c->vs[i]?=some v->aH φ w F c v)->
 cs.length=W.length/\∀(i:Nat) d v,W[i]?=some d->vs[i]?=some v->aQ w F d v
 |[],W,vs,h,_=>by simp[toDs]at h;subst h;simp
 |x::r,W,vs,h,I=>by
  simp only[toDs]at h;split at h<;>simp at h;rename_i y AJ A9;subst h;cases vs with
  |nil=>
   have ih:=toDs_rel (φ:=φ) (w:=w) (F:=F) (vs:=[]) A9 (λi c v _ E=>by simp at E);exact⟨by simp[ih.1],λi d v _ E=>by simp at E⟩
  |cons v0 vs=>
   have ih:=toDs_rel (vs:=vs) A9 (λi c v H E=>I (i+1) c v (by simpa using H) (by simpa using E));refine⟨by simp[ih.1],λi d v H E=>?_⟩;cases i with
   |zero=>
    simp at H E;subst H;subst E;have:=I 0 (.d y) v0 (by simp) (by simp);cases this with|d _ _ h=>exact h
   |succ i=>exact ih.2 i d v (by simpa using H) (by simpa using E)
theorem toD1_rel{φ w F x d v}(h:toD1 x=some d)(O:aH φ w F x v):aQ w F d v:=by
 unfold toD1 at h;split at h<;>simp at h
 ·subst h;cases O with|d _ _ h=>exact h
 ·subst h;cases O;exact .nil none 0 λ_=>rfl
 ·subst h;cases O;exact .nil _ _ (by simp)
theorem toDsN_rel{φ w F}:∀{cs:List AV}{W:List D}{vs:List Value},toDsN cs=some W->(∀(i:Nat) c v,cs[i]?=some c->vs[i]?=some v->aH φ w F c v)->
 cs.length=W.length/\∀(i:Nat) d v,W[i]?=some d->vs[i]?=some v->aQ w F d v
 |[],W,vs,h,_=>by simp[toDsN]at h;subst h;simp
 |x::r,W,vs,h,I=>by
  simp only[toDsN]at h;split at h<;>simp at h;rename_i y AJ O A9;subst h;cases vs with
  |nil=>
   have ih:=toDsN_rel (φ:=φ) (w:=w) (F:=F) (vs:=[]) A9 (λi c v _ E=>by simp at E);exact⟨by simp[ih.1],λi d v _ E=>by simp at E⟩
  |cons v0 vs=>
   have ih:=toDsN_rel (vs:=vs) A9 (λi c v H E=>I (i+1) c v (by simpa using H) (by simpa using E));refine⟨by simp[ih.1],λi d v H E=>?_⟩;cases i with
   |zero=>
    simp at H E;subst H;subst E;exact toD1_rel O (I 0 x v0 (by simp) (by simp))
   |succ i=>exact ih.2 i d v (by simpa using H) (by simpa using E)
theorem Ck{φ w F}{cs:List AV}{vs:List Value}(U:cs.length=vs.length)(H:∀v∈vs,cF v=true)
 (I:∀(i:Nat) c v,cs[i]?=some c->vs[i]?=some v->aH φ w F c v):aH φ w F (Eh cs) (.agg vs.toArray):=by
 unfold Eh;split
 ·rename_i W AX;have:=toDs_rel AX I;exact .d _ _ (.rj (by omega) H this.2)
 ·exact .agg cs vs.toArray (by simpa using U) (λv M=>H v (by simpa using M)) (λi c v h AK=>I i c v h (by simpa using AK))
theorem aH.norm{φ w F x v}(h:aH φ w F x v):aH φ w F x.norm v:=by
 unfold AV.norm;split
 ·rename_i cs;split
  ·rename_i W AX;cases h with
   |agg _ a U H I=>
    have:=toDsN_rel (vs:=a.toList) AX (λi c v h AK=>I i c v h (by simpa using AK));have E:=aQ.rj (w:=w) (F:=F) (cs:=W) (vs:=a.toList) (by simp;omega) (λv M=>H v (by simpa using M)) this.2;rw[aoV]at E;exact .d _ _ E
  ·exact h
 ·cases h;exact .d _ _ (.nil none 0 λ_=>rfl)
 ·cases h;exact .d _ _ (.nil _ _ (by simp))
 ·exact h
theorem aH.cells{φ w F x v}(h:aH φ w F x v)(H:∀u∈v.cells,cF u=true)(U:v.cells.size=x.cells.length):
 ∀(i:Nat) c u,x.cells[i]?=some c->v.cells[i]?=some u->aH φ w F c u:=by
 cases h with
 |agg cs a U H I=>exact λi c u J hu=>I i c u J hu
 |d x v h=>
  intro i c u J hu;have:=h.cells;cases x with
  |agg cs=>
   simp only[AV.cells,ab6,aax]at J;obtain⟨y,A9,rfl⟩:=J;exact .d _ _ (this.2.2 i y u A9 hu).1
  |_=>
   simp only[AV.cells]at J;cases i with
   |zero=>simp at J;subst J;exact .d _ _ (this.2.2 0 _ u rfl hu).1
   |succ i=>simp at J
 |bu v=>
  intro i c u J hu;cases i with
  |zero=>simp[AV.cells]at J;subst J;exact .bu _
  |succ i=>simp[AV.cells]at J
 |ptr k ar off v L Y M h E=>
  intro i c u J hu;rw[eI E]at hu;cases i with
  |zero=>simp[AV.cells]at J hu;subst J;subst hu;exact .ptr k ar off v L Y M h E
  |succ i=>simp[AV.cells]at J
 |vec k ar off len v L Y M h E=>
  intro i c u J hu;rw[eI E]at hu;cases i with
  |zero=>simp[AV.cells]at J hu;subst J;subst hu;exact .vec k ar off len v L Y M h E
  |succ i=>simp[AV.cells]at J
 |cS k ar p j v L Y M h E=>
  intro i c u J hu;rw[eI E]at hu;cases i with
  |zero=>simp[AV.cells]at J hu;subst J;subst hu;exact .cS k ar p j v L Y M h E
  |succ i=>simp[AV.cells]at J
 |eu x j b off A1 AR AS O I=>
  intro i c u J hu;cases i with
  |zero=>simp[AV.cells,Value.cells]at J hu;subst J;subst hu;exact .eu x j b off A1 AR AS O I
  |succ i=>simp[AV.cells]at J
 |fn f cap a A0 AY I=>
  intro i c u J hu;cases i with
  |zero=>simp[AV.cells,Value.cells]at J hu;subst J;subst hu;exact .fn f cap a A0 AY I
  |succ i=>simp[AV.cells]at J
 |vj f cap a AY I=>
  intro i c u J hu;cases i with
  |zero=>simp[AV.cells,Value.cells]at J hu;subst J;subst hu;exact .vj f cap a AY I
  |succ i=>simp[AV.cells]at J
 |aY vs a U I=>
  have:=H (.tuple a) (by simp[Value.cells]);simp[cF]at this
 |iA t x v h=>
  intro i c u J hu;cases i with
  |zero=>simp[AV.cells,Value.cells]at J hu;subst J;subst hu;exact .iA t x v h
  |succ i=>simp[AV.cells]at J
 |lit v E=>
  intro i c u J hu;rw[eI E]at hu;cases i with
  |zero=>simp[AV.cells]at J hu;subst J;subst hu;exact .lit _ E
  |succ i=>simp[AV.cells]at J
 |nn a cap=>
  intro i c u J hu;cases i with
  |zero=>simp[AV.cells,Value.cells]at J hu;subst J;subst hu;exact .nn a cap
  |succ i=>simp[AV.cells]at J
 |err t v=>
  intro i c u J hu;cases i with
  |zero=>simp[AV.cells,Value.cells]at J hu;subst J;subst hu;exact .err t v
  |succ i=>simp[AV.cells]at J
def pH:Value->AV
 | .int k n=>.d (.int k n)
 | .bool b=>.d (.bool b)
 | .string s=>.d (.str s.data.toList)
 | .agg _=>.bu
 | .tuple _=>.bu
 |v=>.lit v
theorem Fi(φ w F v):aH φ w F (pH v) v:=by
 cases v<;>first|exact .d _ _ (.int _ _)|exact .d _ _ (.bool _)|exact .d _ _ (.str _ _ rfl)|exact .bu _|exact .lit _ rfl
def Kb:List (Nat×D)->Nat->Option D
 |[],_=>none
 |(g,d)::r,k=>if g=k then some d else Kb r k
theorem Ra:∀{l:List (Nat×D)}{g d},Kb l g=some d->(g,d)∈l
 |[],g,d,h=>by simp[Kb]at h
 |(Aq,Ar)::r,g,d,h=>by
  simp only[Kb]at h;split at h
  ·rename_i V;subst V;cases h;simp
  ·have:=Ra h;simp[this]
def St.au(S:St):Operand->Bool×AV
 | .tmp t=>(Env.lk S.env t).getD (true,.bu)
 | .const v=>(true,pH v)
 | .global g=>match Kb S.gl g with
  |some d=>(true,.eu d 0)
  |none=>(true,.lit (.pointer (some ⟨g,0,none⟩)))
 | .func f=>(decide (f<vi),.fn f [])
theorem Rel.au{φ G S a w}(h:Rel φ G S a w)(x:Operand)(O:(S.au x).1=true):aH φ w (Fo G φ S.mem) (S.au x).2 (a.eval x):=by
 cases x with
 |tmp t=>
  simp only[St.au]at O⊢;cases U:Env.lk S.env t with
  |none=>exact .bu _
  |some y=>
   obtain⟨g,x⟩:=y;rw[U]at O;simp only[af7]at O⊢;subst O;exact h.env t x U
 |const v=>exact Fi ..
 |global g=>
  simp only[St.au]at O⊢;split
  ·rename_i d AE;obtain⟨⟨H,_⟩,E,A1,A2,An⟩:=h.mD _ (Ra AE);have e:a.eval (.global g)=.pointer (some ⟨g,0+0,none⟩):=rfl;rw[e];exact .eu d 0 g 0 A1 H E A2 (λi c hi=>by simpa using An i c hi)
  ·exact .lit _ rfl
 |func f=>exact .fn f [] #[] (by simpa [St.au]using O) rfl (by simp)
inductive dO where
 |no
 |val (c:Bool) (x:AV)
 |dq (c:Bool) (x:AV) (e:cq)
def Hm(P:Program)(o:Oper)(a:Act)(w:World)(v:Value)(w':World):Prop:=
 (execOp a.eval o).run P w=.ok (.value v) w'\/((execOp a.eval o).run P w=.ok .skip w'/\v=undef)
def aM(P:Program)(S:St)(o:Oper):dO->Prop
 | .no=>True
 | .val c x=>c=true->∀φ G a w,Rel φ G S a w->∃v w',Hm P o a w v w'/\aH φ w' (Fo G φ S.mem) x v/\
  (∀b,b<w.heap.size->w'.heap[b]?=w.heap[b]?)/\w.heap.size<=w'.heap.size/\w'.os=w.os/\w'.tape=w.tape/\w'.output=w.output
 | .dq c x e=>c=true->∀φ G a w,Rel φ G S a w->∃v w' φ',Hm P o a w v w'/\aH φ' w' (Fo G φ' (Mem.set S.mem e)) x v/\
  bz φ' G (Mem.set S.mem e) w'/\bk φ S.mem w φ' (Mem.set S.mem e) w'/\∀k,k≠e.key->φ' k=φ k
theorem aM.pure{P S o x}{c:Prop}[Decidable c](h:c->∀φ G a w,Rel φ G S a w->∃v,(execOp a.eval o).run P w=.ok (.value v) w/\aH φ w (Fo G φ S.mem) x v):aM P S o (.val (decide c) x):=by
 intro I φ G a w T;obtain⟨v,H,E⟩:=h (acV I) φ G a w T;exact⟨v,w,.inl H,E,λ_ _=>rfl,aad _,rfl,rfl,rfl⟩
theorem aM.uW{P S o x e}{c:Prop}[Decidable c](h:c->∀φ G a w,Rel φ G S a w->∃v w' φ',Hm P o a w v w'/\aH φ' w' (Fo G φ' (Mem.set S.mem e)) x v/\
 bz φ' G (Mem.set S.mem e) w'/\bk φ S.mem w φ' (Mem.set S.mem e) w'/\∀k,k≠e.key->φ' k=φ k):aM P S o (.dq (decide c) x e):=λI=>h (acV I)
theorem aM.atG{P S o x}{c:Prop}[Decidable c](h:c->∀φ G a w,Rel φ G S a w->∃v w',Hm P o a w v w'/\aH φ w' (Fo G φ S.mem) x v/\
 (∀b,b<w.heap.size->w'.heap[b]?=w.heap[b]?)/\w.heap.size<=w'.heap.size/\w'.os=w.os/\w'.tape=w.tape/\w'.output=w.output):aM P S o (.val (decide c) x):=λI=>h (acV I)
theorem aM.tG{P S o x}{c:Bool}(h:c=true->∀φ G a w,Rel φ G S a w->∃v,(execOp a.eval o).run P w=.ok (.value v) w/\aH φ w (Fo G φ S.mem) x v):aM P S o (.val c x):=by
 intro I φ G a w T;obtain⟨v,H,E⟩:=h I φ G a w T;exact⟨v,w,.inl H,E,λ_ _=>rfl,aad _,rfl,rfl,rfl⟩
def mE(P:Program)(S:St)(o:Oper):dO->Prop
 | .no=>True
 | .val c x=>c=true->∀φ G a w,Rel φ G S a w->∃v,(execOp a.eval o).run P w=.ok (.value v) w/\aH φ w (Fo G φ S.mem) x v
 | .dq _ _ _=>False
theorem mE.of{P S o x}{c:Prop}[Decidable c](h:c->∀φ G a w,Rel φ G S a w->∃v,(execOp a.eval o).run P w=.ok (.value v) w/\aH φ w (Fo G φ S.mem) x v):mE P S o (.val (decide c) x):=λI=>h (acV I)
theorem mE.res{P S o r}(h:mE P S o r):aM P S o r:=by
 cases r with
 |no=>trivial
 |val c x=>
  intro I φ G a w T;obtain⟨v,H,E⟩:=h I φ G a w T;exact⟨v,w,.inl H,E,λ_ _=>rfl,aad _,rfl,rfl,rfl⟩
 |dq c x e=>exact h.elim
def oo(P:Program)(m:Mem)(t:TypeId)(p:AV):dO:=
 match p with
 | .ptr k ar off=>match Mem.get m k with
  |some ⟨_,v,.box cs⟩=>match (tk P t).agg with
   |true=>match gr P t with
    |some n=>.val (v=ar/\off+n<=cs.length) (Eh ((cs.drop off).take n))
    |none=>.no
   |false=>.val (v=ar/\tk P t≠.other/\off<cs.length) (cs[off]?.getD .bu)
  |_=>.no
 | .cS k ar i j=>match Mem.get m k with
  |some ⟨_,v,.vec sz aj⟩=>match (tk P t).agg with
   |true=>.val (v=ar/\i<aj.length/\gr P t=some sz/\j=0/\(D.at aj i).flat=false) (.d (D.at aj i))
   |false=>.val (v=ar/\tk P t≠.other/\i<aj.length/\j<sz) (.d (D.cell (D.at aj i) j))
  |some ⟨_,v,.vv aj (some y)⟩=>match (tk P t).agg with
   |true=>.no
   |false=>.val (v=ar/\tk P t≠.other/\i=aj.length/\j=0) y
  |_=>.no
 | .eu x j=>match (tk P t).agg with
  |true=>match j with
   |0=>.val (gr P t=some x.size/\x.flat=false) (.d x)
   |j=>match gr P t with
    |some n=>.val (j+n<=x.size) (.d (.agg ((x.cells.drop j).take n)))
    |none=>.no
  |false=>.val (tk P t≠.other/\j<x.size) (.d (x.cell j))
 |_=>.no
theorem bz.get{φ G m w}(h:bz φ G m w){k e}(V:Mem.get m k=some e):e∈m/\e.key=k/\∃L,φ k=some L/\L.ar=e.ar/\eJ φ w (Fo G φ m) L e.cont:=by
 obtain⟨hm,AA⟩:=Mem.get_mem V;obtain⟨L,H,E,A2⟩:=h.fB e hm;rw[AA]at H;exact⟨hm,AA,L,H,E,A2⟩
theorem aH.uc{φ w F k ar off v L}(h:aH φ w F (.ptr k ar off) v)(Y:φ k=some L)(M:L.ar=ar):v=.pointer (some ⟨L.dZ,off,none⟩):=by
 cases h with|ptr _ _ _ _ L' AL _ h _=>rw[Y]at AL;cases AL;exact h M.symm
theorem aH.mF{φ w F k ar i j v L}(h:aH φ w F (.cS k ar i j) v)(Y:φ k=some L)(M:L.ar=ar):v=.pointer (some ⟨L.dZ,L.base+i*L.sz+j,none⟩):=by
 cases h with|cS _ _ _ _ _ L' AL _ h _=>rw[Y]at AL;cases AL;exact h M.symm
theorem Kc{w:World}{b:Nat}{arr:Array Value}{e:TypeId}{fr}(h:w.heap[b]?=some (.cells arr e fr))(o:Nat):w.cell? ⟨b,o,none⟩=arr[o]?:=by
 simp[World.cell?,h]
theorem iF{w:World}{b:Nat}{arr:Array Value}{e:TypeId}(h:fJ w b arr e)(o:Nat):w.cell? ⟨b,o,none⟩=arr[o]?:=by
 obtain⟨fr,h,_⟩:=h;exact Kc h o
theorem lA{xs:List D}{i:Nat}(h:i<xs.length):xs[i]?=some (D.at xs i):=by simp[D.at,h]
theorem y3{w F x v}(h:aQ w F x v)(A0:x.flat=false):∃arr,v=.agg arr:=by
 cases h<;>simp_all [D.flat]
theorem Rb(P:Program)(S:St)(o:Oper)(t:TypeId)(x:Operand)(AI:o.op=.load t x)(O:(S.au x).1=true):mE P S o (oo P S.mem t (S.au x).2):=by
 have A7:∀(a:Act)(w:World)(v:Value),(Instr.loadAt t (a.eval x)).run P w=.ok v w->(execOp a.eval o).run P w=.ok (.value v) w:=by
  intro a w v h;simp[execOp,AI,h]
 unfold oo;split
 ·rename_i k ar off A3;split
  ·rename_i key v cs V;split
   ·rename_i Z;split
    ·rename_i n AZ;refine mE.of ?_;rintro ⟨rfl,hle⟩ φ G a w T;have M:=T.au x O;rw[A3]at M;obtain⟨hm,AA,L,Y,A5,_,arr,elem,hh,AT,H,A6⟩:=T.mem.get V;have e:=M.uc Y A5;have AM:((arr.toList.drop off).take n).length=n:=by simp;omega
     refine⟨.agg ((arr.toList.drop off).take n).toArray,A7 a w _ ?_,?_⟩
     ·rw[e];refine xW Z (by rw[AM];exact AZ) (λj v A'=>?_);rw[iF hh];rw[abW]at A';split at A'
      ·simpa using A'
      ·cases A'
     ·refine Ck (by rw[AM];simp;omega) (λv M=>H v ?_) (λi c v I M=>?_)
      ·have:=afM M;simpa using acJ this
      ·rw[abW]at I M;split at I
       ·rename_i hi;simp only[hi,acH]at M;exact A6 (off+i) c v (by simpa using I) (by simpa using M)
       ·cases I
    ·trivial
   ·rename_i Z;refine mE.of ?_;rintro ⟨rfl,AB,AC⟩ φ G a w T;have M:=T.au x O;rw[A3]at M;obtain⟨hm,AA,L,Y,A5,_,arr,elem,hh,AT,H,A6⟩:=T.mem.get V;have e:=M.uc Y A5;have Ag:off<arr.size:=by omega
    refine⟨arr[off],A7 a w _ ?_,A6 off _ _ ?_ (by simp[Ag])⟩
    ·rw[e];exact xV Z AB (by rw[iF hh];simp[Ag])
    ·simp[AC]
  ·trivial
 ·rename_i k ar i j A3;split
  ·rename_i key v sz aj V;split
   ·rename_i Z;refine mE.of ?_;rintro ⟨rfl,AC,A_,rfl,A0⟩ φ G a w T;have M:=T.au x O;rw[A3]at M;obtain⟨hm,AA,L,Y,A5,Aa,Ab,Ac,AN⟩:=T.mem.get V;have e:=M.mF Y A5;obtain⟨arr,elem,hh,AT,H,A6⟩:=AN (by omega);obtain⟨u,hu,Ad⟩:=A6 i _ (lA AC);obtain⟨AG,rfl⟩:=y3 hu A0;refine⟨.agg AG,A7 a w _ ?_,.d _ _ hu⟩;rw[e];have AU:AG.toList.length=sz:=by
     have A2:=hu.size;rw[Ac _ (aay (lA AC)),Aa]at A2;simpa [Value.cells]using A2
    have:=xW (P:=P) (t:=t) (w:=w) (b:=L.dZ) (o:=L.base+i*L.sz+0) (vs:=AG.toList) Z (by rw[AU];exact A_) (λj v A'=>by
     rw[iF hh];exact Ad j v (by simpa [Value.cells]using A'))
    simpa using this
   ·rename_i Z;refine mE.of ?_;rintro ⟨rfl,AB,AC,A'⟩ φ G a w T;have M:=T.au x O;rw[A3]at M;obtain⟨hm,AA,L,Y,A5,Aa,Ab,Ac,AN⟩:=T.mem.get V;have e:=M.mF Y A5;obtain⟨arr,elem,hh,AT,H,A6⟩:=AN (by omega);obtain⟨u,hu,Ad⟩:=A6 i _ (lA AC);have AU:(D.at aj i).size=sz:=by rw[Ac _ (aay (lA AC)),Aa]
    have AO:j<u.cells.size:=by rw[hu.size,AU];exact A'
    have Ae:j<(D.at aj i).cells.length:=by rw[D.hU,AU];exact A'
    refine⟨u.cells[j],A7 a w _ ?_,.d _ _ (hu.cells.2.2 j _ _ (by simp[D.cell,Ae]) (by simp[AO])).1⟩;rw[e];exact xV Z AB (by rw[iF hh];exact Ad j _ (by simp[AO]))
  ·rename_i key v aj y V;split
   ·trivial
   ·rename_i Z;refine mE.of ?_;rintro ⟨rfl,AB,rfl,rfl⟩ φ G a w T;have M:=T.au x O;rw[A3]at M;obtain⟨hm,AA,L,Y,A5,⟨Ao,Ab,_⟩,_,_,AN⟩:=T.mem.get V;have e:=M.mF Y A5;simp only[Option.toList_some,af4]at Ab;obtain⟨arr,elem,hh,AT,H,_,A6⟩:=AN (by omega);obtain⟨u,hu,Ap⟩:=A6 y rfl;refine⟨u,A7 a w _ ?_,Ap⟩;rw[e];exact xV Z AB (by rw[iF hh,Ao,alb,ah0];exact hu)
  ·trivial
 ·rename_i d j A3;split
  ·rename_i Z;split
   ·refine mE.of ?_;rintro ⟨A_,A0⟩ φ G a w T;have M:=T.au x O;rw[A3]at M;generalize AP:a.eval x=av at M;cases M with
    |eu _ _ b off A1 AR AS A8 I=>
     obtain⟨AG,rfl⟩:=y3 A8 A0;refine⟨.agg AG,A7 a w _ ?_,.d _ _ A8⟩;rw[AP];exact xW (vs:=AG.toList) Z (by rw[A_];have:=A8.size;simp[Value.cells]at this;simp[this]) (λj v A'=>I j v (by simpa [Value.cells]using A'))
   ·split
    ·rename_i n AZ;refine mE.of ?_;intro hle φ G a w T;have M:=T.au x O;rw[A3]at M;generalize AP:a.eval x=av at M;cases M with
     |eu _ _ b off A1 AR AS A8 I=>
      have Af:=A8.cells;have U:A1.cells.toList.length=d.size:=by rw[Af.1,D.hU]
      have AM:((A1.cells.toList.drop j).take n).length=n:=by simp at U⊢;omega
      refine⟨.agg ((A1.cells.toList.drop j).take n).toArray,A7 a w _ ?_,.d _ _ (.rj ?_ ?_ ?_)⟩
      ·rw[AP];refine xW Z (by rw[AM];exact AZ) (λi v hi=>?_);rw[abW]at hi;split at hi
       ·rw[show off+j+i=off+(j+i) by omega];exact I (j+i) v (by simpa using hi)
       ·cases hi
      ·rw[AM];simp[D.hU];omega
      ·intro v M;exact Af.2.1 v (by simpa using acJ (afM M))
      ·intro i c v H E;rw[abW]at H E;split at H
       ·rename_i hi;simp only[hi,acH]at E;exact (Af.2.2 (j+i) c v (by simpa using H) (by simpa using E)).1
       ·cases H
    ·trivial
  ·rename_i Z;refine mE.of ?_;rintro ⟨AB,A'⟩ φ G a w T;have M:=T.au x O;rw[A3]at M;generalize AP:a.eval x=av at M;cases M with
   |eu _ _ b off A1 AR AS A8 I=>
    have AO:j<A1.cells.size:=by rw[A8.size];exact A'
    have Ae:j<d.cells.length:=by rw[D.hU];exact A'
    refine⟨A1.cells[j],A7 a w _ ?_,.d _ _ (A8.cells.2.2 j _ _ (by simp[D.cell,Ae]) (by simp[AO])).1⟩;rw[AP];exact xV Z AB (I j _ (by simp[AO]))
 ·trivial
def AV.nk:AV->Bool
 | .bu=>false
 | .aY _=>false
 |_=>true
theorem aH.nk{φ w F x v}(h:aH φ w F x v)(A4:x.nk=true):v.cells.size=x.cells.length/\∀u∈v.cells,cF u=true:=by
 have one:∀{v:Value}{x:AV},cF v=true->x.cells.length=1->v.cells.size=x.cells.length/\∀u∈v.cells,cF u=true:=by
  intro v x E A3;rw[eI E,A3];exact⟨rfl,λu hu=>by simp at hu;subst hu;exact E⟩
 cases h with
 |bu=>simp[AV.nk]at A4
 |aY=>simp[AV.nk]at A4
 |d x v h=>
  have Y:=h.cells;refine⟨?_,Y.2.1⟩;have:=Y.1;cases x<;>simp_all [AV.cells,D.cells]
 |agg cs a A3 E Y=>exact⟨by simp[Value.cells,AV.cells,A3],E⟩
 |ptr _ _ _ _ _ _ _ _ E=>exact one E rfl
 |vec _ _ _ _ _ _ _ _ _ E=>exact one E rfl
 |cS _ _ _ _ _ _ _ _ _ E=>exact one E rfl
 |eu=>exact one rfl rfl
 |fn=>exact one rfl rfl
 |vj=>exact one rfl rfl
 |iA=>exact one rfl rfl
 |lit _ E=>exact one E rfl
 |nn=>exact one rfl rfl
 |err=>exact one rfl rfl
def bC{α:Type}(cs:List α)(off:Nat)(I:List α):List α:=
 match I with
 |[y]=>cs.set off y
 |I=>cs.take off++I++cs.drop (off+I.length)
theorem dU{α:Type}(cs:List α)(off:Nat)(I:List α)(h:off+I.length<=cs.length):bC cs off I=cs.take off++I++cs.drop (off+I.length):=by
 unfold bC;split
 ·rename_i y;simp at h;rw[List.set_eq_take_append_cons_drop,aat (by omega)];simp
 ·rfl
theorem bR{α:Type}(cs:List α)(off:Nat)(I:List α)(h:off+I.length<=cs.length):(bC cs off I).length=cs.length:=by
 rw[dU cs off I h];simp;omega
theorem iG{α:Type}(cs:List α)(off:Nat)(I:List α)(h:off+I.length<=cs.length)(i:Nat):
 (bC cs off I)[i]?=if i<off then cs[i]? else if i<off+I.length then I[i-off]? else cs[i]?:=by
 rw[dU cs off I h];by_cases E:i<off
 ·rw[aat E,acD,aaF (by simp;omega),abW,aat E]
 ·rw[aab E,acD,abI (by simp;omega)];simp only[aic,akW (show off<=cs.length by omega)];by_cases Z:i<off+I.length
  ·rw[aat Z,aaF (by omega)]
  ·rw[aab Z,abI (by omega),acx];congr 1;omega
theorem wu{α β:Type}{R:α->β->Prop}{cs I:List α}{vs us:List β}{off:Nat}(A3:cs.length=vs.length)(BB:I.length=us.length)(h:off+I.length<=cs.length)
 (Y:∀(i:Nat) c v,cs[i]?=some c->vs[i]?=some v->R c v) (A9:∀(i:Nat) c v,I[i]?=some c->us[i]?=some v->R c v):
 ∀(i:Nat) c v,(bC cs off I)[i]?=some c->(bC vs off us)[i]?=some v->R c v:=by
 intro i c v;rw[iG cs off I h,iG vs off us (by omega),<-BB];split
 ·exact Y i c v
 ·split
  ·exact A9 _ c v
  ·exact Y i c v
theorem Gf{φ G m w}(h:bz φ G m w):∀b,Fo G φ m b->b<w.heap.size:=λb O=>O.elim (h.bound b) (λA6=>h.Hj A6)
theorem qJ(w:World)(g k:Nat)(cs:Array Value)(h:k≠g):(w.setRow g cs).heap[k]?=w.heap[k]?:=by
 simp only[World.setRow,akV];rw[aab (λe=>h e.symm)]
theorem bz.MG{φ G m w}(h:bz φ G m w){e:cq}(he:e∈m){L:Loc}(V:φ e.key=some L)(A':L.ar=e.ar){b0:Nat}(A6:e.cont.db L b0)(T:Array Value)
 (L':Loc) (W:e.ar<=L'.ar) (BC:L'.ar=L.ar->L'={L with da:=L'.da}) (H:aD) (AG:∀b,H.db L' b->e.cont.db L b)
 (Y:∀φ':bP,φ.le φ'->(∀x v,aH φ w (Fo G φ m) x v->aH φ' (w.setRow b0 T) (Fo G φ' (Mem.set m ⟨e.key,L'.ar,H⟩)) x v)->
  (∀x v,aQ w (Fo G φ m) x v->aQ (w.setRow b0 T) (Fo G φ' (Mem.set m ⟨e.key,L'.ar,H⟩)) x v)->
  eJ φ' (w.setRow b0 T) (Fo G φ' (Mem.set m ⟨e.key,L'.ar,H⟩)) L' H):
 ∃φ',bz φ' G (Mem.set m ⟨e.key,L'.ar,H⟩) (w.setRow b0 T)/\bk φ m w φ' (Mem.set m ⟨e.key,L'.ar,H⟩) (w.setRow b0 T)/\φ' e.key=some L'/\∀k,k≠e.key->φ' k=φ k:=by
 have BD:jQ φ m b0:=⟨e,he,L,V,A6⟩;refine h.dq (e':=⟨e.key,L'.ar,H⟩) he V rfl (L':=L') (by rw[A'];exact W) BC rfl
  (λb O AA=>qJ w b0 b T (λheq=>AA (heq▸A6))) (by simp) (λb O=>.inl (AG b O)) rfl rfl rfl ?_
 intro φ' AX hle;have AY:∀b,b<w.heap.size->Fo G φ' (Mem.set m ⟨e.key,L'.ar,H⟩) b->Fo G φ m b:=by
  rintro b BR (Aq|⟨x,J,Ar,AH,AZ⟩)
  ·exact .inl Aq
  ·right;rcases (Mem.mem_set h.nodup).1 J with ⟨rfl,_⟩|⟨As,AK⟩
   ·subst AX;simp at AH;subst AH;exact⟨e,he,L,V,AG b AZ⟩
   ·subst AX;simp at AK;simp[AK]at AH;exact⟨x,As,Ar,AH,AZ⟩
 have AB:∀b,b<w.heap.size->¬Fo G φ m b->(w.setRow b0 T).heap[b]?=w.heap[b]?:=
  λb O AA=>qJ w b0 b T (λheq=>AA (.inr (heq▸BD)))
 exact Y φ' hle (λx v J=>J.mono hle AB (by simp) AY) (λx v J=>J.mono AB (by simp) AY)
theorem bz.store{φ G m w}(h:bz φ G m w){e:cq}(he:e∈m){L:Loc}(V:φ e.key=some L)(A':L.ar=e.ar){b0:Nat}(A6:e.cont.db L b0)(T:Array Value)
 (AC:Nat) (W:e.ar<=AC) (H:aD) (AG:∀b,H.db {L with ar:=AC} b->e.cont.db L b)
 (Y:∀φ':bP,φ.le φ'->(∀x v,aH φ w (Fo G φ m) x v->aH φ' (w.setRow b0 T) (Fo G φ' (Mem.set m ⟨e.key,AC,H⟩)) x v)->
  (∀x v,aQ w (Fo G φ m) x v->aQ (w.setRow b0 T) (Fo G φ' (Mem.set m ⟨e.key,AC,H⟩)) x v)->
  eJ φ' (w.setRow b0 T) (Fo G φ' (Mem.set m ⟨e.key,AC,H⟩)) {L with ar:=AC} H):
 ∃φ',bz φ' G (Mem.set m ⟨e.key,AC,H⟩) (w.setRow b0 T)/\bk φ m w φ' (Mem.set m ⟨e.key,AC,H⟩) (w.setRow b0 T)/\φ' e.key=some {L with ar:=AC}/\∀k,k≠e.key->φ' k=φ k:=
 h.MG he V A' A6 T {L with ar:=AC} W (λhh=>by simp at hh;cases L;simp_all) H AG Y
theorem bz.Zv{φ G m w}(h:bz φ G m w){e:cq}(he:e∈m){L:Loc}(V:φ e.key=some L)(A':L.ar=e.ar)(M:World)(AQ:M.heap=w.heap)(At:M.os=w.os)(Au:M.tape=w.tape)(Av:M.output=w.output)
 (arr:Array Value) (elem:TypeId) (H:aD) (L':Loc) (W:L'.ar=e.ar+1) (AG:∀b,H.db L' b->e.cont.db L b\/w.heap.size=b)
 (Y:∀φ':bP,φ.le φ'->(∀x v,aH φ w (Fo G φ m) x v->aH φ' (M.alloc (.cells arr elem)) (Fo G φ' (Mem.set m ⟨e.key,e.ar+1,H⟩)) x v)->
  (∀x v,aQ w (Fo G φ m) x v->aQ (M.alloc (.cells arr elem)) (Fo G φ' (Mem.set m ⟨e.key,e.ar+1,H⟩)) x v)->
  (M.alloc (.cells arr elem)).heap[w.heap.size]?=some (.cells arr elem (0,0))->(∀b,b<w.heap.size->(M.alloc (.cells arr elem)).heap[b]?=w.heap[b]?)->
  eJ φ' (M.alloc (.cells arr elem)) (Fo G φ' (Mem.set m ⟨e.key,e.ar+1,H⟩)) L' H):
 ∃φ',bz φ' G (Mem.set m ⟨e.key,e.ar+1,H⟩) (M.alloc (.cells arr elem))/\bk φ m w φ' (Mem.set m ⟨e.key,e.ar+1,H⟩) (M.alloc (.cells arr elem))/\
  φ' e.key=some L'/\∀k,k≠e.key->φ' k=φ k:=by
 have hold:∀b,b<w.heap.size->(M.alloc (.cells arr elem)).heap[b]?=w.heap[b]?:=λb O=>by rw[RowKit.Below.heap_alloc M _ b (by rw[AQ];exact O),AQ]
 have A7:w.heap.size<=(M.alloc (.cells arr elem)).heap.size:=by simp[AQ]
 refine h.dq (e':=⟨e.key,e.ar+1,H⟩) he V rfl (L':=L') (by rw[A',W];simp) (λhh=>by simp[A',W]at hh) W
  (λb O _=>hold b O) A7 (λb O=>(AG b O).imp id (λe=>by omega)) At Au Av ?_
 intro φ' AX hle;have AY:∀b,b<w.heap.size->Fo G φ' (Mem.set m ⟨e.key,e.ar+1,H⟩) b->Fo G φ m b:=by
  rintro b O (Aq|⟨x,J,Ar,AH,AZ⟩)
  ·exact .inl Aq
  ·right;rcases (Mem.mem_set h.nodup).1 J with ⟨rfl,_⟩|⟨As,AK⟩
   ·subst AX;simp at AH;subst AH;rcases AG b AZ with AD|AD
    ·exact⟨e,he,L,V,AD⟩
    ·omega
   ·subst AX;simp at AK;simp[AK]at AH;exact⟨x,As,Ar,AH,AZ⟩
 refine Y φ' hle (λx v J=>J.mono hle (λb O _=>hold b O) A7 AY) (λx v J=>J.mono (λb O _=>hold b O) A7 AY) ?_ hold;have:=heap_alloc_new M (.cells arr elem);rwa [AQ]at this
theorem bz.fresh{φ G m w}(h:bz φ G m w){e:cq}(he:e∈m){L:Loc}(V:φ e.key=some L)(A':L.ar=e.ar)(M:World)(AQ:M.heap=w.heap)(At:M.os=w.os)(Au:M.tape=w.tape)(Av:M.output=w.output)
 (arr:Array Value) (elem:TypeId) (sz cap:Nat) (H:aD) (AG:∀b,H.db ⟨e.ar+1,w.heap.size,sz,cap,0,[]⟩ b->w.heap.size=b)
 (Y:∀φ':bP,φ.le φ'->(∀x v,aH φ w (Fo G φ m) x v->aH φ' (M.alloc (.cells arr elem)) (Fo G φ' (Mem.set m ⟨e.key,e.ar+1,H⟩)) x v)->
  (∀x v,aQ w (Fo G φ m) x v->aQ (M.alloc (.cells arr elem)) (Fo G φ' (Mem.set m ⟨e.key,e.ar+1,H⟩)) x v)->
  (M.alloc (.cells arr elem)).heap[w.heap.size]?=some (.cells arr elem (0,0))->
  eJ φ' (M.alloc (.cells arr elem)) (Fo G φ' (Mem.set m ⟨e.key,e.ar+1,H⟩)) ⟨e.ar+1,w.heap.size,sz,cap,0,[]⟩ H):
 ∃φ',bz φ' G (Mem.set m ⟨e.key,e.ar+1,H⟩) (M.alloc (.cells arr elem))/\bk φ m w φ' (Mem.set m ⟨e.key,e.ar+1,H⟩) (M.alloc (.cells arr elem))/\
  φ' e.key=some ⟨e.ar+1,w.heap.size,sz,cap,0,[]⟩/\∀k,k≠e.key->φ' k=φ k:=
 h.Zv he V A' M AQ At Au Av arr elem H _ rfl (λb O=>.inr (AG b O)) (λφ' E Z AM A5 _=>Y φ' E Z AM A5)
def D.setCells(r:D)(j:Nat)(y:D):D:=.agg (bC r.cells j y.cells)
def Ho(P:Program)(t:TypeId)(k ar i j:Nat)(x:AV):Option cq->dO
 |some ⟨_,v,.vv aj (some _)⟩=>match x with
  | .vec a b c d=>.dq (v=ar/\i=aj.length/\j=0/\gr P t=some 1) .bu ⟨k,ar,.vv aj (some (.vec a b c d))⟩
  |_=>.no
 |_=>.no
def rN(P:Program)(m:Mem)(t:TypeId)(p x:AV):dO:=
 match p with
 | .ptr k ar off=>match Mem.get m k with
  |some ⟨_,v,.box cs⟩=>.dq (v=ar/\x.nk=true/\gr P t=some x.cells.length/\off+x.cells.length<=cs.length) .bu ⟨k,ar,.box (bC cs off x.cells)⟩
  |_=>.no
 | .cS k ar i j=>match Mem.get m k,x.norm with
  |some ⟨_,v,.vec sz aj⟩,.d y=>match tk P t with
   | .struct=>.dq (v=ar/\i<aj.length/\gr P t=some sz/\y.size=sz/\j=0) .bu ⟨k,ar,.vec sz (aj.set i y)⟩
   |_=>match sz with
    |1=>.dq (v=ar/\i<aj.length/\gr P t=some 1/\y.size=1/\j=0) .bu ⟨k,ar,.vec 1 (aj.set i y)⟩
    |sz=>.dq (v=ar/\i<aj.length/\gr P t=some y.size/\j+y.size<=sz/\(D.at aj i).flat=false) .bu ⟨k,ar,.vec sz (aj.set i ((D.at aj i).setCells j y))⟩
  |e,_=>Ho P t k ar i j x e
 |_=>.no
theorem L5{w w':World}{F F':Nat->Prop}{arr:Array Value}{aj:List D}{base sz cap i o:Nat}{us:List Value}{AE:D}{AF:Value}(A4:arr.size=base+cap*sz)(AR:aj.length<=cap)(hi:i<aj.length)
 (A6:base+i*sz<=o) (BS:o+us.length<=base+i*sz+sz)
 (AS:∀(n:Nat)(d:D),aj[n]?=some d->∃v,aQ w F d v/\∀(j:Nat)(c:Value),v.cells[j]?=some c->arr[base+n*sz+j]?=some c)
 (BE:∀d∈aj,d.size=sz)
 (hm:∀x v,aQ w F x v->aQ w' F' x v) (AL:aQ w' F' AE AF) (AT:AE.size=sz)
 (Aw:∀(j:Nat)(c:Value),AF.cells[j]?=some c->(bC arr.toList o us)[base+i*sz+j]?=some c):
 ∀(n:Nat)(d:D),(aj.set i AE)[n]?=some d->∃v,aQ w' F' d v/\∀(j:Nat)(c:Value),v.cells[j]?=some c->(bC arr.toList o us).toArray[base+n*sz+j]?=some c:=by
 have BF:base+i*sz+sz<=arr.size:=by
  have:i*sz+sz<=cap*sz:=by rw[<-akj];exact abS _ (by omega)
  omega
 intro n d A8;by_cases AA:n=i
 ·subst AA;simp[hi]at A8;subst A8;exact⟨AF,AL,λj c A_=>by simpa using Aw j c A_⟩
 ·rw[List.getElem?_set_ne (λh=>AA h.symm)]at A8;obtain⟨v,W,BG⟩:=AS n d A8;refine⟨v,hm d v W,λj c A_=>?_⟩;have BT:j<sz:=by
   have E:=W.size;rw[BE d (aay A8)]at E;have:=(acU.1 A_).1;omega
  rw[ahL,iG arr.toList o us (by simp;omega)];have key:¬(o<=base+n*sz+j/\base+n*sz+j<o+us.length):=by
   rintro ⟨E,Z⟩;rcases Nat.lt_or_gt_of_ne AA with AN|BH
   ·have:n*sz+sz<=i*sz:=by rw[<-akj];exact abS _ AN
    omega
   ·have:i*sz+sz<=n*sz:=by rw[<-akj];exact abS _ BH
    omega
  have hh:=BG j c A_;split
  ·simpa using hh
  ·rw[aab (by omega)];simpa using hh
theorem wA{P:Program}{t:TypeId}{w:World}{b o:Nat}{arr:Array Value}{elem:TypeId}{v:Value}(A4:gr P t=some v.cells.size)
 (A0:fJ w b arr elem) (A3:o+v.cells.size<=arr.size) (E:∀x∈v.cells,cF x=true):
 (Instr.storeAt t (.pointer (some ⟨b,o,none⟩)) v).run P w=.ok () (w.setRow b (bC arr.toList o v.cells.toList).toArray):=by
 rw[Qx A4 A0 A3 E,dU _ _ _ (by simpa using A3)];simp
theorem Qy{w:World}{b:Nat}{arr:Array Value}{elem:TypeId}{fr}(A0:w.heap[b]?=some (.cells arr elem fr))(T:Array Value):(w.setRow b T).heap[b]?=some (.cells T elem fr):=setRow_heap w b arr T elem fr A0
theorem fJ.setRow{w:World}{b:Nat}{arr:Array Value}{elem:TypeId}(A0:fJ w b arr elem)(T:Array Value)(A4:T.size=arr.size):fJ (w.setRow b T) b T elem:=by
 obtain⟨fr,E,Z⟩:=A0;exact⟨fr,Qy E T,by rw[A4];exact Z⟩
theorem mH{α:Type}{cs I:List α}{off:Nat}{x:α}(h:off+I.length<=cs.length)(J:x∈bC cs off I):x∈cs\/x∈I:=by
 rw[dU cs off I h]at J;simp only[aa0]at J;rcases J with (J|J)|J
 ·exact .inl (afM J)
 ·exact .inr J
 ·exact .inl (acJ J)
theorem Zw(P:Program)(S:St)(o:Oper)(t:TypeId)(p x:Operand)(A6:o.op=.store t p x)(Aa:(S.au p).1=true)(J:(S.au x).1=true){k ar i j:Nat}(AU:(S.au p).2=.cS k ar i j):
 aM P S o (Ho P t k ar i j (S.au x).2 (Mem.get S.mem k)):=by
 unfold Ho;split
 ·rename_i key v aj y A0;split
  ·rename_i a b c d AO;refine aM.uW ?_;rintro ⟨rfl,rfl,rfl,Ab⟩ φ G BI w A1;have AB:key=k:=(Mem.get_mem A0).2;subst AB;have W:=A1.au p Aa;have hu:=A1.au x J;rw[AU]at W;rw[AO]at hu;obtain⟨hm,_,L,V,A',AP⟩:=A1.mem.get A0;obtain⟨⟨B3,AR,A3⟩,BJ,AK,Ax⟩:=AP;have e:=W.mF V A';simp only[Option.toList_some,af4]at AR;have Ac:0<L.cap:=by omega
   obtain⟨arr,elem,hh,A7,E,BK,_⟩:=Ax Ac;generalize Ay:BI.eval x=u at hu;have Az:cF u=true:=by cases hu;assumption
   have Al:u.cells=#[u]:=eI Az;have A2:L.base+aj.length+[u].length<=arr.toList.length:=by simp;omega
   obtain⟨φ',Ad,Ae,B4,Af⟩:=A1.mem.store (e:=⟨key,v,.vv aj (some y)⟩) hm V A' (b0:=L.dZ) (.inl ⟨Ac,rfl⟩) (bC arr.toList (L.base+aj.length) [u]).toArray v (aad _) (.vv aj (some (.vec a b c d))) (λ_ O=>O) (λφ' B5 An AW=>by
    refine⟨⟨B3,by simpa using AR,A3⟩,BJ,AK,λ_=>⟨_,elem,hh.setRow _ (by rw[af2,bR _ _ _ A2];simp),?_,?_,?_,?_⟩⟩
    ·rw[af2,bR _ _ _ A2];simpa using A7
    ·intro z U;rcases mH A2 (by simpa using U)with U|U
     ·exact E z (by simpa using U)
     ·simp at U;subst U;exact Az
    ·intro n xs q AA Ao;have BU:=(D1.1 AA).1;have:=BK n xs q AA Ao;rw[show (bC arr.toList (L.base+aj.length) [u]).toArray[L.base+n]?=arr[L.base+n]? by
      rw[ahL,iG _ _ _ A2,aat (by omega)];simp]
     refine this.mono (λd u _ A8=>AW d u A8) (λb O=>?_);subst O;exact qJ w L.dZ b _ (λheq=>(AK b (aay Ao)).2 heq)
    ·intro z U;cases U;refine⟨u,?_,An _ _ hu⟩;show (bC arr.toList (L.base+aj.length) [u]).toArray[L.base+aj.length]?=some u;rw[ahL,iG _ _ _ A2,aab (by omega),aat (by simp)];simp)
   refine⟨undef,_,φ',?_,.bu _,Ad,Ae,Af⟩;have B6:=wA (P:=P) (t:=t) (w:=w) (b:=L.dZ) (o:=L.base+aj.length) (v:=u) (by rw[Al];exact Ab) hh (by rw[Al];simpa using A2) (by rw[Al];simpa using Az);rw[Al]at B6;refine .inr ⟨?_,rfl⟩;rw[B3,alb,ah0]at e;simp[execOp,A6,e,Ay,B6]
  ·trivial
 ·trivial
theorem ada(P:Program)(S:St)(o:Oper)(t:TypeId)(p x:Operand)(A6:o.op=.store t p x)(Aa:(S.au p).1=true)(J:(S.au x).1=true):aM P S o (rN P S.mem t (S.au p).2 (S.au x).2):=by
 have B7:∀(a:Act)(w w':World),(Instr.storeAt t (a.eval p) (a.eval x)).run P w=.ok () w'->Hm P o a w undef w':=by
  intro a w w' h;exact .inr ⟨by simp[execOp,A6,h],rfl⟩
 unfold rN;split
 ·rename_i k ar off AU;split
  ·rename_i key v cs A0;refine aM.uW ?_;rintro ⟨rfl,BL,Ab,hle⟩ φ G a w A1;have W:=A1.au p Aa;have AO:=A1.au x J;rw[AU]at W;obtain⟨hm,AB,L,V,A',B',arr,elem,hh,A7,E,AS⟩:=A1.mem.get A0;have e:=W.uc V A';obtain⟨Ap,B0⟩:=AO.nk BL;simp only at AB;subst AB;have A2:off+(a.eval x).cells.toList.length<=arr.toList.length:=by simp only[ab9,Ap,A7];exact hle
   obtain⟨φ',Ad,Ae,B4,Af⟩:=A1.mem.store (e:=⟨key,v,.box cs⟩) hm V A' rfl (bC arr.toList off (a.eval x).cells.toList).toArray v (aad _) (.box (bC cs off (S.au x).2.cells)) (λ_ O=>O) (λφ' B5 An AW=>by
    refine⟨⟨B'.1,B'.2.1,by rw[bR _ _ _ hle];exact B'.2.2⟩,_,elem,hh.setRow _ (by show (bC arr.toList _ _).length=_;rw[bR _ _ _ A2];simp),?_,?_,?_⟩
    ·rw[bR _ _ _ hle,<-A7];show (bC arr.toList off _).length=_;rw[bR _ _ _ A2];simp
    ·intro u hu;rcases mH A2 (by simpa using hu)with hu|hu
     ·exact E u (by simpa using hu)
     ·exact B0 u (by simpa using hu)
    ·intro i c u Y hu;refine An c u ?_;exact wu (vs:=arr.toList) (us:=(a.eval x).cells.toList) (by simp[A7]) (by simpa using Ap.symm) hle (λi c v h AD=>AS i c v h (by simpa using AD))
      (λi c v h AD=>AO.cells B0 Ap i c v h (by simpa using AD)) i c u Y (by simpa using hu))
   refine⟨undef,_,φ',B7 a w _ ?_,.bu _,Ad,Ae,Af⟩;rw[e];exact wA (by rw[Ap];exact Ab) hh (by omega) B0
  ·trivial
 ·rename_i k ar i j AU;have vec:∀(c:Prop)[Decidable c](sz:Nat)(aj:List D)(y AE:D)(v:Nat),Mem.get S.mem k=some ⟨k,v,.vec sz aj⟩->(S.au x).2.norm=.d y->
   (c->v=ar/\i<aj.length/\gr P t=some y.size/\j+y.size<=sz/\((D.at aj i).size=sz->AE.size=sz)/\
    ∀w F (u v:Value),(D.at aj i).size=sz->aQ w F (D.at aj i) v->aQ w F y u->∃AF,aQ w F AE AF/\AF.cells.toList=bC v.cells.toList j u.cells.toList)->
   aM P S o (.dq (decide c) .bu ⟨k,ar,.vec sz (aj.set i AE)⟩):=by
   intro c _ sz aj y AE v A0 A9 BM;refine aM.uW λY φ G a w A1=>?_;obtain⟨rfl,AN,Ab,A_,BN,BO⟩:=BM Y;have W:=A1.au p Aa;have AO:=(A1.au x J).norm;rw[A9]at AO;rw[AU]at W;obtain⟨hm,AB,L,V,A',Ag,AR,AT,Ax⟩:=A1.mem.get A0;have e:=W.mF V A';have Ac:0<L.cap:=by omega
   obtain⟨arr,elem,hh,A7,E,AS⟩:=Ax Ac;have B8:AE.size=sz:=BN (by rw[AT _ (aay (lA AN)),Ag]);cases AO with
   |d _ u hu=>
    generalize Ay:a.eval x=u at hu;have Ah:u.cells.size=y.size:=hu.size;have BF:L.base+i*L.sz+L.sz<=arr.size:=by
     have:i*L.sz+L.sz<=L.cap*L.sz:=by rw[<-akj];exact abS _ (by omega)
     omega
    obtain⟨B1,B9,BA⟩:=AS i _ (lA AN);have B2:B1.cells.size=L.sz:=by rw[B9.size];exact AT _ (aay (lA AN))
    have A2:L.base+i*L.sz+j+u.cells.toList.length<=arr.toList.length:=by simp[Ah];omega
    obtain⟨φ',Ad,Ae,B4,Af⟩:=A1.mem.store (e:=⟨k,v,.vec sz aj⟩) hm V A' ⟨Ac,rfl⟩ (bC arr.toList (L.base+i*L.sz+j) u.cells.toList).toArray v (aad _) (.vec sz (aj.set i AE)) (λ_ O=>O) (λφ' B5 An AW=>by
     refine⟨Ag,by simpa using AR,?_,λ_=>⟨_,elem,hh.setRow _ (by show (bC arr.toList _ _).length=_;rw[bR _ _ _ A2];simp),?_,?_,?_⟩⟩
     ·intro d A8;rcases List.mem_or_eq_of_mem_set A8 with A8|rfl
      ·exact AT d A8
      ·show _=L.sz;rw[Ag];exact B8
     ·show (bC arr.toList _ _).length=_;rw[bR _ _ _ A2];simpa using A7
     ·intro z U;rcases mH A2 (by simpa using U)with U|U
      ·exact E z (by simpa using U)
      ·exact hu.cells.2.1 z (by simpa using U)
     ·obtain⟨AF,Aw,BP⟩:=BO _ _ u B1 (by rw[AT _ (aay (lA AN)),Ag]) (AW _ _ B9) (AW _ _ hu);refine L5 (F:=Fo G φ S.mem) (base:=L.base) (cap:=L.cap) (sz:=L.sz) A7 AR AN (by omega) (by simp[Ah];omega) AS AT AW Aw (by rw[B8,Ag]) ?_;intro q c Ao;have AI:(bC B1.cells.toList j u.cells.toList)[q]?=some c:=by rw[<-BP];simpa using Ao
      have BV:q<L.sz:=by
       have:=(D1.1 AI).1;rw[bR _ _ _ (by simp[Ah,B2];omega)]at this;simpa [B2]using this
      rw[iG _ _ _ (by simp[Ah,B2];omega)]at AI;rw[iG _ _ _ A2];by_cases E:q<j
      ·rw[aat E]at AI;rw[aat (by omega)];simpa using BA q c (by simpa using AI)
      ·rw[aab E]at AI;rw[aab (by omega)];by_cases Z:q<j+u.cells.toList.length
       ·rw[aat Z]at AI;rw[aat (by omega)];rw[show L.base+i*L.sz+q-(L.base+i*L.sz+j)=q-j by omega];exact AI
       ·rw[aab Z]at AI;rw[aab (by omega)];simpa using BA q c (by simpa using AI))
    refine⟨undef,_,φ',B7 a w _ ?_,.bu _,Ad,Ae,Af⟩;rw[e,Ay];exact wA (by rw[Ah];exact Ab) hh (by simpa using A2) hu.cells.2.1
  have whole:∀(y r:D),y.size=r.size->∀w F (u v:Value),aQ w F r v->aQ w F y u->∃AF,aQ w F y AF/\AF.cells.toList=bC v.cells.toList 0 u.cells.toList:=by
   intro y r BW w F u v A1 A9;refine⟨u,A9,?_⟩;have E:=A1.size;have Z:=A9.size;rw[dU _ _ _ (by simp;omega)];simp;omega
  split
  ·rename_i key v sz aj y A0 A9;have AB:key=k:=(Mem.get_mem A0).2;subst AB;split
   ·exact vec _ sz aj y y v A0 A9 (λ⟨E,Z,AM,A5,Ai⟩=>⟨E,Z,by rw[A5];exact AM,by omega,λ_=>A5,by
     subst Ai;intro w F u v A4 AL Aj;exact whole y _ (by rw[A4,A5]) w F u v AL Aj⟩)
   ·split
    ·exact vec _ 1 aj y y v A0 A9 (λ⟨E,Z,AM,A5,Ai⟩=>⟨E,Z,by rw[A5];exact AM,by omega,λ_=>A5,by
      subst Ai;intro w F u v A4 AL Aj;exact whole y _ (by rw[A4,A5]) w F u v AL Aj⟩)
    ·refine vec _ sz aj y _ v A0 A9 (λ⟨E,Z,AM,A5,Ai⟩=>⟨E,Z,AM,A5,?_,?_⟩)
     ·intro AJ;show (bC _ _ _).length=sz;rw[bR _ _ _ (by rw[D.hU,D.hU,AJ];exact A5),D.hU,AJ]
     ·intro w F u v A4 AL Aj;obtain⟨BQ,rfl⟩:=y3 AL Ai;have AP:=AL.cells;have Ak:=Aj.cells;have A3:j+y.cells.length<=(D.at aj i).cells.length:=by rw[D.hU,D.hU,A4];exact A5
      refine⟨.agg (bC BQ.toList j u.cells.toList).toArray,.rj ?_ ?_ ?_,by simp[Value.cells]⟩
      ·have AJ:=AP.1;simp only[Value.cells]at AJ;rw[bR _ _ _ A3,bR _ _ _ (by rw[Ak.1,AJ];exact A3),<-AJ]
      ·intro z U;have AJ:=AP.1;simp only[Value.cells]at AJ;rcases mH (by rw[Ak.1,AJ];exact A3) U with U|U
       ·exact AP.2.1 z (by simpa [Value.cells]using U)
       ·exact Ak.2.1 z (by simpa using U)
      ·exact wu (by simpa [Value.cells]using AP.1.symm) (by simpa using Ak.1.symm) A3 (λi c v h AD=>(AP.2.2 i c v h (by simpa [Value.cells]using AD)).1) (λi c v h AD=>(Ak.2.2 i c v h (by simpa using AD)).1)
  ·exact Zw P S o t p x A6 Aa J AU
 ·trivial
theorem jw(P:Program)(w:World)(e:TypeId)(cs:Array Value):(newRow e cs).run P w=.ok ⟨w.heap.size,0,none⟩ (w.alloc (.cells cs e)):=rfl
def keyOf(o:Oper):Nat:=100+50*o.dst.getD 100000
def xY(P:Program)(t:TypeId):Option (List AV):=
 match P.info? t with
 |some i=>match i.zero with
  |some z=>if z.cells.all cF then some (z.cells.toList.map pH)else none
  |none=>none
 |none=>none
theorem rk{P:Program}{t:TypeId}{zs:List AV}(h:xY P t=some zs)(w:World):∃z,(zeroValue t).run P w=.ok z w/\z.cells.size=zs.length/\(∀v∈z.cells,cF v=true)/\
 ∀φ w' F (i:Nat) c v,zs[i]?=some c->z.cells[i]?=some v->aH φ w' F c v:=by
 unfold xY at h;split at h
 ·rename_i i hi;split at h
  ·rename_i z A0;split at h
   ·rename_i AN;simp at h;subst h;refine⟨z,by simp[zeroValue,typeInfo,hi,A0],by simp,?_,?_⟩
    ·intro v E;exact Array.all_eq_true'.1 AN v E
    ·intro φ w' F i c v O E;simp only[ab6,ah1,aax]at O;obtain⟨u,hu,rfl⟩:=O;rw[E]at hu;cases hu;exact Fi ..
   ·cases h
  ·cases h
 ·cases h
def uX(m:Mem)(k:Nat)(c:Bool)(cs:List AV):dO:=
 match Mem.get m k with
 |some ⟨_,v,_⟩=>.dq c (.ptr k (v+1) 0) ⟨k,v+1,.box cs⟩
 |none=>.no
theorem Re{P:Program}{S:St}{o:Oper}{k:Nat}{c:Bool}{cs:List AV}
 (h:c=true->∀φ G a w,Rel φ G S a w->∃(arr:Array Value)(elem:TypeId),(execOp a.eval o).run P w=.ok (.value (.pointer (some ⟨w.heap.size,0,none⟩))) (w.alloc (.cells arr elem))/\
  arr.size=cs.length/\(∀v∈arr,cF v=true)/\∀(i:Nat) c v,cs[i]?=some c->arr[i]?=some v->aH φ w (Fo G φ S.mem) c v):aM P S o (uX S.mem k c cs):=by
 unfold uX;split
 ·rename_i key v cont AO;intro O φ G a w W;obtain⟨arr,elem,A1,T,J,Z⟩:=h O φ G a w W;obtain⟨hm,A4,L,AP,AH,_⟩:=W.mem.get AO;simp only at A4 AH;subst A4;obtain⟨φ',AQ,AR,AS,AT⟩:=W.mem.fresh (e:=⟨key,v,cont⟩) hm AP AH w rfl rfl rfl rfl arr elem 1 cs.length (.box cs) (λ_ A6=>A6) (λφ' hle AU Ag AW=>
   ⟨⟨rfl,rfl,rfl⟩,arr,elem,fJ.new AW,T,J,λi c u O hu=>AU c u (Z i c u O hu)⟩)
  exact⟨_,_,φ',.inl A1,.ptr key (v+1) 0 _ _ AS (aad _) (λ_=>rfl) rfl,AQ,AR,AT⟩
 ·trivial
theorem akh(P:Program)(S:St)(o:Oper)(t:TypeId)(x:Operand)(AA:o.op=.box t x)(A2:(S.au x).1=true):aM P S o (uX S.mem (keyOf o) (S.au x).2.nk (S.au x).2.cells):=by
 refine Re λy φ G a w W=>?_;have E:=W.au x A2;obtain⟨J,U⟩:=E.nk y;refine⟨(a.eval x).cells,t,?_,J,U,E.cells U J⟩;simp[execOp,AA,Instr.box,newVar,jw]
theorem MH(P:Program)(S:St)(o:Oper)(t:TypeId)(AA:o.op=.alloc t)(zs:List AV)(A0:xY P t=some zs):aM P S o (uX S.mem (keyOf o) true zs):=by
 refine Re λ_ φ G a w W=>?_;obtain⟨z,A1,T,J,Z⟩:=rk A0 w;refine⟨z.cells,t,?_,T,J,λi c v O E=>Z _ _ _ i c v O E⟩;simp[execOp,AA,Instr.alloc,newVar,jw,A1]
def oM(P:Program)(t:TypeId):Option D:=
 match xY P t,(tk P t).agg with
 |some zs,true=>(toDsN zs).map .agg
 |some [z],false=>toD1 z
 |_,_=>none
def Cn(P:Program)(t:TypeId):Option Nat:=(P.info? t).map (·.bytes)
theorem Hp{P:Program}{t:TypeId}{d:D}(h:oM P t=some d)(w:World):∃z,(zeroValue t).run P w=.ok z w/\z.cells.size=d.size/\(∀v∈z.cells,cF v=true)/\
 ∀w' F,∃v,aQ w' F d v/\v.cells=z.cells:=by
 unfold oM at h;split at h
 ·rename_i zs A0 AX;simp only[aax]at h;obtain⟨AB,AY,rfl⟩:=h;obtain⟨z,A1,T,J,Z⟩:=rk A0 w;have A3:∀w' F,zs.length=AB.length/\∀(i:Nat) d v,AB[i]?=some d->z.cells.toList[i]?=some v->aQ w' F d v:=λw' F=>
   toDsN_rel (φ:=λ_=>none) (w:=w') (F:=F) (vs:=z.cells.toList) AY (λi c v O E=>Z _ _ _ i c v O (by simpa using E))
  refine⟨z,A1,by rw[T,(A3 w (λ_=>False)).1];rfl,J,λw' F=>⟨.agg z.cells,?_,rfl⟩⟩;have:=aQ.rj (w:=w') (F:=F) (cs:=AB) (vs:=z.cells.toList) (by rw[<-(A3 w' F).1];simpa using T.symm) (λv E=>J v (by simpa using E)) (A3 w' F).2;simpa using this
 ·rename_i z0 A0 AX;obtain⟨z,A1,T,J,Z⟩:=rk A0 w;obtain⟨u,hu⟩:∃u,z.cells=#[u]:=by
   have:z.cells.size=1:=T;exact⟨z.cells[0],by apply Array.ext<;>simp_all⟩
  have H:∀w' F,aQ w' F d u:=λw' F=>toD1_rel (φ:=λ_=>none) h (Z _ _ _ 0 z0 u (by simp) (by simp[hu]));have AI:cF u=true:=J u (by simp[hu]);refine⟨z,A1,by rw[hu,<-(H w (λ_=>False)).size,eI AI],J,λw' F=>⟨u,H w' F,by rw[eI AI,hu]⟩⟩
 ·cases h
def cA(w:World)(F:Nat->Prop)(sz:Nat)(aj:List D)(cs:List Value):Prop:=
 cs.length=aj.length*sz/\(∀v∈cs,cF v=true)/\(∀d∈aj,d.size=sz)/\∀(i:Nat) d,aj[i]?=some d->∃v,aQ w F d v/\∀(j:Nat) c,v.cells[j]?=some c->cs[i*sz+j]?=some c
theorem zM{sz:Nat}{w:World}{F:Nat->Prop}{d:D}{v:Value}(h:aQ w F d v)(y:d.size=sz){j:Nat}{c:Value}(I:v.cells[j]?=some c):j<sz:=by
 have J:=h.size;have:=(acU.1 I).1;omega
theorem cA.append{w F sz xs AC cs AJ}(h:cA w F sz xs cs)(AZ:cA w F sz AC AJ):cA w F sz (xs++AC) (cs++AJ):=by
 obtain⟨Y,a2,a3,a4⟩:=h;obtain⟨A_,Aa,Ab,Ac⟩:=AZ;refine⟨by simp[Y,A_,af6],?_,?_,?_⟩
 ·intro v E;rcases aa0.1 E with E|E;exact a2 v E;exact Aa v E
 ·intro v E;rcases aa0.1 E with E|E;exact a3 v E;exact Ab v E
 ·intro i d H;by_cases hi:i<xs.length
  ·rw[aaF hi]at H;obtain⟨v,E,V⟩:=a4 i d H;refine⟨v,E,λj c I=>?_⟩;have A7:=zM E (a3 d (aay H)) I;rw[aaF]
   ·exact V j c I
   ·rw[Y];have:i*sz+sz<=xs.length*sz:=by rw[<-akj];exact abS _ hi
    omega
  ·rw[abI (by omega)]at H;obtain⟨v,E,V⟩:=Ac _ d H;refine⟨v,E,λj c I=>?_⟩;have e:xs.length*sz+(i-xs.length)*sz=i*sz:=by rw[<-af6];congr 1;omega
   rw[abI (by rw[Y];omega),Y,show i*sz+j-xs.length*sz=(i-xs.length)*sz+j by omega];exact V j c I
theorem cA.take{w F sz xs cs}(h:cA w F sz xs cs)(n:Nat)(AK:n<=xs.length):cA w F sz (xs.take n) (cs.take (n*sz)):=by
 obtain⟨Y,a2,a3,a4⟩:=h;have hle:n*sz<=xs.length*sz:=abS _ AK;refine⟨by simp only[aic,Y];rw[akW AK,akW hle],λv E=>a2 v (afM E),λv E=>a3 v (afM E),?_⟩;intro i d H;rw[abW]at H;split at H
 ·rename_i hi;obtain⟨v,E,V⟩:=a4 i d H;refine⟨v,E,λj c I=>?_⟩;have A7:=zM E (a3 d (aay H)) I;have:i*sz+sz<=n*sz:=by rw[<-akj];exact abS _ hi
  rw[abW,aat (by omega)];exact V j c I
 ·cases H
theorem cA.drop{w F sz xs cs}(h:cA w F sz xs cs)(n:Nat):cA w F sz (xs.drop n) (cs.drop (n*sz)):=by
 obtain⟨Y,a2,a3,a4⟩:=h;refine⟨by simp[Y,Nat.sub_mul],λv E=>a2 v (acJ E),λv E=>a3 v (acJ E),?_⟩;intro i d H;rw[acx]at H;obtain⟨v,E,V⟩:=a4 _ d H;refine⟨v,E,λj c I=>?_⟩;rw[acx,show n*sz+(i*sz+j)=(n+i)*sz+j by rw[af6];omega];exact V j c I
theorem cA.mono{w F w' F' sz xs cs}(h:cA w F sz xs cs)(hm:∀x v,aQ w F x v->aQ w' F' x v):cA w' F' sz xs cs:=
 ⟨h.1,h.2.1,h.2.2.1,λi d H=>let ⟨v,E,O⟩:=h.2.2.2 i d H;⟨v,hm _ _ E,O⟩⟩
theorem cA.nil(w F sz):cA w F sz [] []:=⟨by simp,by simp,by simp,by simp⟩
theorem wD{φ w F}{L:Loc}{aj:List D}{pre cs rest:List Value}{sz:Nat}{elem:TypeId}(T:L.sz=sz)(W:cA w F sz aj cs)(Ad:pre.length=L.base)(A':∀v∈pre,cF v=true)(J:∀v∈rest,cF v=true)
 (A5:aj.length<=L.cap) (A3:(cs++rest).length=L.cap*sz) (hh:0<L.cap->fJ w L.dZ (pre++(cs++rest)).toArray elem):eJ φ w F L (.vec sz aj):=by
 obtain⟨Y,a2,a3,a4⟩:=W;subst T;refine⟨rfl,A5,a3,λO=>⟨_,elem,hh O,by simp only[af2,aam]at A3⊢;omega,?_,?_⟩⟩
 ·intro v E;simp at E;rcases E with E|E|E
  ·exact A' v E
  ·exact a2 v E
  ·exact J v E
 ·intro i d H;obtain⟨v,E,V⟩:=a4 i d H;refine⟨v,E,λj c I=>?_⟩;have A7:=zM E (a3 d (aay H)) I;have AD:i<aj.length:=(D1.1 H).1;have:i*L.sz+L.sz<=aj.length*L.sz:=by rw[<-akj];exact abS _ AD
  rw[ahL,abI (by omega),Ad,show L.base+i*L.sz+j-L.base=i*L.sz+j by omega,aaF (by rw[Y];omega)];exact V j c I
theorem y5{φ w F}{L:Loc}{aj:List D}{cs rest:List Value}{sz:Nat}{elem:TypeId}(T:L.sz=sz)(A6:L.base=0)(W:cA w F sz aj cs)(J:∀v∈rest,cF v=true)
 (A5:aj.length<=L.cap) (A3:(cs++rest).length=L.cap*sz) (hh:0<L.cap->fJ w L.dZ (cs++rest).toArray elem):eJ φ w F L (.vec sz aj):=
 wD (pre:=[]) T W (by simp[A6]) (by simp) J A5 A3 hh
theorem qh{φ w F}{L:Loc}{aj:List D}{sz:Nat}(h:eJ φ w F L (.vec sz aj))(O:0<L.cap):∃(arr:Array Value)(elem:TypeId),fJ w L.dZ arr elem/\arr.size=L.base+L.cap*sz/\
 (∀v∈arr,cF v=true)/\cA w F sz aj ((arr.toList.drop L.base).take (aj.length*sz)):=by
 obtain⟨y,A5,AL,A8⟩:=h;obtain⟨arr,elem,hh,T,J,Z⟩:=A8 O;subst y;refine⟨arr,elem,hh,T,J,?_,λv E=>J v (by simpa using acJ (afM E)),AL,?_⟩
 ·simp only[aic,ahU,ab9,T];exact akW (by rw[Nat.add_sub_cancel_left];exact abS _ A5)
 ·intro i d H;obtain⟨v,E,V⟩:=Z i d H;refine⟨v,E,λj c I=>?_⟩;have A7:=zM E (AL d (aay H)) I;have AD:i<aj.length:=(D1.1 H).1;have:i*L.sz+L.sz<=aj.length*L.sz:=by rw[<-akj];exact abS _ AD
  rw[abW,aat (by omega),acx,<-abY];simpa using V j c I
theorem MI{w F}{xs:List D}{ao:Option Addr}{m cap sz:Nat}(h:aQ w F (.list xs) (.slice ao m cap))(y:∀d∈xs,d.size=sz):
 m=xs.length/\∃cs,cA w F sz xs cs/\(xs≠[]->∃b off,ao=some ⟨b,off,none⟩/\b<w.heap.size/\¬F b/\∀(j:Nat) v,cs[j]?=some v->w.cell? ⟨b,off+j,none⟩=some v):=by
 generalize A2:D.list xs=x at h;generalize E:Value.slice ao m cap=v at h;cases h with
 |nil a c=>
  simp at A2 E;subst A2;exact⟨by simp[E.2.1],[],cA.nil ..,λh=>absurd rfl h⟩
 |list AC b off Ah M vs A5 A6 Ae T AE O=>
  simp at A2 E;obtain⟨rfl,rfl,rfl⟩:=E;subst A2;refine⟨rfl,?_⟩
  --Ai cells,row by row
  have AF:xs≠[]->M=sz:=λA9=>by
   cases xs with
   |nil=>exact absurd rfl A9
   |cons d r=>rw[<-T d (by simp),y d (by simp)]
  by_cases A9:xs=[]
  ·subst A9;exact⟨[],cA.nil ..,λh=>absurd rfl h⟩
  have AF:=AF A9;subst AF;have A8:∀(i j:Nat),i<xs.length->j<M->∃c,(vs i).cells[j]?=some c/\w.cell? ⟨b,off+(i*M+j),none⟩=some c/\cF c=true:=by
   intro i j hi I;have J:=AE i xs[i] (by simp[hi]);have U:=J.size;rw[y _ (ahV hi)]at U;have AM:j<(vs i).cells.size:=by omega
   refine⟨(vs i).cells[j],by simp[AM],?_,J.cells.2.1 _ (by simp)⟩;have:=O i j _ hi (show (vs i).cells[j]?=some (vs i).cells[j] by simp[AM]);rw[<-abY];exact this
  refine⟨(List.range (xs.length*M)).map (λj=>(w.cell? ⟨b,off+j,none⟩).getD undef),⟨by simp,?_,y,?_⟩,λ_=>⟨b,off,rfl,A6,Ae,?_⟩⟩
  ·intro v E;simp only[abV,aca]at E;obtain⟨j,I,rfl⟩:=E;have AG:0<M:=by rcases alj M with A'|A';simp[A']at I;exact A'
   obtain⟨c,_,U,Af⟩:=A8 (j/M) (j%M) (Nat.div_lt_of_lt_mul (by rw[Nat.mul_comm];exact I)) (Nat.mod_lt _ AG);rw[Nat.mul_comm,Nat.div_add_mod]at U;simp[U,Af]
  ·intro i d H;have hi:i<xs.length:=(D1.1 H).1;refine⟨vs i,AE i d H,λj c I=>?_⟩;have A7:=zM (AE i d H) (y d (aay H)) I;obtain⟨Aj,J,U,_⟩:=A8 i j hi A7;rw[I]at J;cases J;have:i*M+M<=xs.length*M:=by rw[<-akj];exact abS _ hi
   simp[U,show i*M+j<xs.length*M by omega]
  ·intro j v E;simp only[ab6,aax]at E;obtain⟨k,A4,rfl⟩:=E;have I:j<xs.length*M:=by
    rcases Nat.lt_or_ge j (xs.length*M)with h|h
    ·exact h
    ·simp[afX (l:=List.range (xs.length*M)) (by simpa using h)]at A4
   simp[I]at A4;subst A4;have AG:0<M:=by rcases alj M with A'|A';simp[A']at I;exact A'
   obtain⟨c,_,U,_⟩:=A8 (j/M) (j%M) (Nat.div_lt_of_lt_mul (by rw[Nat.mul_comm];exact I)) (Nat.mod_lt _ AG);rw[Nat.mul_comm,Nat.div_add_mod]at U;simp[U]
 |_=>simp at A2
def iS(m:Mem)(sz:Nat):AV->Option (Bool×List D)
 | .d (.list I)=>some (true,I)
 | .d (.str s)=>some (sz=1,s.map λb=>.int .u8 b.toNat)
 | .lit (.slice none 0 0)=>some (true,[])
 | .nn=>some (true,[])
 | .vec k ar off len=>match Mem.get m k with
  |some ⟨_,v,.vec _ aj⟩=>some (v=ar/\off+len<=aj.length,(aj.drop off).take len)
  |_=>none
 |_=>none
structure Mc(P:Program)(w:World)(F:Nat->Prop)(sz:Nat)(I:List D)(x:Value)(M:List Value):Prop where
 len:∀w',(Builtin.lenOf x).run P w'=.ok I.length w'
 Zz:∀n,n<=I.length->∀w',(∀b,b<w.heap.size->w'.heap[b]?=w.heap[b]?)->(Builtin.firstCells sz n x).run P w'=.ok (M.take (n*sz)).toArray w'
 aj:cA w F sz I M
theorem Mc.first{P w F sz I x M}(h:Mc P w F sz I x M)(w':World)(hw:∀b,b<w.heap.size->w'.heap[b]?=w.heap[b]?):(Builtin.firstCells sz I.length x).run P w'=.ok M.toArray w':=by
 rw[h.Zz _ (aad _) w' hw,akw (by rw[h.aj.1];exact aad _)]
theorem MJ{P:Program}{S:St}{φ G w}(hm:bz φ G S.mem w){x:AV}{v:Value}(T:aH φ w (Fo G φ S.mem) x v){c I}{sz:Nat}(H:iS S.mem sz x=some (c,I))(W:c=true)(A':∀d∈I,d.size=sz):
 ∃M,Mc P w (Fo G φ S.mem) sz I v M:=by
 unfold iS at H;split at H
 ·rename_i A1;simp at H;obtain⟨_,rfl⟩:=H;cases T with
  |d _ _ h=>
   have Y:∃ao m cap,v=.slice ao m cap:=by cases h<;>exact⟨_,_,_,rfl⟩
   obtain⟨ao,m,cap,rfl⟩:=Y;obtain⟨rfl,cs,O,A7⟩:=MI h A';refine⟨cs,⟨λw'=>by simp[Builtin.lenOf],λn J w' hw=>?_,O⟩⟩;by_cases A2:A1=[]
   ·subst A2;have:cs=[]:=abO (by simpa using O.1);subst this;have U:n=0:=by simpa using J
    subst U;cases ao with
    |none=>simp[Builtin.firstCells]
    |some a=>simp[Builtin.firstCells,loadCells,loadCellsFrom]
   ·obtain⟨b,off,rfl,V,_,A8⟩:=A7 A2;exact run_firstCells_some (P:=P) w' sz n ⟨b,off,none⟩ A1.length cap _ (O.take n J |>.1.trans (by simp[J])) (λj u E=>by
     rw[gu,mb (hw b V)];rw[abW]at E;split at E
     ·exact A8 j u E
     ·cases E)
 ·rename_i s;simp only[aa1,acr]at H;obtain⟨rfl,rfl⟩:=H;simp only[aak]at W;subst W;cases T with
  |d _ _ h=>
   cases h with
   |str b _ V=>
    subst V;have A9:b.size=b.data.toList.length:=by rw[ab9];rfl
    refine⟨b.data.toList.map λx=>Value.int .u8 x.toNat,⟨λw'=>by simp only[Builtin.lenOf,List.length_map,<-A9];rfl,λn J w' _=>?_,?_,?_,?_,?_⟩⟩
    ·simp only[Builtin.firstCells,Sem.run_pure];congr 1;apply Array.ext';simp
    ·simp
    ·intro v Y;simp only[abV]at Y;obtain⟨y,_,rfl⟩:=Y;rfl
    ·exact A'
    ·intro i d A3;simp only[ab6,aax]at A3;obtain⟨y,AA,rfl⟩:=A3;refine⟨.int .u8 y.toNat,.int _ _,λj c E=>?_⟩;cases j with
     |zero=>simp only[Value.cells]at E;simp at E;subst E;simp only[ab6,alb,ah0,AA];rfl
     |succ j=>simp[Value.cells]at E
 ·simp at H;obtain⟨_,rfl⟩:=H;cases T with
  |lit=>exact⟨[],⟨λw'=>by simp[Builtin.lenOf],λn _ w' _=>by simp[Builtin.firstCells],cA.nil ..⟩⟩
 ·simp at H;obtain⟨_,rfl⟩:=H;cases T with
  |nn a cap=>exact⟨[],⟨λw'=>by simp[Builtin.lenOf],λn J w' _=>by
   have U:n=0:=by simpa using J
   subst U;simp[Builtin.firstCells,loadCells,loadCellsFrom],cA.nil ..⟩⟩
 ·rename_i k ar off len;split at H
  ·rename_i key AM A0 aj AB;simp only[aa1,acr]at H;obtain⟨rfl,rfl⟩:=H;simp only[aak]at W;obtain⟨rfl,hle⟩:=W;obtain⟨AN,AO,L,AC,AD,A4⟩:=hm.get AB;have AE:((aj.drop off).take len).length=len:=by simp;omega
   cases T with
   |vec _ _ _ _ _ L' A5 _ h AF=>
    rw[AC]at A5;cases A5;obtain⟨ao,cap,rfl,AP,AG⟩:=h AD.symm;clear h AF;by_cases AH:len=0
    ·subst AH;refine⟨[],⟨λw'=>by simp[Builtin.lenOf],λn J w' _=>?_,by simpa using cA.nil ..⟩⟩;have U:n=0:=by simpa using J
     subst U;cases ao with
     |none=>simp[Builtin.firstCells]
     |some a=>simp[Builtin.firstCells,loadCells,loadCellsFrom]
    ·obtain⟨rfl,AQ⟩:=AG (by omega);obtain⟨arr,elem,hh,AR,AS,O⟩:=qh A4 (by omega);have AI:A0=sz:=by
      have Z:0<((aj.drop off).take len).length:=by omega
      have AJ:=A' (((aj.drop off).take len)[0]'Z) (ahV Z)
      have AK:=O.2.2.1 (((aj.drop off).take len)[0]'Z) (acJ (afM (ahV Z)))
      rw[<-AJ,<-AK]
     subst AI;have AL:L.sz=A0:=A4.1;have A6:=(O.drop off).take len (by simp;omega);refine⟨_,⟨λw'=>by simp[Builtin.lenOf,AE],λn J w' hw=>?_,A6⟩⟩;have V:L.dZ<w.heap.size:=hh.lt;exact run_firstCells_some (P:=P) w' A0 n ⟨L.dZ,L.base+off*L.sz,none⟩ len cap _ ((A6.take n J).1.trans (by rw[aic,akW J])) (λj u E=>by
      rw[gu,mb (hw L.dZ V),iF hh,AL];rw[abW]at E;split at E
      ·rw[abW]at E;split at E
       ·rw[acx,abW]at E;split at E
        ·rw[acx]at E;rw[abY];simpa using E
        ·cases E
       ·cases E
      ·cases E)
  ·cases H
 ·cases H
section
variable {P:Program}
def lD(P:Program)(u:TypeId):Bool:=
 match P.underlying u with
 |some (.slice _)=>true
 |some .string=>true
 |_=>false
theorem Cp{u:TypeId}(h:lD P u=true):(∃e,P.underlying u=some (.slice e))\/P.underlying u=some .string:=by
 unfold lD at h;split at h
 ·rename_i e V;exact .inl ⟨e,V⟩
 ·rename_i V;exact .inr V
 ·cases h
structure Ji(P:Program)(w:World)(F:Nat->Prop)(u:TypeId)(sz:Nat)(z:Value)(E:List D)(x:Value)(J:List Value):Prop where
 aj:cA w F sz E J
 kind:(lD P u=true/\Mc P w F sz E x J)\/((∃k,P.underlying u=some (.int k))/\(∃AX,x=.int AX E.length)/\E.length<=4611686018427387904/\z.cells.size=sz/\J=(Builtin.zeroCells z.cells E.length).toList)
theorem ML{n:Nat}(h:n<=4611686018427387904):IntKind.i64.wrap (n:Int)=(n:Int):=IntWalk.i64_in _ (by omega)
theorem zN{z:Array Value}{n:Nat}(h:n*z.size=0):Builtin.zeroCells z n=#[]:=by
 apply Array.eq_empty_of_size_eq_zero;rw[size_zeroCells];exact h
theorem ue{w:World}{t u ty e:TypeId}{i:TypeInfo}{z:Value}(A':P.underlying t=some (.slice e))(hi:P.info? e=some i)(U:i.zero=some z)
 {ao:Option Addr} {len cap:Nat} {F x J} (I:Ji P w F u i.size z [] x J) (hle:len<=cap):
 (Builtin.append_ #[t,u] ty #[.slice ao len cap,x]).run P w=.ok (.slice ao len cap) w:=by
 rcases I.kind with ⟨hu,I⟩|⟨⟨k,V⟩,⟨AX,rfl⟩,_,A9,rfl⟩
 ·have W:J=[]:=abO (by simpa using I.aj.1);subst W;have BI:=I.len w;have AY:=I.first w (λ_ _=>rfl);simp only[aaw]at BI AY;rcases Cp hu with ⟨AZ,V⟩|V<;>cases ao<;>
   simp[Builtin.append_,run_underlying A',run_underlying V,sizeOf,typeInfo,hi,BI,AY,hle,storeCells]
 ·have w0:=ML (n:=0) (by omega);simp only[Int.ofNat_zero,Int.natCast_zero]at w0;cases ao<;>simp[Builtin.append_,run_underlying A',run_underlying V,sizeOf,typeInfo,hi,w0,asInt,asIntOf,hle,storeCells]
theorem run_append_fits{w:World}{t u ty e:TypeId}{i:TypeInfo}{z:Value}(A':P.underlying t=some (.slice e))(hi:P.info? e=some i)(U:i.zero=some z)
 {g b len cap:Nat} {F E x J} (I:Ji P w F u i.size z E x J) {cur:Array Value} {e':TypeId} (AN:fJ w g cur e')
 (A0:len+E.length<=cap) (Ax:b+len*i.size+J.length<=cur.size) (Be:E.length*i.bytes<=140737488355328):
 (Builtin.append_ #[t,u] ty #[.slice (some ⟨g,b,none⟩) len cap,x]).run P w=.ok (.slice (some ⟨g,b,none⟩) (len+E.length) cap) (w.setRow g (bC cur.toList (b+len*i.size) J).toArray):=by
 obtain⟨Bf,AN,Bg⟩:=AN;have A_:=lC (P:=P) g (b+len*i.size) e' Bf J 0 cur w AN Bg (by simpa using Ax) (λx AB=>qW (I.aj.2.1 x AB));simp only[ah0]at A_;rw[dU _ _ _ (by simpa using Ax)];rcases I.kind with ⟨hu,I⟩|⟨⟨k,V⟩,⟨AX,rfl⟩,Ay,A9,rfl⟩
 ·have AY:=I.first w (λ_ _=>rfl);rcases Cp hu with ⟨AZ,V⟩|V<;>simp[Builtin.append_,run_underlying A',run_underlying V,sizeOf,typeInfo,hi,I.len,A0,AY,gu,A_]
 ·have wn:=ML Ay;have A2:¬((E.length:Int)<0):=by omega
  have A6:¬(281474976710656<(E.length:Int)*(i.bytes:Int)):=by
   have:(E.length:Int)*(i.bytes:Int)=((E.length*i.bytes:Nat):Int):=by simp
   rw[this];omega
  by_cases A3:E.length*i.size=0
  ·have Az:=zN (z:=z.cells) (n:=E.length) (by rw[A9];exact A3);rw[Az]at A_⊢;simp only[Array.toList_empty]at A_;simp[Builtin.append_,run_underlying A',run_underlying V,sizeOf,typeInfo,hi,wn,asInt,asIntOf,A2,A6,A3,A0,gu,A_]
  ·simp[Builtin.append_,run_underlying A',run_underlying V,sizeOf,typeInfo,zeroValue,hi,U,wn,asInt,asIntOf,A2,A6,A3,A0,gu,A_]
theorem wF{w:World}{t u ty e:TypeId}{i:TypeInfo}{z:Value}(A':P.underlying t=some (.slice e))(hi:P.info? e=some i)(U:i.zero=some z)
 {ao:Option Addr} {len cap:Nat} {F E x J} (I:Ji P w F u i.size z E x J) (A4:List Value)
 (hold:∀w',w'.heap=w.heap->(Builtin.firstCells i.size len (.slice ao len cap)).run P w'=.ok A4.toArray w')
 (A0:cap<len+E.length) (CG:len+E.length<=9223372036854775807) (Ax:Builtin.nextslicecap (len+E.length) cap*i.bytes<=281474976710656) (Be:E.length*i.bytes<=140737488355328):
 (Builtin.append_ #[t,u] ty #[.slice ao len cap,x]).run P w=
  .ok (.slice (some ⟨w.heap.size,0,none⟩) (len+E.length) (grownCap w (len+E.length) cap e))
   (w.drew.alloc (.cells (A4.toArray++J.toArray++Builtin.zeroCells z.cells (grownCap w (len+E.length) cap e-(len+E.length))) e)):=by
 have W:¬(len+E.length<=cap):=by omega
 have B':¬(9223372036854775807<((len:Int)+(E.length:Int))):=by omega
 have B0:¬(281474976710656<Builtin.nextslicecap (len+E.length) cap*i.bytes):=by omega
 have B1:=hold w.drew rfl;rcases I.kind with ⟨hu,I⟩|⟨⟨k,V⟩,⟨AX,rfl⟩,Ay,A9,rfl⟩
 ·have AY:=I.first w.drew (λ_ _=>rfl);rcases Cp hu with ⟨AZ,V⟩|V<;>
   (simp[Builtin.append_,run_underlying A',run_underlying V,sizeOf,typeInfo,zeroValue,hi,U,I.len,W,B',B0,Question.forced,AY,B1,jw,grownCap]
    congr 2;apply Array.ext';simp[acD])
 ·have wn:=ML Ay;have A2:¬((E.length:Int)<0):=by omega
  have A6:¬(281474976710656<(E.length:Int)*(i.bytes:Int)):=by
   have:(E.length:Int)*(i.bytes:Int)=((E.length*i.bytes:Nat):Int):=by simp
   rw[this];omega
  by_cases A3:E.length*i.size=0
  ·have Az:=zN (z:=z.cells) (n:=E.length) (by rw[A9];exact A3);rw[Az];simp[Builtin.append_,run_underlying A',run_underlying V,sizeOf,typeInfo,zeroValue,hi,U,wn,asInt,asIntOf,A2,A6,A3,W,B',B0,Question.forced,B1,jw,grownCap]
  ·simp[Builtin.append_,run_underlying A',run_underlying V,sizeOf,typeInfo,zeroValue,hi,U,wn,asInt,asIntOf,A2,A6,A3,W,B',B0,Question.forced,B1,jw,grownCap]
end
theorem uY{z:Array Value}{n:Nat}(h:∀v∈z,cF v=true):∀v∈Builtin.zeroCells z n,cF v=true:=by
 intro v Y;simp only[Builtin.zeroCells,Array.mem_map,Array.mem_range]at Y;obtain⟨i,hi,rfl⟩:=Y;have BJ:0<z.size:=by
  rcases alj z.size with A3|A3
  ·simp[A3]at hi
  ·exact A3
 have B2:i%z.size<z.size:=Nat.mod_lt _ BJ;rw[getElem!_pos z _ B2];exact h _ (by simp)
theorem aif{P:Program}{t:TypeId}{k}(h:tk P t=.int k):P.underlying t=some (.int k):=by
 unfold tk at h;split at h<;>simp_all
def VD(O:D):AV->Option (Bool×List D)
 | .d (.int _ n)=>some (decide (0<=n)&&decide (n<=4611686018427387904),List.replicate n.toNat O)
 |_=>none
def adh(b:Bool):Option (Bool×List D)->Option (Bool×List D)
 |some (c,E)=>some (c&&b,E)
 |none=>none
def Cq(P:Program)(m:Mem)(sz:Nat)(O:D)(u:TypeId)(x:AV):Option (Bool×List D):=
 match tk P u with
 | .int _=>VD O x
 |_=>adh (lD P u) (iS m sz x)
theorem cA.aqd{w:World}{F:Nat->Prop}{z:Array Value}{sz:Nat}{O:D}(AM:∀v∈z,cF v=true)(A9:z.size=sz)(V:O.size=sz)(Y:∃v,aQ w F O v/\v.cells=z)(n:Nat):
 cA w F sz (List.replicate n O) (Builtin.zeroCells z n).toList:=by
 refine⟨by simp[size_zeroCells,A9],λv Y=>uY AM v (by simpa using Y),λd Bh=>by rw[(List.mem_replicate.1 Bh).2];exact V,λi d hi=>?_⟩;obtain⟨BK,rfl⟩:=D1.1 hi;obtain⟨v,A2,A6⟩:=Y;refine⟨v,by simpa using A2,λj c T=>?_⟩;have B3:j<z.size:=by rw[<-A6];exact (acU.1 T).1
 simp at BK;have B2:i*sz+j<n*z.size:=by
  rw[A9];have:i*sz+sz<=n*sz:=by rw[<-akj];exact abS _ BK
  omega
 simp only[Builtin.zeroCells,ah1,Array.getElem?_map,Array.getElem?_range];rw[aat B2];simp only[ah3];have e:(i*sz+j)%z.size=j:=by rw[<-A9,Nat.mul_comm,Nat.mul_add_mod,Nat.mod_eq_of_lt B3]
 rw[e,getElem!_pos z j B3,<-T,A6];simp[B3]
theorem Rf{P:Program}{S:St}{φ G w}(hm:bz φ G S.mem w){u:TypeId}{i:TypeInfo}{z:Value}{O:D}(AM:∀v∈z.cells,cF v=true)(A9:z.cells.size=i.size)(Aq:O.size=i.size)(Bi:∃v,aQ w (Fo G φ S.mem) O v/\v.cells=z.cells)
 {x:AV} {v:Value} (AB:aH φ w (Fo G φ S.mem) x v) {c E} (I:Cq P S.mem i.size O u x=some (c,E)) (AD:c=true) (B4:∀d∈E,d.size=i.size):
 ∃J,Ji P w (Fo G φ S.mem) u i.size z E v J:=by
 unfold Cq at I;split at I
 ·rename_i k AE;unfold VD at I;split at I
  ·rename_i AX n;cases I;simp only[Ds,aak]at AD;cases AB with
   |d _ _ AB=>
    cases AB;have W:((List.replicate n.toNat O).length:Int)=n:=by simp;omega
    refine⟨_,cA.aqd AM A9 Aq Bi n.toNat,.inr ⟨⟨k,aif AE⟩,⟨AX,by rw[W]⟩,by simp;omega,A9,by simp⟩⟩
  ·cases I
 ·rename_i AE;cases M:iS S.mem i.size x with
  |none=>rw[M]at I;cases I
  |some y=>
   obtain⟨CH,CI⟩:=y;rw[M]at I;cases I;simp only[Ds]at AD;obtain⟨J,W⟩:=MJ (P:=P) hm AB M AD.1 B4;exact⟨J,W.aj,.inl ⟨AD.2,W⟩⟩
def AI(P:Program)(m:Mem)(u:TypeId)(sz AO:Nat)(O:D)(s x:AV):dO:=
 match s,x with
 | .vec k ar off len,.vec BL BM 0 1=>match Mem.get m k,Mem.get m BL with
  |some ⟨_,v,.vv aj none⟩,some ⟨_,BN,.box [.lit (.slice none 0 0)]⟩=>
   .dq (lD P u=true/\BN=BM/\v=ar/\sz=1/\O.size=1/\off+len<=aj.length/\(len+1)*AO<=140737488355328/\len+1<=4611686018427387904) (.vec k (ar+1) 0 (len+1)) ⟨k,ar+1,.vv ((aj.drop off).take len++[[]]) none⟩
  |_,_=>.no
 |_,_=>.no
theorem MN{φ φ':bP}{w w':World}{F F':Nat->Prop}{L:Loc}{aj:List (List D)}(h:mB φ w F L aj none){off len:Nat}(hle:off+len<=aj.length)
 (L':Loc) (U:L'.sz=1) (I:L'.da=(L.da.drop off).take len++[none]) (B5:len+1<=L'.cap) (H:∀b,some b∈L.da->b≠L'.dZ) {Aa:Array Value} {BO:TypeId} (M:fJ w' L'.dZ Aa BO) (B4:Aa.size=L'.base+L'.cap) (A2:∀v∈Aa,cF v=true)
 (hold:∀i,i<len->∃(arr:Array Value)(elem:TypeId),0<L.cap/\fJ w L.dZ arr elem/\Aa[L'.base+i]?=arr[L.base+off+i]?) (Ag:Aa[L'.base+len]?=some (.slice none 0 0))
 (V:∀d u,aQ w F d u->aQ w' F' d u) (hw:∀b,some b∈L.da->w'.heap[b]?=w.heap[b]?):mB φ' w' F' L' ((aj.drop off).take len++[[]]) none:=by
 obtain⟨⟨g1,g2,g3⟩,g4,g5,g6⟩:=h;have BP:((aj.drop off).take len).length=len:=by simp;omega
 have BQ:((L.da.drop off).take len).length=len:=by simp;omega
 have Bj:∀b,some b∈L'.da->some b∈L.da:=by
  intro b H;rw[I]at H;rcases aa0.1 H with H|H
  ·exact acJ (afM H)
  ·simp at H
 have BR:∀(i b:Nat),L'.da[i]?=some (some b)->i<len/\L.da[off+i]?=some (some b):=by
  intro i b H;rw[I]at H;by_cases hi:i<len
  ·rw[aaF (by omega),abW,aat hi,acx]at H;exact⟨hi,H⟩
  ·rw[abI (by omega),BQ]at H;cases BS:i-len with
   |zero=>rw[BS]at H;simp at H
   |succ n=>rw[BS]at H;simp at H
 refine⟨⟨U,by simp;omega,by rw[I];simp;omega⟩,λi j b hi T=>?_,λb Bk=>⟨by omega,H b (Bj b Bk)⟩,λ_=>?_⟩
 ·have A6:=g4 (off+i) (off+j) b (BR i b hi).2 (BR j b T).2;omega
 ·refine⟨Aa,BO,M,B4,A2,λi xs o hi AA=>?_,λx AB=>by cases AB⟩;by_cases B6:i<len
  ·rw[aaF (by omega),abW,aat B6,acx]at hi;rw[I,aaF (by omega),abW,aat B6,acx]at AA;obtain⟨arr,elem,A5,Bl,hold⟩:=hold i B6;obtain⟨Bm,CJ,q1,q2,q3,Bn,_⟩:=g6 A5;have Bo:Bm=arr:=by
    obtain⟨f1,Bp,_⟩:=q1;obtain⟨f2,AZ,_⟩:=Bl;rw[Bp]at AZ;simp only[aa1,Obj.cells.injEq]at AZ;exact AZ.1
   subst Bo;rw[hold,abY];exact (Bn (off+i) xs o hi AA).mono (λd u _ Bq=>V d u Bq) (λb e=>hw b (by subst e;exact aay AA))
  ·have Br:i=len:=by
    have:=(D1.1 hi).1;simp only[aam,af4,BP]at this;omega
   subst Br;rw[abI (by omega),BP]at hi;rw[I,abI (by omega),BQ]at AA;simp at hi AA;subst hi;subst AA;exact⟨rfl,none,Ag⟩
theorem aih(P:Program)(S:St)(o:Oper)(s x:Operand)(t u:TypeId)(AA:o.op=.call {callee:=.builtin .append,args:=#[s,x],argTypes:=#[t,u]})
 (I:(S.au s).1=true) (AB:(S.au x).1=true) {e:TypeId} (A':P.underlying t=some (.slice e)) {i:TypeInfo} {z:Value} (hi:P.info? e=some i) (U:i.zero=some z) {O:D} (Ab:z.cells.size=O.size) (AM:∀v∈z.cells,cF v=true):
 aM P S o (AI P S.mem u i.size i.bytes O (S.au s).2 (S.au x).2):=by
 have AF:∀(a:Act)(w w':World)(v:Value),(Builtin.append_ #[t,u] o.type #[a.eval s,a.eval x]).run P w=.ok v w'->(execOp a.eval o).run P w=.ok (.value v) w':=by
  intro a w w' v h;simp[execOp,AA,resolve,invoke,builtin,h]
 unfold AI;split
 ·rename_i k ar off len BL BM Ah Ai;split
  ·rename_i key v aj CK BN AN Bs;refine aM.uW ?_;rintro ⟨Ar,rfl,rfl,Ac,A9,hle,H,AS⟩ φ G a w M;obtain⟨hm,AE,L,A5,A1,A7⟩:=M.mem.get AN;simp only at AE A1 A7;subst AE;obtain⟨CL,BT,B7,Bt,BU,⟨Bu,Bv,CM⟩,As,CN,BV,Bw,_,Bx⟩:=M.mem.get Bs;simp only at BT BU;subst BT;have Y:=M.au s I;have B8:=M.au x AB;rw[Ah]at Y;rw[Ai]at B8;have By:As[0]?=some (.slice none 0 0):=by
    have A3:0<As.size:=by rw[Bw];simp
    have:=Bx 0 _ As[0] rfl (by simp[A3]);generalize Z:As[0]=q at this;cases this;simp[A3,Z]
   generalize hex:a.eval x=CO at B8;cases B8 with
   |vec _ _ _ _ _ L' AP _ h _=>
    rw[Bt]at AP;cases AP;obtain⟨CP,BW,rfl,CQ,Bz⟩:=h BU.symm;clear h;obtain⟨rfl,_⟩:=Bz (by omega);have A8:Ji P w (Fo G φ S.mem) u i.size z [.list []] (.slice (some ⟨B7.dZ,B7.base+0*B7.sz,none⟩) 1 BW) [.slice none 0 0]:=by
     have Aj:cA w (Fo G φ S.mem) i.size [.list []] [.slice none 0 0]:=by
      refine⟨by simp[Ac],by simp[cF],by simp[Ac,D.size],λn d W=>?_⟩;cases n with
      |zero=>simp at W;subst W;exact⟨.slice none 0 0,.nil none 0 (λ_=>rfl),λj c T=>by simpa [Value.cells]using T⟩
      |succ n=>simp at W
     refine⟨Aj,.inl ⟨Ar,λw'=>by simp[Builtin.lenOf],λn W w' Ad=>?_,Aj⟩⟩;refine run_firstCells_some (P:=P) w' i.size n _ 1 BW _ (by have:n<=1:=W;simp[Ac];omega) (λj c T=>?_);rw[gu,mb (Ad _ BV.lt),iF BV,Bu,Bv];rw[abW]at T;split at T
     ·cases j with
      |zero=>simp at T;subst T;simpa using By
      |succ j=>simp at T
     ·cases T
    generalize AC:a.eval s=BX at Y;cases Y with
    |vec _ _ _ _ _ L' AP _ h _=>
     rw[A5]at AP;cases AP;obtain⟨ao,cap,rfl,BY,Ae⟩:=h A1.symm;clear h;have BZ:∀b,some b∈L.da->b<w.heap.size:=λb H=>M.mem.Hj ⟨_,hm,L,A5,.inr H⟩;have C':∀b,some b∈(L.da.drop off).take len++[none]->some b∈L.da:=by
      intro b H;rcases aa0.1 H with H|H
      ·exact acJ (afM H)
      ·simp at H
     have grow:∀(A4:List Value),A4.length=len->(∀q∈A4,cF q=true)->(∀n,n<len->∃(arr:Array Value)(elem:TypeId),0<L.cap/\fJ w L.dZ arr elem/\A4[n]?=arr[L.base+off+n]?)->
      (∀w',w'.heap=w.heap->(Builtin.firstCells i.size len (.slice ao len cap)).run P w'=.ok A4.toArray w')->cap<len+1->
      ∃vv w' φ',Hm P o a w vv w'/\aH φ' w' (Fo G φ' (Mem.set S.mem ⟨key,v+1,.vv ((aj.drop off).take len++[[]]) none⟩)) (.vec key (v+1) 0 (len+1)) vv/\
       bz φ' G (Mem.set S.mem ⟨key,v+1,.vv ((aj.drop off).take len++[[]]) none⟩) w'/\bk φ S.mem w φ' (Mem.set S.mem ⟨key,v+1,.vv ((aj.drop off).take len++[[]]) none⟩) w'/\∀k,k≠key->φ' k=φ k:=by
      intro A4 Ak C0 hold C1 A0;have B9:=grownCap_ge w (len+1) cap e;have C2:z.cells.size=1:=by rw[Ab];exact A9
      have At:=wF (P:=P) (ty:=o.type) A' hi U A8 A4 C1 (by simpa using A0) (by simp;omega) (growslice_fits (by simpa using A0) (by simpa using H)) (by simp;have:=abS i.bytes (alk 1 len);omega);simp only[af4]at At;obtain⟨φ',AG,AH,AJ,AK⟩:=M.mem.Zv (e:=⟨key,v,.vv aj none⟩) hm A5 A1 w.drew rfl rfl rfl rfl
       (A4.toArray++[Value.slice none 0 0].toArray++Builtin.zeroCells z.cells (grownCap w (len+1) cap e-(len+1))) e (.vv ((aj.drop off).take len++[[]]) none)
       ⟨v+1,w.heap.size,1,grownCap w (len+1) cap e,0,(L.da.drop off).take len++[none]⟩ rfl
       (λb H=>by
        rcases H with ⟨_,H⟩|H
        ·exact .inr H
        ·exact .inl (.inr (C' b H))) (λφ' Au BA AT Ag C3=>by
       refine MN A7 hle _ rfl rfl (by simp only;omega) (λb H=>by have:=BZ b H;simp only;omega) (.new Ag) ?_ ?_ ?_ ?_ AT (λb H=>C3 b (BZ b H))
       ·simp only[Array.size_append,af2,Ak,af4,size_zeroCells,C2];omega
       ·intro q Z;simp only[Array.mem_append]at Z;rcases Z with (Z|Z)|Z
        ·exact C0 q (by simpa using Z)
        ·simp at Z;subst Z;rfl
        ·exact uY AM q Z
       ·intro n W;obtain⟨arr,elem,A2,A6,Al⟩:=hold n W;refine⟨arr,elem,A2,A6,?_⟩;rw[<-Al];simp only[ahI];rw[ah2 (by simp;omega),ah2 (by simp;omega),ahL]
       ·simp only[ahI];rw[ah2 (by simp;omega),Array.getElem?_append_right (by simp;omega)];simp[Ak])
      refine⟨_,_,φ',.inl (AF a w _ _ (by rw[AC,hex];exact At)),?_,AG,AH,AK⟩;exact .vec key (v+1) 0 _ _ _ AJ (aad _) (λ_=>⟨_,_,rfl,B9,λ_=>⟨by simp,by simp⟩⟩) rfl
     by_cases An:0<L.cap
     ·obtain⟨arr,elem,hh,Av,Af,_,_⟩:=A7.2.2.2 An;have B_:∀b,some b∈L.da->b≠L.dZ:=λb H=>(A7.2.2.1 b H).2;have CS:∀b,some b∈L.da->aD.db L (.vv aj none) b:=λb H=>.inr H;have C4:∀b,some b∈(L.da.drop off).take len++[none]->some b∈L.da:=by
       intro b H;rcases aa0.1 H with H|H
       ·exact acJ (afM H)
       ·simp at H
      by_cases A0:len+[D.list []].length<=cap
      ·simp only[af4]at A0;obtain⟨rfl,BB⟩:=Ae (by omega);have AQ:L.base+off*L.sz+len*i.size+[Value.slice none 0 0].length<=arr.size:=by rw[Av,A7.1.1,Ac];simp;omega
       have AU:=run_append_fits (P:=P) (ty:=o.type) A' hi U A8 hh (by simpa using A0) AQ (by simp;have:=abS i.bytes (alk 1 len);omega);have Ba:=AF a w _ _ (by rw[AC,hex];exact AU);rw[A7.1.1,Ac,alb,alb]at Ba AQ;have Ao:L.base+off+len+[Value.slice none 0 0].length<=arr.toList.length:=by simpa using AQ
       obtain⟨φ',AG,AH,AJ,AK⟩:=M.mem.MG (e:=⟨key,v,.vv aj none⟩) hm A5 A1 (b0:=L.dZ) (.inl ⟨An,rfl⟩) (bC arr.toList (L.base+off+len) [Value.slice none 0 0]).toArray ⟨v+1,L.dZ,1,L.cap-off,L.base+off,(L.da.drop off).take len++[none]⟩ (alc _) (λhh=>by simp only at A1 hh;omega) (.vv ((aj.drop off).take len++[[]]) none)
        (λb H=>by
         rcases H with ⟨_,H⟩|H
         ·exact .inl ⟨An,H⟩
         ·exact .inr (C4 b H)) (λφ' Au BA AT=>by
        refine MN A7 hle _ rfl rfl (by simp only;omega) B_ (hh.setRow _ (by rw[af2,bR _ _ _ Ao];simp)) ?_ ?_ ?_ ?_ AT ?_
        ·rw[af2,bR _ _ _ Ao];simp only[ab9,Av];omega
        ·intro q Z;rcases mH Ao (by simpa using Z)with Z|Z
         ·exact Af q (by simpa using Z)
         ·simp at Z;subst Z;rfl
        ·intro n W;refine⟨arr,elem,An,hh,?_⟩;simp only
         rw[ahL,iG _ _ _ Ao,aat (by omega)];simp
        ·simp only
         rw[ahL,iG _ _ _ Ao,aab (by omega),aat (by simp)];simp
        ·intro b H;exact qJ w L.dZ b _ (B_ b H))
       refine⟨_,_,φ',.inl Ba,?_,AG,AH,AK⟩;exact .vec key (v+1) 0 _ _ _ AJ (aad _) (λ_=>⟨_,_,rfl,by simpa using A0,λ_=>⟨by simp,by simp only;omega⟩⟩) rfl
      ·have C5:cap<len+1:=by simpa using A0
       have BC:=A7.1.2.1;simp only[Option.toList_none,aaw,ah0]at BC;refine grow ((arr.toList.drop (L.base+off)).take len) (by simp;omega) (λq Z=>Af q (by simpa using acJ (afM Z))) (λn W=>⟨arr,elem,An,hh,?_⟩) (λw' Ad=>?_) C5
       ·rw[abW,aat W,acx];simp
       ·by_cases AW:len=0
        ·subst AW;cases ao with
         |none=>simp[Builtin.firstCells]
         |some a=>simp[Builtin.firstCells,loadCells,loadCellsFrom]
        ·obtain⟨rfl,BB⟩:=Ae (by omega);refine run_firstCells_some (P:=P) w' i.size len _ len cap _ (by simp[Ac];omega) (λj c T=>?_);rw[gu,mb (w:=w) (w':=w') (by rw[Ad]),iF hh,A7.1.1,alb];rw[abW]at T;split at T
         ·rw[acx]at T;simpa using T
         ·cases T
     ·have BC:=A7.1.2.1;simp only[Option.toList_none,aaw,ah0]at BC;have AW:len=0:=by omega
      have C6:cap=0:=by
       rcases alj cap with A3|A3
       ·exact A3
       ·have:=(Ae A3).2;omega
      subst AW;subst C6;refine grow [] rfl (by simp) (λn W=>by omega) (λw' Ad=>?_) (by omega);cases ao with
      |none=>simp[Builtin.firstCells]
      |some a=>simp[Builtin.firstCells,loadCells,loadCellsFrom]
  ·trivial
 ·trivial
def uZ(P:Program)(m:Mem)(BD:Nat)(t:TypeId)(u:TypeId)(s x:AV):dO:=
 match tk P t with
 | .slice e=>match gr P e,Cn P e,oM P e with
  |some sz,some AO,some O=>match Cq P m sz O u x with
   |some (c,E)=>match s with
    | .vec k ar off len=>match Mem.get m k with
     |some ⟨_,v,.vec Bb aj⟩=>.dq (c/\O.size=sz/\v=ar/\off+len<=aj.length/\Bb=sz/\(∀d∈E,d.size=sz)/\(len+E.length)*AO<=140737488355328/\len+E.length<=4611686018427387904)
      (.vec k (ar+1) 0 (len+E.length)) ⟨k,ar+1,.vec sz ((aj.drop off).take len++E)⟩
     |_=>.no
    | .lit (.slice none 0 0)=>match Mem.get m BD with
     |some ⟨_,v,_⟩=>.dq (c/\O.size=sz/\(∀d∈E,d.size=sz)/\E.length*AO<=140737488355328/\E.length<=4611686018427387904)
      (.vec BD (v+1) 0 E.length) ⟨BD,v+1,.vec sz E⟩
     |_=>.no
    |_=>.no
   |none=>AI P m u sz AO O s x
  |_,_,_=>.no
 |_=>.no
theorem gO{P:Program}{t e:TypeId}(h:tk P t=.slice e):P.underlying t=some (.slice e):=by
 unfold tk at h;split at h<;>simp_all
theorem Rg{P:Program}{e:TypeId}{sz AO:Nat}{O:D}(A2:gr P e=some sz)(A6:Cn P e=some AO)(Al:oM P e=some O):
 ∃i z,P.info? e=some i/\i.size=sz/\i.bytes=AO/\i.zero=some z/\z.cells.size=O.size/\(∀v∈z.cells,cF v=true)/\∀w' F,∃v,aQ w' F O v/\v.cells=z.cells:=by
 unfold gr at A2;unfold Cn at A6;cases hi:P.info? e with
 |none=>simp[hi]at A2
 |some i=>
  simp[hi]at A2 A6;obtain⟨z,AF,C7,C8,C9⟩:=Hp Al default;cases U:i.zero with
  |none=>simp[zeroValue,typeInfo,hi,U,unsupported]at AF
  |some CA=>
   simp[zeroValue,typeInfo,hi,U]at AF;subst AF;exact⟨i,CA,rfl,A2,A6,U,C7,C8,C9⟩
theorem aks(P:Program)(S:St)(o:Oper)(s x:Operand)(t u:TypeId)(AA:o.op=.call {callee:=.builtin .append,args:=#[s,x],argTypes:=#[t,u]})
 (I:(S.au s).1=true) (AB:(S.au x).1=true):aM P S o (uZ P S.mem (keyOf o) t u (S.au s).2 (S.au x).2):=by
 have AF:∀(a:Act)(w w':World)(v:Value),(Builtin.append_ #[t,u] o.type #[a.eval s,a.eval x]).run P w=.ok v w'->(execOp a.eval o).run P w=.ok (.value v) w':=by
  intro a w w' v h;simp[execOp,AA,resolve,invoke,builtin,h]
 unfold uZ;split
 ·rename_i e CB;have A':=gO CB;split
  ·rename_i sz AO O A2 A6 Al;obtain⟨i,z,hi,rfl,rfl,U,Ab,AM,Aq⟩:=Rg A2 A6 Al;split
   ·rename_i c E Ar
    --CT CU a new block
    have grow:∀{φ G}{a:Act}{w:World}(M:Rel φ G S a w){J:List Value}(A8:Ji P w (Fo G φ S.mem) u i.size z E (a.eval x) J){key ar:Nat}{cont:aD}(hm:(⟨key,ar,cont⟩:cq)∈S.mem){L:Loc}(A5:φ key=some L)(A1:L.ar=ar)
     (ao:Option Addr) (len cap:Nat) (AC:a.eval s=.slice ao len cap) (A4:List Value) (AR:List D) (Bc:cA w (Fo G φ S.mem) i.size AR A4) (Ak:AR.length=len)
     (hold:∀w',w'.heap=w.heap->(Builtin.firstCells i.size len (.slice ao len cap)).run P w'=.ok A4.toArray w')
     (A0:cap<len+E.length) (H:(len+E.length)*i.bytes<=140737488355328) (AS:len+E.length<=4611686018427387904) (AL:O.size=i.size),
     ∃v w' φ',Hm P o a w v w'/\aH φ' w' (Fo G φ' (Mem.set S.mem ⟨key,ar+1,.vec i.size (AR++E)⟩)) (.vec key (ar+1) 0 (len+E.length)) v/\
      bz φ' G (Mem.set S.mem ⟨key,ar+1,.vec i.size (AR++E)⟩) w'/\bk φ S.mem w φ' (Mem.set S.mem ⟨key,ar+1,.vec i.size (AR++E)⟩) w'/\∀k,k≠key->φ' k=φ k:=by
     intro φ G a w M J A8 key ar cont hm L A5 A1 ao len cap AC A4 AR Bc Ak hold A0 H AS AL;have B9:=grownCap_ge w (len+E.length) cap e;have At:=wF (P:=P) (ty:=o.type) A' hi U A8 A4 hold A0 (by omega) (growslice_fits A0 H) (by have:=abS i.bytes (alk E.length len);omega);have Aj:cA w (Fo G φ S.mem) i.size (AR++E) (A4++J):=Bc.append A8.aj;obtain⟨φ',AG,AH,AJ,AK⟩:=M.mem.fresh (e:=⟨key,ar,cont⟩) hm A5 A1 w.drew rfl rfl rfl rfl
      (A4.toArray++J.toArray++Builtin.zeroCells z.cells (grownCap w (len+E.length) cap e-(len+E.length))) e i.size (grownCap w (len+E.length) cap e) (.vec i.size (AR++E)) (λ_ H=>H.2) (λφ' hle BA AT Ag=>by
       refine y5 (cs:=A4++J) (rest:=(Builtin.zeroCells z.cells (grownCap w (len+E.length) cap e-(len+E.length))).toList) (elem:=e) rfl rfl (Aj.mono AT) ?_ (by simp;omega) ?_ (λ_=>?_)
       ·intro v Y;exact uY AM v (by simpa using Y)
       ·have A9:z.cells.size=i.size:=by
         rw[Ab];exact AL
        rw[aam,Aj.1];simp only[ab9,size_zeroCells,A9,aam,Ak,<-af6];congr 1;omega
       ·refine fJ.new ?_;rw[Ag];congr 2;apply Array.ext';simp)
     refine⟨_,_,φ',.inl (AF a w _ _ (by rw[AC];exact At)),?_,AG,AH,AK⟩;exact .vec key (ar+1) 0 _ _ _ AJ (aad _) (λ_=>⟨_,_,rfl,B9,λ_=>⟨by simp,by simp⟩⟩) rfl
    split
    ·rename_i k ar off len Ah;split
     ·rename_i key v Bb aj AN;refine aM.uW ?_;rintro ⟨AD,AL,rfl,hle,rfl,BE,H,AS⟩ φ G a w M;obtain⟨hm,AE,L,A5,A1,A7⟩:=M.mem.get AN;simp only at AE;subst AE;have Y:=M.au s I;have Ai:=M.au x AB;rw[Ah]at Y;obtain⟨J,A8⟩:=Rf (P:=P) M.mem AM (by rw[Ab];exact AL) AL (Aq _ _) Ai Ar AD BE;generalize AC:a.eval s=BX at Y;cases Y with
      |vec _ _ _ _ _ L' AP _ h _=>
       rw[A5]at AP;cases AP;obtain⟨ao,cap,rfl,BY,Ae⟩:=h A1.symm;clear h;have BF:L.sz=i.size:=A7.1;have BG:((aj.drop off).take len).length=len:=by simp;omega
       by_cases A0:len+E.length<=cap
       ·by_cases B5:cap=0
        · --nothing CV nothing
         have Aw:E=[]:=abO (by omega);have AW:len=0:=by omega
         subst Aw;subst AW;have AU:=ue (P:=P) (ty:=o.type) (ao:=ao) A' hi U A8 BY;obtain⟨φ',AG,AH,AJ,AK⟩:=M.mem.dq (e':=⟨key,v+1,.vec i.size ((aj.drop off).take 0++[])⟩) hm A5 rfl (L':={L with ar:=v+1}) (by simp only at A1;simp;omega) (λhh=>by simp only at A1 hh;omega) rfl
          (w':=w) (λ_ _ _=>rfl) (aad _) (λ_ AA=>.inl AA) rfl rfl rfl (λφ' CC Au=>by
           obtain⟨g1,g2,g3,g4⟩:=A7;refine⟨g1,by simp,by simp,λAD=>?_⟩;obtain⟨arr,elem,f1,f2,f3,f4⟩:=g4 AD;exact⟨arr,elem,f1,f2,f3,by simp⟩)
         refine⟨_,w,φ',.inl (AF a w w _ (by rw[AC];exact AU)),?_,AG,AH,AK⟩;exact .vec key (v+1) 0 _ _ _ AJ (aad _) (λ_=>⟨_,_,rfl,by simp,λh=>by omega⟩) rfl
        ·obtain⟨rfl,BB⟩:=Ae (by omega);obtain⟨arr,elem,hh,Av,Af,BH⟩:=qh A7 (by omega);obtain⟨B,Bd⟩:∃B,B=L.base+off*i.size:=⟨_,rfl⟩;have Ap:=((BH.drop off).take len (by simp;omega));have CD:(((arr.toList.drop L.base).take (aj.length*i.size)).drop (off*i.size)).take (len*i.size)=(arr.toList.drop B).take (len*i.size):=by
          have:off*i.size+len*i.size<=aj.length*i.size:=by rw[<-af6];exact abS _ hle
          rw[List.drop_take,List.take_take,akW (by omega),aoI,Bd]
         rw[CD]at Ap;have CE:=Ap.append A8.aj;have CF:=A8.aj.1;have CW:len*i.size+J.length<=(L.cap-off)*i.size:=by
          rw[CF,<-af6];exact abS _ (by omega)
         have CX:off*i.size+(L.cap-off)*i.size=L.cap*i.size:=by rw[<-af6];congr 1;omega
         have AQ:B+len*i.size+J.length<=arr.size:=by omega
         rw[BF,<-Bd]at AC;have AU:=run_append_fits (P:=P) (ty:=o.type) A' hi U A8 hh A0 AQ (by have:=abS i.bytes (alk E.length len);omega);obtain⟨φ',AG,AH,AJ,AK⟩:=M.mem.MG (e:=⟨key,v,.vec i.size aj⟩) hm A5 A1 (b0:=L.dZ) ⟨by omega,rfl⟩ (bC arr.toList (B+len*i.size) J).toArray ⟨v+1,L.dZ,L.sz,L.cap-off,B,[]⟩ (alc _) (λhh=>by simp only at A1 hh;omega) (.vec i.size ((aj.drop off).take len++E)) (λ_ H=>⟨by omega,H.2⟩) (λφ' Au BA AT=>by
          refine wD (pre:=arr.toList.take B) (cs:=(arr.toList.drop B).take (len*i.size)++J) (rest:=arr.toList.drop (B+len*i.size+J.length)) (elem:=elem) BF (CE.mono AT) ?_ ?_ ?_ (by rw[aam,BG];simp only;omega) ?_ (λ_=>?_)
          ·simp only[aic,ab9];omega
          ·intro z U;exact Af z (by simpa using afM U)
          ·intro z U;exact Af z (by simpa using acJ U)
          ·show _=(L.cap-off)*i.size;simp only[aam,aic,ahU,ab9];omega
          ·have e:=hh.setRow (bC arr.toList (B+len*i.size) J).toArray (by show (bC arr.toList _ _).length=_;rw[bR _ _ _ (by simpa using AQ)];simp);rw[dU _ _ _ (by simpa using AQ),List.take_add]at e;rw[dU _ _ _ (by simpa using AQ),List.take_add];simpa [acD]using e)
         refine⟨_,_,φ',.inl (AF a w _ _ (by rw[AC];exact AU)),?_,AG,AH,AK⟩;exact .vec key (v+1) 0 _ _ _ AJ (aad _) (λ_=>⟨_,_,rfl,A0,λ_=>⟨by simp,by simp only;omega⟩⟩) rfl
       ·by_cases B5:cap=0
        ·subst B5;have AW:len=0:=by omega
         subst AW;have:=grow M A8 hm A5 A1 ao 0 0 AC [] [] (cA.nil ..) rfl (λw' _=>by cases ao<;>simp[Builtin.firstCells,loadCells,loadCellsFrom]) (by omega) H AS AL;simpa using this
        ·obtain⟨rfl,BB⟩:=Ae (by omega);obtain⟨arr,elem,hh,Av,Af,BH⟩:=qh A7 (by omega);have Ap:=((BH.drop off).take len (by simp;omega));exact grow M A8 hm A5 A1 _ len cap AC _ ((aj.drop off).take len) Ap BG (λw' Ad=>by
          refine run_firstCells_some (P:=P) w' i.size len _ len cap _ (by rw[Ap.1,BG]) (λj u T=>?_);rw[gu,show w'.cell? ⟨L.dZ,L.base+off*L.sz+j,none⟩=w.cell? ⟨L.dZ,L.base+off*L.sz+j,none⟩ by simp[World.cell?,Ad],iF hh,BF];rw[abW]at T;split at T
          ·rw[acx,abW]at T;split at T
           ·rw[acx]at T;rw[abY];simpa using T
           ·cases T
          ·cases T) (by omega) H AS AL
     ·trivial
    ·rename_i Ah;split
     ·rename_i key v cont AN;refine aM.uW ?_;rintro ⟨AD,AL,BE,H,AS⟩ φ G a w M;obtain⟨hm,AE,L,A5,A1,A7⟩:=M.mem.get AN;simp only at AE A1;subst AE;have Y:=M.au s I;have Ai:=M.au x AB;rw[Ah]at Y;obtain⟨J,A8⟩:=Rf (P:=P) M.mem AM (by rw[Ab];exact AL) AL (Aq _ _) Ai Ar AD BE;generalize AC:a.eval s=BX at Y;cases Y;by_cases Aw:E=[]
      ·subst Aw;have AU:=ue (P:=P) (ty:=o.type) (ao:=none) (len:=0) (cap:=0) A' hi U A8 (aad _);obtain⟨φ',AG,AH,AJ,AK⟩:=M.mem.dq (e':=⟨keyOf o,v+1,.vec i.size []⟩) hm A5 rfl (L':=⟨v+1,0,i.size,0,0,[]⟩) (by simp only;omega) (λhh=>by simp only at hh;omega) rfl
        (w':=w) (λ_ _ _=>rfl) (aad _) (λ_ AA=>absurd AA.1 (by simp)) rfl rfl rfl (λφ' CC Au=>
         ⟨rfl,by simp,by simp,λAD=>by simp at AD⟩)
       refine⟨_,w,φ',.inl (AF a w w _ (by rw[AC];exact AU)),?_,AG,AH,AK⟩;exact .vec _ (v+1) 0 _ _ _ AJ (aad _) (λ_=>⟨_,_,rfl,by simp,λh=>by omega⟩) rfl
      ·have BJ:0<E.length:=List.length_pos_iff.2 Aw;have:=grow M A8 hm A5 A1 none 0 0 AC [] [] (cA.nil ..) rfl (λw' _=>by simp[Builtin.firstCells]) (by omega) (by simpa using H) (by simpa using AS) AL;simpa using this
     ·trivial
    ·trivial
   ·exact aih P S o s x t u AA I AB A' hi U Ab AM
  ·trivial
 ·trivial
def AL(P:Program)(m:Mem)(AJ:Nat)(t:TypeId)(l c:AV):dO:=
 match tk P t with
 | .slice e=>match gr P e,Cn P e,oM P e,l,c,Mem.get m AJ with
  |some sz,some AX,some A5,.d (.int .i64 n),.d (.int .i64 AY),some ⟨_,v,_⟩=>
   .dq (n=AY/\0<=n/\n*AX<=140737488355328/\n<=4611686018427387904/\A5.size=sz) (.vec AJ (v+1) 0 n.toNat) ⟨AJ,v+1,.vec sz (List.replicate n.toNat A5)⟩
  |_,_,_,_,_,_=>.no
 |_=>.no
theorem wrap_small{n:Int}(V:0<=n)(h:n<=4611686018427387904):IntKind.i64.wrap n=n:=IntWalk.i64_in _ (by omega)
theorem VH(z:Array Value)(n sz:Nat)(T:z.size=sz)(d:D)(AB:d.size=sz)(J:∀v∈z,cF v=true)(w:World)(F:Nat->Prop)(Al:∃v,aQ w F d v/\v.cells=z):
 cA w F sz (List.replicate n d) ((Array.range (n*sz)).map (z[·%z.size]!)).toList:=by
 obtain⟨v,Z,An⟩:=Al;refine⟨by simp,?_,?_,?_⟩
 ·intro x M;simp only[Array.toList_map,abV]at M;obtain⟨i,hi,rfl⟩:=M;have hi:i<n*sz:=by simpa using hi
  have Ao:0<z.size:=by
   rw[T];rcases alj sz with V|V
   ·simp[V]at hi
   ·exact V
  rw[getElem!_pos z _ (Nat.mod_lt _ Ao)];exact J _ (by simp)
 ·intro x M;rw[List.eq_of_mem_replicate M,AB]
 ·intro i x M;have hi:i<n:=by have:=(D1.1 M).1;simpa using this
  have Ap:x=d:=by rw[aot]at M;split at M<;>simp_all
  subst Ap;refine⟨v,Z,λj c AK=>?_⟩;have Aq:=zM Z AB AK;have Ar:i*sz+j<n*sz:=by
   have:i*sz+sz<=n*sz:=by rw[<-akj];exact abS _ hi
   omega
  rw[An]at AK;have hm:(i*sz+j)%sz=j:=by rw[Nat.mul_comm,Nat.mul_add_mod];exact Nat.mod_eq_of_lt Aq
  simp only[Array.toList_map,ab6,Array.toList_range,List.getElem?_range Ar,ah3,T,hm];rw[getElem!_pos z j (by omega)];rw[<-AK];simp[show j<z.size by omega]
theorem run_makeSlice{P:Program}{w:World}{t e:TypeId}{i:TypeInfo}{z:Value}{n:Int}(U:P.underlying t=some (.slice e))(hi:P.info? e=some i)(T:i.zero=some z)
 (V:0<=n) (Y:n*i.bytes<=140737488355328) (AC:n<=4611686018427387904):
 (Instr.makeSlice t (.int .i64 n) (.int .i64 n)).run P w=.ok (.slice (some ⟨w.heap.size,0,none⟩) n.toNat n.toNat) (w.alloc (.cells ((Array.range (n.toNat*i.size)).map (z.cells[·%z.cells.size]!)) e)):=by
 have hw:=wrap_small V AC;have J:¬n<0:=by omega
 have AD:¬((i.bytes:Int)*n>281474976710656):=by rw[Int.mul_comm];omega
 have AZ:¬(n.toNat*i.bytes>roomBytes):=by
  unfold roomBytes;have:((n.toNat*i.bytes:Nat):Int)=n*i.bytes:=by rw[Int.natCast_mul,Int.toNat_of_nonneg V]
  omega
 by_cases AE:n.toNat*i.size=0
 ·have As:n.toNat=0\/i.size=0:=Nat.mul_eq_zero.1 AE;simp[Instr.makeSlice,run_underlying U,asInt,asIntOf,typeInfo,sizeOf,hi,hw,J,AD,askRoom,AE,jw,show Array.range 0=#[]from rfl]
 ·have As:¬(n.toNat=0\/i.size=0):=λh=>AE (Nat.mul_eq_zero.2 h);simp[Instr.makeSlice,run_underlying U,asInt,asIntOf,typeInfo,sizeOf,zeroValue,hi,T,hw,J,AD,askRoom,jw];exact λh=>absurd h AE
theorem aii(P:Program)(S:St)(o:Oper)(t:TypeId)(l c:Operand)(A':o.op=.makeSlice t l c)(At:(S.au l).1=true)(AN:(S.au c).1=true):aM P S o (AL P S.mem (keyOf o) t (S.au l).2 (S.au c).2):=by
 unfold AL;split
 ·rename_i e AO;have U:=gO AO;split
  ·rename_i sz AX A5 n AY key v cont J AD AZ Au Av AP;refine aM.uW ?_;rintro ⟨rfl,V,Y,AC,A_⟩ φ G a w O;obtain⟨i,z,hi,rfl,rfl,T,Aw,Ax,Ay⟩:=Rg J AD AZ;obtain⟨hm,A6,L,A0,A1,A2⟩:=O.mem.get AP;simp only at A6 A1;subst A6;have A3:=O.au l At;have AQ:=O.au c AN;rw[Au]at A3;rw[Av]at AQ;have Az:a.eval l=.int .i64 n:=by
    generalize a.eval l=x at A3;cases A3 with|d _ _ h=>cases h;rfl
   have AR:a.eval c=.int .i64 n:=by
    generalize a.eval c=x at AQ;cases AQ with|d _ _ h=>cases h;rfl
   have B':=run_makeSlice (P:=P) (w:=w) U hi T V Y AC;obtain⟨φ',A7,A8,AS,A9⟩:=O.mem.fresh (e:=⟨keyOf o,v,cont⟩) hm A0 A1 w rfl rfl rfl rfl
    ((Array.range (n.toNat*i.size)).map (z.cells[·%z.cells.size]!)) e i.size n.toNat (.vec i.size (List.replicate n.toNat A5)) (λ_ Y=>Y.2) (λφ' hle B0 Aa B1=>by
     refine y5 (cs:=((Array.range (n.toNat*i.size)).map (z.cells[·%z.cells.size]!)).toList) (rest:=[]) (elem:=e) rfl rfl (VH z.cells n.toNat i.size (by rw[Aw,A_]) A5 A_ Ax _ _ (Ay _ _)) (by simp) (by simp) (by simp) (λ_=>?_);refine fJ.new ?_;rw[B1,afV,aoV])
   refine⟨.slice (some ⟨w.heap.size,0,none⟩) n.toNat n.toNat,_,φ',.inl ?_,?_,A7,A8,A9⟩
   ·simp[execOp,A',Az,AR,B']
   ·exact .vec _ (v+1) 0 _ _ _ AS (aad _) (λ_=>⟨_,_,rfl,aad _,λ_=>⟨by simp,by simp⟩⟩) rfl
  ·trivial
 ·trivial
def AM(P:Program)(m:Mem)(t:TypeId)(s x:AV):dO:=
 match tk P t with
 | .slice e=>match gr P e with
  |some sz=>match iS m sz x with
   |some (c,E)=>match s with
    | .vec k ar off len=>match Mem.get m k with
     |some ⟨_,v,.vec H aj⟩=>.dq (c/\v=ar/\off+len<=aj.length/\H=sz/\(∀d∈E,d.size=sz))
      (.d (.int .i64 (min E.length len:Nat))) ⟨k,ar,.vec sz (bC aj off (E.take len))⟩
     |_=>.no
    |_=>.no
   |none=>.no
  |none=>.no
 |_=>.no
theorem Fb{w F sz}{aj E:List D}{cs I:List Value}{off:Nat}(h:cA w F sz aj cs)(AT:cA w F sz E I)(hle:off+E.length<=aj.length):
 cA w F sz (bC aj off E) (bC cs (off*sz) I):=by
 have AF:off*sz+I.length<=cs.length:=by rw[h.1,AT.1,<-af6];exact abS _ hle
 rw[dU _ _ _ hle,dU _ _ _ AF];have:=((h.take off (by omega)).append AT).append (h.drop (off+E.length));rw[af6,<-AT.1]at this;exact this
theorem L6{α:Type}{cs I:List α}{o n:Nat}(h:o+I.length<=n)(AC:n<=cs.length):bC (cs.take n) o I++cs.drop n=bC cs o I:=by
 rw[dU _ _ _ (by simp;omega),dU _ _ _ (by omega),List.take_take,akW (by omega),acD (List.take _ _++_)];congr 1;rw[List.drop_take];have AR:cs.drop n=(cs.drop (o+I.length)).drop (n-(o+I.length)):=by rw[aoI];congr 1;omega
 rw[AR,akQ]
theorem MQ{P:Program}{w w':World}{t u ty e:TypeId}{sz:Nat}(U:P.underlying t=some (.slice e))(J:gr P e=some sz){ao:Option Addr}{len cap:Nat}{x:Value}{m:Nat}{I:List Value}
 (Ab:(Builtin.lenOf x).run P w=.ok m w) (A4:(Builtin.firstCells sz (min m len) x).run P w=.ok I.toArray w)
 (W:(match ao with|some a=>storeCells a I|none=>pure ()).run P w=.ok () w'):
 (Builtin.copy_ #[t,u] ty #[.slice ao len cap,x]).run P w=.ok (.int .i64 (min m len:Nat)) w':=by
 have hm:Nat.min m len=min m len:=rfl;cases ao with
 |none=>
  simp only[Sem.run_pure,Result.ok.injEq,ala]at W;subst W;simp[Builtin.copy_,run_underlying U,Ab,hm,run_sizeOf J,A4,goInt]
 |some a=>
  simp only at W;simp[Builtin.copy_,run_underlying U,Ab,hm,run_sizeOf J,A4,W,goInt]
theorem aij(P:Program)(S:St)(o:Oper)(s x:Operand)(t u:TypeId)(A':o.op=.call {callee:=.builtin .copy,args:=#[s,x],argTypes:=#[t,u]})
 (AB:(S.au s).1=true) (M:(S.au x).1=true):aM P S o (AM P S.mem t (S.au s).2 (S.au x).2):=by
 unfold AM;split
 ·rename_i e AO;have U:=gO AO;split
  ·rename_i sz J;split
   ·rename_i c E B2;split
    ·rename_i k ar off len B3;split
     ·rename_i key v H aj AP;refine aM.uW ?_;rintro ⟨AN,rfl,hle,rfl,B4⟩ φ G a w O;obtain⟨hm,A6,L,A0,A1,A2⟩:=O.mem.get AP;simp only at A6;subst A6;have Z:=O.au s AB;have B5:=O.au x M;rw[B3]at Z;obtain⟨I,AG⟩:=MJ (P:=P) O.mem B5 B2 AN B4;generalize A3:a.eval s=BJ at Z;cases Z with
      |vec _ _ _ _ _ L' Ac _ h _=>
       rw[A0]at Ac;cases Ac;obtain⟨ao,cap,rfl,BK,B6⟩:=h A1.symm;clear h;have Ad:L.sz=H:=A2.1;have Ae:min E.length len<=E.length:=Nat.min_le_left _ _;have A4:=AG.Zz (min E.length len) Ae w (λ_ _=>rfl);have Af:(E.take len).length=min E.length len:=by rw[aic,Nat.min_comm]
       by_cases B7:len=0
       ·subst B7;obtain⟨φ',A7,A8,AS,A9⟩:=O.mem.dq (e':=⟨key,v,.vec H (bC aj off (E.take 0))⟩) hm A0 rfl (L':=L) (aad _) (λ_=>rfl) A1
         (w':=w) (λ_ _ _=>rfl) (aad _) (λ_ A'=>.inl A') rfl rfl rfl (λφ' Ag AF=>by
          have e:bC aj off (E.take 0)=aj:=by rw[dU _ _ _ (by simp;omega)];simp
          rw[e];refine A2.mono AF (λ_ _ _=>rfl) (aad _) (λb Y=>?_) (λ_ _=>rfl);rintro (B8|⟨y,B9,BA,AH,Ah⟩)
          ·exact .inl B8
          ·right;rcases (Mem.mem_set O.mem.nodup).1 B9 with ⟨rfl,_⟩|⟨BB,Ai⟩
           ·subst Ag;simp at AH;subst AH;exact⟨_,hm,L,A0,Ah⟩
           ·subst Ag;simp at Ai;simp[Ai]at AH;exact⟨y,BB,BA,AH,Ah⟩)
        refine⟨_,w,φ',.inl ?_,.d _ _ (.int _ _),A7,A8,A9⟩;have BC:I.take (min E.length 0*H)=[]:=by simp
        rw[BC]at A4;have:=MQ (P:=P) (ty:=o.type) (u:=u) (ao:=ao) (len:=0) (cap:=cap) U J (AG.len w) A4 (w':=w) (by cases ao<;>simp[storeCells]);simp[execOp,A',resolve,invoke,builtin,A3,this]
       ·obtain⟨rfl,BL⟩:=B6 (by omega);obtain⟨arr,elem,hh,BM,Aj,BD⟩:=qh A2 (by omega);have AU:cA w (Fo G φ S.mem) H (E.take len) (I.take (min E.length len*H)):=by
         have:=AG.aj.take (min E.length len) Ae;have e:E.take (min E.length len)=E.take len:=by
          rcases Nat.le_total E.length len with h|h
          ·rw[akW h,akw (aad _),akw h]
          ·rw[Nat.min_eq_right h]
         rw[e]at this;exact this
        have Ak:off+(E.take len).length<=aj.length:=by rw[Af];omega
        have BE:=Fb BD AU Ak;have AA:=AU.1;rw[Af]at AA;have AW:(off+min E.length len)*H<=aj.length*H:=abS _ (by omega);have BN:aj.length*H<=L.cap*H:=abS _ A2.2.1;have AI:L.base+off*H+(I.take (min E.length len*H)).length<=arr.toList.length:=by
         rw[af6]at AW;rw[AA];simp only[ab9];omega
        have ⟨BF,BG,BH⟩:=hh;have W:=lC (P:=P) L.dZ (L.base+off*H) elem BF (I.take (min E.length len*H)) 0 arr w BG BH (by simpa using AI) (λx M=>qW (AU.2.1 x M));simp only[ah0]at W;rw[<-dU _ _ _ AI]at W;have BI:arr.toList.take L.base++(bC ((arr.toList.drop L.base).take (aj.length*H)) (off*H) (I.take (min E.length len*H))++(arr.toList.drop L.base).drop (aj.length*H))=bC arr.toList (L.base+off*H) (I.take (min E.length len*H)):=by
         rw[L6 (by rw[AA,<-af6];exact AW) (by simp only[ahU,ab9];omega)];rw[dU _ _ _ (by rw[AA];rw[af6]at AW;simp only[ahU,ab9];omega),dU _ _ _ AI,aoI,List.take_add];simp only[acD,abY]
        obtain⟨φ',A7,A8,AS,A9⟩:=O.mem.store (e:=⟨key,v,.vec H aj⟩) hm A0 A1 (b0:=L.dZ) ⟨by omega,rfl⟩ (bC arr.toList (L.base+off*H) (I.take (min E.length len*H))).toArray v (aad _) (.vec H (bC aj off (E.take len))) (λ_ Y=>Y) (λφ' AF B0 Aa=>by
         refine wD (pre:=arr.toList.take L.base) (cs:=bC ((arr.toList.drop L.base).take (aj.length*H)) (off*H) (I.take (min E.length len*H))) (rest:=(arr.toList.drop L.base).drop (aj.length*H)) (elem:=elem) Ad (BE.mono Aa) ?_ ?_ ?_ ?_ ?_ (λ_=>?_)
         ·simp only[aic,ab9];omega
         ·intro z T;exact Aj z (by simpa using afM T)
         ·intro z T;exact Aj z (by simpa using acJ (acJ T))
         ·rw[bR _ _ _ Ak];exact A2.2.1
         ·show _=L.cap*H;rw[aam,bR _ _ _ (by rw[AA,<-af6];simp only[aic,ahU,ab9];omega),<-aam,akQ];simp only[ahU,ab9];omega
         ·rw[BI];exact hh.setRow _ (by show (bC arr.toList _ _).length=_;rw[bR _ _ _ AI];simp))
        refine⟨_,_,φ',.inl ?_,.d _ _ (.int _ _),A7,A8,A9⟩;have:=MQ (P:=P) (ty:=o.type) (u:=u) (ao:=some ⟨L.dZ,L.base+off*L.sz,none⟩) (len:=len) (cap:=cap) U J (AG.len w) A4 (by rw[Ad];exact W);simp[execOp,A',resolve,invoke,builtin,A3,this]
     ·trivial
    ·trivial
   ·trivial
  ·trivial
 ·trivial
theorem y7{P:Program}{s:TypeId}{f n b o:Nat}{w:World}(h:AF P s f=some n):(Instr.fieldAt s (.pointer (some ⟨b,o,none⟩)) f).run P w=.ok (.pointer (some ⟨b,o+n,none⟩)) w:=by
 unfold AF at h;split at h
 ·rename_i AQ hu;split at h
  ·rename_i fl AE;split at h
   ·rename_i i hi;split at h
    ·cases h
    ·rename_i AG;simp at h;subst h;have W:(sizeOf fl.type).run P w=.ok i.size w:=run_sizeOf (by simp[gr,hi]);simp[Instr.fieldAt,run_underlying hu,AE,Instr.sureAddr,fieldPlace,W,AG,gu]
   ·cases h
  ·cases h
 ·cases h
def rn(P:Program)(m:Mem)(s:TypeId)(f:Nat)(p:AV):dO:=
 match AF P s f with
 |some n=>match p with
  | .ptr k ar off=>match Mem.get m k with
   |some ⟨_,v,_⟩=>.val (v=ar) (.ptr k ar (off+n))
   |none=>.no
  | .cS k ar i j=>match Mem.get m k with
   |some ⟨_,v,_⟩=>.val (v=ar) (.cS k ar i (j+n))
   |none=>.no
  | .eu x j=>.val True (.eu x (j+n))
  |_=>.no
 |none=>.no
theorem adj(P:Program)(S:St)(o:Oper)(s:TypeId)(x:Operand)(f:Nat)(Y:o.op=.fieldAddr s x f)(O:(S.au x).1=true):aM P S o (rn P S.mem s f (S.au x).2):=by
 unfold rn;split
 ·rename_i n A5;split
  ·rename_i k ar off M;split
   ·rename_i key v cont V;refine aM.pure ?_;rintro rfl φ G a w H;have E:=H.au x O;rw[M]at E;obtain⟨hm,A0,L,I,J,_⟩:=H.mem.get V;simp only at J;have e:=E.uc I J;refine⟨.pointer (some ⟨L.dZ,off+n,none⟩),by simp[execOp,Y,e,y7 A5],.ptr k v _ _ L I (by omega) (λ_=>rfl) rfl⟩
   ·trivial
  ·rename_i k ar i j M;split
   ·rename_i key v cont V;refine aM.pure ?_;rintro rfl φ G a w H;have E:=H.au x O;rw[M]at E;obtain⟨hm,A0,L,I,J,_⟩:=H.mem.get V;simp only at J;have e:=E.mF I J;refine⟨.pointer (some ⟨L.dZ,L.base+i*L.sz+j+n,none⟩),by simp[execOp,Y,e,y7 A5],.cS k v _ _ _ L I (by omega) (λ_=>by rw[abY]) rfl⟩
   ·trivial
  ·rename_i d j M;refine aM.pure ?_;rintro _ φ G a w H;have E:=H.au x O;rw[M]at E;generalize A':a.eval x=av at E;cases E with
   |eu _ _ b off A7 A1 A2 A8 A3=>
    refine⟨.pointer (some ⟨b,off+(j+n),none⟩),by simp[execOp,Y,A',y7 A5,abY],.eu d (j+n) b off A7 A1 A2 A8 A3⟩
  ·trivial
 ·trivial
def kC(m:Mem)(p:AV):dO:=
 match p with
 | .ptr k ar off=>match Mem.get m k with
  |some ⟨_,v,_⟩=>.val (v=ar) (.ptr k ar off)
  |none=>.no
 | .cS k ar i j=>match Mem.get m k with
  |some ⟨_,v,_⟩=>.val (v=ar) (.cS k ar i j)
  |none=>.no
 | .eu x j=>.val True (.eu x j)
 |_=>.no
theorem Qz(P:Program)(S:St)(o:Oper)(x:Operand)(Y:o.op=.nilCheck x)(O:(S.au x).1=true):aM P S o (kC S.mem (S.au x).2):=by
 unfold kC;split
 ·rename_i k ar off M;split
  ·rename_i key v cont V;refine aM.pure ?_;rintro rfl φ G a w H;have E:=H.au x O;rw[M]at E;obtain⟨hm,A0,L,I,J,_⟩:=H.mem.get V;simp only at J;have e:=E.uc I J;exact⟨_,by simp only[execOp,Y,e];rfl,.ptr k v _ _ L I (by omega) (λ_=>rfl) rfl⟩
  ·trivial
 ·rename_i k ar i j M;split
  ·rename_i key v cont V;refine aM.pure ?_;rintro rfl φ G a w H;have E:=H.au x O;rw[M]at E;obtain⟨hm,A0,L,I,J,_⟩:=H.mem.get V;simp only at J;have e:=E.mF I J;exact⟨_,by simp only[execOp,Y,e];rfl,.cS k v _ _ _ L I (by omega) (λ_=>rfl) rfl⟩
  ·trivial
 ·rename_i d j M;refine aM.pure ?_;rintro _ φ G a w H;have E:=H.au x O;rw[M]at E;generalize A':a.eval x=av at E;cases E with
  |eu _ _ b off A7 A1 A2 A8 A3=>
   exact⟨.pointer (some ⟨b,off+j,none⟩),by simp only[execOp,Y,A'];rfl,.eu d j b off A7 A1 A2 A8 A3⟩
 ·trivial
theorem lF{φ w F k n v}(h:aH φ w F (.d (.int k n)) v):v=.int k n:=by cases h with|d _ _ h=>cases h;rfl
theorem vX{φ w F b v}(h:aH φ w F (.d (.bool b)) v):v=.bool b:=by cases h with|d _ _ h=>cases h;rfl
theorem wJ{φ w F s v}(h:aH φ w F (.d (.str s)) v):∃b:ByteArray,v=.string b/\b.data.toList=s:=by cases h with|d _ _ h=>cases h with|str b _ h=>exact⟨b,rfl,h⟩
theorem wK{P:Program}{t:TypeId}{n e}(h:tk P t=.arr n e):P.underlying t=some (.array n e):=by
 unfold tk at h;split at h<;>simp_all
theorem qk{P:Program}{t:TypeId}(h:tk P t=.str):P.underlying t=some .string:=by
 unfold tk at h;split at h<;>simp_all
theorem Jj{P:Program}{t:TypeId}(h:tk P t=.bool):P.underlying t=some .bool:=by
 unfold tk at h;split at h<;>simp_all
theorem zP{P:Program}{t:TypeId}{k}(h:tk P t=.int k):P.underlying t=some (.int k):=by
 unfold tk at h;split at h<;>simp_all
def oP(P:Program)(m:Mem)(t:TypeId)(p i:AV):dO:=
 match i with
 | .d (.int _ n)=>match tk P t with
  | .slice e=>match gr P e with
   |some sz=>match p with
    | .d (.list xs)=>.val (0<=n/\n.toNat<xs.length/\(D.at xs n.toNat).size=sz) (.eu (D.at xs n.toNat) 0)
    | .vec k ar off len=>match Mem.get m k with
     |some ⟨_,v,.vec A6 _⟩=>.val (v=ar/\0<=n/\n.toNat<len/\A6=sz) (.cS k ar (off+n.toNat) 0)
     |some ⟨_,v,.vv _ _⟩=>.val (v=ar/\0<=n/\n.toNat<len/\sz=1) (.cS k ar (off+n.toNat) 0)
     |_=>.no
    |_=>.no
   |none=>.no
  | .arr len e=>match gr P e with
   |some sz=>match p with
    | .ptr k ar off=>match Mem.get m k with
     |some ⟨_,v,_⟩=>.val (v=ar/\0<=n/\n.toNat<len) (.ptr k ar (off+n.toNat*sz))
     |none=>.no
    | .cS k ar i j=>match Mem.get m k with
     |some ⟨_,v,.vec A6 _⟩=>if A6=1/\sz=1/\j=0 then .val (v=ar/\0<=n/\n.toNat<len) (.cS k ar (i+n.toNat) 0)else .val (v=ar/\0<=n/\n.toNat<len) (.cS k ar i (j+n.toNat*sz))
     |some ⟨_,v,_⟩=>.val (v=ar/\0<=n/\n.toNat<len) (.cS k ar i (j+n.toNat*sz))
     |none=>.no
    | .eu x j=>.val (0<=n/\n.toNat<len) (.eu x (j+n.toNat*sz))
    |_=>.no
   |none=>.no
  |_=>.no
 |_=>.no
theorem sK{P:Program}{t e:TypeId}{sz b o len cap:Nat}{k:IntKind}{n:Int}{w:World}(Z:P.underlying t=some (.slice e))(W:gr P e=some sz)(T:0<=n)(U:n.toNat<len):
 (Instr.indexAt t (.slice (some ⟨b,o,none⟩) len cap) (.int k n)).run P w=.ok (.pointer (some ⟨b,o+n.toNat*sz,none⟩)) w:=by
 have A5:n<(len:Int):=by omega
 simp[Instr.indexAt,asIntOf,run_underlying Z,run_sizeOf W,T,A5,gu]
theorem oQ{P:Program}{t e:TypeId}{sz b o len:Nat}{k:IntKind}{n:Int}{w:World}(Z:P.underlying t=some (.array len e))(W:gr P e=some sz)(T:0<=n)(U:n.toNat<len):
 (Instr.indexAt t (.pointer (some ⟨b,o,none⟩)) (.int k n)).run P w=.ok (.pointer (some ⟨b,o+n.toNat*sz,none⟩)) w:=by
 have A5:n<(len:Int):=by omega
 simp[Instr.indexAt,Instr.sureAddr,asIntOf,run_underlying Z,run_sizeOf W,T,A5,gu]
theorem aik{w F xs b off cap len}(h:aQ w F (.list xs) (.slice (some ⟨b,off,none⟩) len cap)){i sz:Nat}(hi:i<xs.length)(W:(D.at xs i).size=sz):
 len=xs.length/\b<w.heap.size/\¬F b/\∃v,aQ w F (D.at xs i) v/\∀(j:Nat) c,v.cells[j]?=some c->w.cell? ⟨b,off+i*sz+j,none⟩=some c:=by
 generalize O:D.list xs=x at h;generalize E:Value.slice (some ⟨b,off,none⟩) len cap=v at h;cases h with
 |nil a c=>simp at O;subst O;simp at hi
 |list AR AS AT AU A6 vs AW A1 A2 AB AH A3=>
  simp at O E;obtain⟨⟨rfl,rfl⟩,rfl,rfl⟩:=E;subst O;have:A6=sz:=by rw[<-W,AB _ (aay (lA hi))]
  subst this;exact⟨rfl,A1,A2,vs i,AH i _ (lA hi),λj c AI=>A3 i j c hi AI⟩
 |_=>simp at O
theorem ZF{w F xs v}(h:aQ w F (.list xs) v)(AJ:xs≠[]):∃b off cap,v=.slice (some ⟨b,off,none⟩) xs.length cap:=by
 cases h with
 |nil a c=>exact absurd rfl AJ
 |list b off cap sz vs=>exact⟨_,_,_,rfl⟩
theorem adk(P:Program)(S:St)(o:Oper)(t:TypeId)(x i:Operand)(Y:o.op=.indexAddr t x i)(O:(S.au x).1=true)(hi:(S.au i).1=true):aM P S o (oP P S.mem t (S.au x).2 (S.au i).2):=by
 unfold oP;split
 ·rename_i AK n AL;have A4:∀{φ G a w},Rel φ G S a w->a.eval i=.int AK n:=λH=>by
   have:=H.au i hi;rw[AL]at this;exact lF this
  split
  ·rename_i e AC;have Z:=gO AC;split
   ·rename_i sz W;split
    ·rename_i xs M;refine aM.pure ?_;rintro ⟨T,U,AB⟩ φ G a w H;have E:=H.au x O;rw[M]at E;generalize A':a.eval x=av at E;cases E with
     |d _ _ h=>
      obtain⟨b,off,cap,rfl⟩:=ZF h (by intro hh;subst hh;simp at U);obtain⟨_,A1,A2,v,E,A3⟩:=aik h U AB;refine⟨_,by simp only[execOp,Y,A',A4 H,Sem.run_bind,sK Z W T U];rfl,?_⟩;exact .eu (D.at xs n.toNat) 0 b (off+n.toNat*sz) v A1 A2 E A3
    ·rename_i k ar off len M;split
     ·rename_i key v A6 aj V;refine aM.pure ?_;rintro ⟨rfl,T,U,rfl⟩ φ G a w H;have E:=H.au x O;rw[M]at E;obtain⟨hm,A0,L,I,J,A9⟩:=H.mem.get V;simp only at J;generalize A':a.eval x=av at E;cases E with
      |vec _ _ _ _ _ L' AA _ h _=>
       rw[I]at AA;cases AA;obtain⟨ao,cap,rfl,AM,AD⟩:=h J.symm;clear h;obtain⟨rfl,AN⟩:=AD (by omega);refine⟨_,by simp only[execOp,Y,A',A4 H,Sem.run_bind,sK Z W T U];rfl,?_⟩;exact .cS k v _ 0 _ L I (by omega) (λ_=>by rw[A9.1,af6,ah0,abY]) rfl
     ·rename_i key v aj y V;refine aM.pure ?_;rintro ⟨rfl,T,U,rfl⟩ φ G a w H;have E:=H.au x O;rw[M]at E;obtain⟨hm,A0,L,I,J,A9⟩:=H.mem.get V;simp only at J;generalize A':a.eval x=av at E;cases E with
      |vec _ _ _ _ _ L' AA _ h _=>
       rw[I]at AA;cases AA;obtain⟨ao,cap,rfl,AM,AD⟩:=h J.symm;clear h;obtain⟨rfl,AN⟩:=AD (by omega);refine⟨_,by simp only[execOp,Y,A',A4 H,Sem.run_bind,sK Z W T U];rfl,?_⟩;exact .cS k v _ 0 _ L I (by omega) (λ_=>by rw[A9.1.1,af6,ah0,abY]) rfl
     ·trivial
    ·trivial
   ·trivial
  ·rename_i len e AC;have Z:=wK AC;split
   ·rename_i sz W;split
    ·rename_i k ar off M;split
     ·rename_i key v cont V;refine aM.pure ?_;rintro ⟨rfl,T,U⟩ φ G a w H;have E:=H.au x O;rw[M]at E;obtain⟨hm,A0,L,I,J,_⟩:=H.mem.get V;simp only at J;have e:=E.uc I J;refine⟨_,by simp only[execOp,Y,e,A4 H,Sem.run_bind,oQ Z W T U];rfl,.ptr k v _ _ L I (by omega) (λ_=>rfl) rfl⟩
     ·trivial
    ·rename_i k ar AX j M;split
     ·rename_i key v A6 aj V;split
      ·rename_i AO;obtain⟨rfl,rfl,rfl⟩:=AO;refine aM.pure ?_;rintro ⟨rfl,T,U⟩ φ G a w H;have E:=H.au x O;rw[M]at E;obtain⟨hm,A0,L,I,J,A9⟩:=H.mem.get V;simp only at J;have e:=E.mF I J;have AP:L.sz=1:=A9.1;refine⟨_,by simp only[execOp,Y,e,A4 H,Sem.run_bind,oQ Z W T U];rfl,.cS k v _ _ _ L I (by omega) (λ_=>by rw[AP];simp[abY]) rfl⟩
      ·refine aM.pure ?_;rintro ⟨rfl,T,U⟩ φ G a w H;have E:=H.au x O;rw[M]at E;obtain⟨hm,A0,L,I,J,_⟩:=H.mem.get V;simp only at J;have e:=E.mF I J;refine⟨_,by simp only[execOp,Y,e,A4 H,Sem.run_bind,oQ Z W T U];rfl,.cS k v _ _ _ L I (by omega) (λ_=>by rw[abY]) rfl⟩
     ·rename_i key v cont _ V;refine aM.pure ?_;rintro ⟨rfl,T,U⟩ φ G a w H;have E:=H.au x O;rw[M]at E;obtain⟨hm,A0,L,I,J,_⟩:=H.mem.get V;simp only at J;have e:=E.mF I J;refine⟨_,by simp only[execOp,Y,e,A4 H,Sem.run_bind,oQ Z W T U];rfl,.cS k v _ _ _ L I (by omega) (λ_=>by rw[abY]) rfl⟩
     ·trivial
    ·rename_i d j M;refine aM.pure ?_;rintro ⟨T,U⟩ φ G a w H;have E:=H.au x O;rw[M]at E;generalize A':a.eval x=av at E;cases E with
     |eu _ _ b off A7 A1 A2 A8 A3=>
      refine⟨.pointer (some ⟨b,off+(j+n.toNat*sz),none⟩),by simp[execOp,Y,A',A4 H,oQ Z W T U,abY],.eu d _ b off A7 A1 A2 A8 A3⟩
    ·trivial
   ·trivial
  ·trivial
 ·trivial
def fZ(op:BinOp)(k:IntKind)(a b:Int):Option (Bool×D):=
 match op with
 | .add=>some (true,.int k (k.wrap (a+b)))
 | .sub=>some (true,.int k (k.wrap (a-b)))
 | .mul=>some (true,.int k (k.wrap (a*b)))
 | .quo=>some (b≠0,.int k (k.wrap (a.tdiv b)))
 | .rem=>some (b≠0,.int k (a.tmod b))
 | .and=>some (true,.int k (k.wrap (BitVec.ofInt k.bits a &&& BitVec.ofInt k.bits b).toNat))
 | .or=>some (true,.int k (k.wrap (BitVec.ofInt k.bits a ||| BitVec.ofInt k.bits b).toNat))
 | .xor=>some (true,.int k (k.wrap (BitVec.ofInt k.bits a ^^^ BitVec.ofInt k.bits b).toNat))
 | .andNot=>some (true,.int k (k.wrap (BitVec.ofInt k.bits a &&& ~~~BitVec.ofInt k.bits b).toNat))
 | .eql=>some (true,.bool (a == b))
 | .neq=>some (true,.bool (a != b))
 | .lss=>some (true,.bool (decide (a<b)))
 | .leq=>some (true,.bool (decide (a<=b)))
 | .gtr=>some (true,.bool (decide (b<a)))
 | .geq=>some (true,.bool (decide (b<=a)))
 |_=>none
def Gg(op:BinOp)(k:IntKind)(a b:Int):Option (Bool×D):=
 match op with
 | .shl=>some (0<=b,.int k (k.wrap (a*2^(min b.toNat k.bits))))
 | .shr=>some (0<=b,.int k (a.fdiv (2^(min b.toNat k.bits))))
 |_=>none
def oR(op:BinOp)(s t:List UInt8):Option (Bool×D):=
 match op with
 | .add=>some (s.length+t.length<=4611686018427387904,.str (s++t))
 | .eql=>some (true,.bool (s == t))
 | .neq=>some (true,.bool (!(s == t)))
 | .lss=>some (true,.bool (Op.bytesLess s t))
 | .leq=>some (true,.bool (Op.bytesLess s t||s == t))
 | .gtr=>some (true,.bool (!(Op.bytesLess s t||s == t)))
 | .geq=>some (true,.bool (!Op.bytesLess s t))
 |_=>none
def wL:TK->D->D->Option Bool
 | .int _,.int k a,.int A6 b=>if k=A6 then some (a == b)else none
 | .bool,.bool a,.bool b=>some (a == b)
 | .str,.str a,.str b=>some (a == b)
 |_,_,_=>none
def eT:List TK->List D->List D->Option Bool
 |[],[],[]=>some true
 |k::ks,x::xs,y::T=>match wL k x y,eT ks xs T with
  |some a,some b=>some (a&&b)
  |_,_=>none
 |_,_,_=>none
def Cu(rec:TypeId->Option (List TK)):List Field->Nat->Option (List TK)
 |[],_=>some []
 |f::A',o=>if f.name≠ "_" /\f.offset=o then (match rec f.type with
  |some ks=>match Cu rec A' (o+ks.length)with
   |some r=>some (ks++r)
   |none=>none
  |none=>none)else none
def Hr(P:Program):Nat->TypeId->Option (List TK)
 |0,_=>none
 |n+1,t=>match tk P t with
  | .int k=>some [.int k]
  | .bool=>some [.bool]
  | .str=>some [.str]
  | .struct=>match P.underlying t with
   |some (.struct A')=>if P.stoodInHeld t=false then (match Cu (Hr P n) A'.toList 0 with
    |some ks=>if gr P t=some ks.length then some ks else none
    |none=>none)else none
   |_=>none
  |_=>none
def Hs(P:Program)(t:TypeId):Option (List TK):=
 match P.underlying t with
 |some (.struct _)=>if P.eqGuardType P.depth t=false then Hr P 8 t else none
 |_=>none
def sL(P:Program)(op:BinOp)(t:TypeId)(x y:AV):dO:=
 match x,y with
 | .d (.int k a),.d (.int A6 b)=>match op with
  | .shl=>.val (0<=b) (.d (.int k (k.wrap (a*2^(min b.toNat k.bits)))))
  | .shr=>.val (0<=b) (.d (.int k (a.fdiv (2^(min b.toNat k.bits)))))
  |op=>match fZ op k a b with
   |some (c,d)=>.val (k=A6/\c) (.d d)
   |none=>.no
 | .d (.str a),.d (.str b)=>match oR op a b with
  |some (c,d)=>.val c (.d d)
  |none=>.no
 | .d (.bool a),.d (.bool b)=>match op with
  | .eql=>.val (tk P t=.bool) (.d (.bool (a == b)))
  | .neq=>.val (tk P t=.bool) (.d (.bool (a != b)))
  |_=>.no
 | .d (.agg a),.d (.agg b)=>match Hs P t with
  |some ks=>match eT ks a b with
   |some r=>match op with
    | .eql=>.val True (.d (.bool r))
    | .neq=>.val True (.d (.bool (!r)))
    |_=>.no
   |none=>.no
  |none=>.no
 |_,_=>.no
theorem MT(P:Program)(w:World)(op:BinOp)(t:TypeId)(x y:Operand)(a b:Value)(h:(∀c,a≠.agg c)/\a≠.nilIface):(eqGuard op t x y a b).run P w=.ok () w:=by
 unfold eqGuard;cases a<;>first|exact absurd rfl (h.1 _)|exact absurd rfl h.2|(cases op<;>simp)
theorem VI(P:Program)(w:World)(op:BinOp)(t:TypeId)(k:IntKind)(a b:Int)(c d)(h:fZ op k a b=some (c,d))(J:c=true):∃v,(binOp op t (.int k a) (.int k b)).run P w=.ok v w/\∀F,aQ w F d v:=by
 cases op<;>simp only[fZ,aa1,acr,reduceCtorEq]at h<;>(try exact h.elim)<;>obtain⟨rfl,rfl⟩:=h<;>(try simp only[aak]at J)<;>
  refine⟨_,by simp only[binOp,Op.intArith,Op.intDiv,Op.intBits,Op.intCmp,ne_eq,not_true_eq_false,acw,J,Sem.run_pure,gt_iff_lt,ge_iff_le];rfl,λF=>by first|exact .int _ _|exact .bool _⟩
theorem Cv(P:Program)(w:World)(op:BinOp)(t:TypeId)(k A6:IntKind)(a b:Int)(c d)(h:Gg op k a b=some (c,d))(J:c=true):∃v,(binOp op t (.int k a) (.int A6 b)).run P w=.ok v w/\∀F,aQ w F d v:=by
 cases op<;>simp only[Gg,aa1,acr,reduceCtorEq]at h<;>(try exact h.elim)<;>obtain⟨rfl,rfl⟩:=h<;>(try simp only[aak]at J)<;>
  refine⟨_,by simp[binOp,Op.shift,show ¬b<0 by omega];rfl,λF=>by first|exact .int _ _|exact .bool _⟩
theorem VJ(P:Program)(w:World)(op:BinOp)(t:TypeId)(a b:ByteArray)(c d)(h:oR op a.data.toList b.data.toList=some (c,d))(J:c=true):∃v,(binOp op t (.string a) (.string b)).run P w=.ok v w/\∀F,aQ w F d v:=by
 have Ae:a.size=a.data.toList.length:=by rw[ab9];rfl
 have Af:b.size=b.data.toList.length:=by rw[ab9];rfl
 cases op<;>simp only[oR,aa1,acr,reduceCtorEq]at h<;>(try exact h.elim)<;>obtain⟨rfl,rfl⟩:=h
 case add=>
  simp only[aak]at J;have B3:¬(9223372036854775807<((a.size:Int)+(b.size:Int))):=by omega
  refine⟨.string (a++b),?_,λF=>.str _ _ (by simp)⟩;have Ap:IntKind.i64.max=9223372036854775807:=by decide
  have:¬(((a.size+b.size:Nat):Int)>IntKind.i64.max):=by rw[Ap];push_cast;omega
  simp only[binOp,Op.stringOp,this,acw,Sem.run_pure]
 all_goals
  refine⟨_,by simp only[binOp,Op.stringOp,ByteArray.toList_eq,Sem.run_pure],λF=>.bool _⟩
theorem VK{P:Program}{w:World}{F:Nat->Prop}{x y:D}{a b:Value}{r:Bool}{t:TypeId}(d:Nat)(h:wL (tk P t) x y=some r)(Z:aQ w F x a)(A0:aQ w F y b):
 (Op.equalIn (d+1) t a b).run P w=.ok r w:=by
 unfold wL at h;split at h
 ·rename_i A6 k n Ag m A9;split at h
  ·rename_i he;subst he;simp at h;subst h;cases Z;cases A0;exact run_equalIn_int w d t k _ n m (zP A9)
  ·cases h
 ·rename_i n m A9;simp at h;subst h;cases Z;cases A0;exact run_equalIn_bool' w d t n m (Jj A9)
 ·rename_i n m A9;simp at h;subst h;cases Z with|str n _ Aq=>cases A0 with|str m _ hm=>
  subst Aq;subst hm;rw[run_equalIn_string w d t n m (qk A9),ByteArray.toList_eq,ByteArray.toList_eq]
 ·cases h
theorem wO{P:Program}{w:World}{t:TypeId}{cs:Array Value}{off:Nat}{v:Value}(h:(tk P t).agg=false)(A7:tk P t≠.other)(H:cs[off]?=some v):(part t cs off).run P w=.ok v w:=by
 simp[part,ub A7,h,H]
theorem tH:∀{ks:List TK}{xs T:List D}{r:Bool},eT ks xs T=some r->xs.length=ks.length/\T.length=ks.length
 |[],[],[],_,_=>⟨rfl,rfl⟩
 |k::ks,x::xs,y::T,r,h=>by
  simp only[eT]at h;split at h
  ·rename_i M;obtain⟨a,b⟩:=tH M;simp[a,b]
  ·cases h
 |[],[],_::_,_,h=>by simp[eT]at h
 |[],_::_,_,_,h=>by simp[eT]at h
 |_::_,[],_,_,h=>by simp[eT]at h
 |_::_,_::_,[],_,h=>by simp[eT]at h
theorem Fq:∀{a b:List TK}{xs T:List D}{r:Bool},eT (a++b) xs T=some r->∃p q,eT a (xs.take a.length) (T.take a.length)=some p/\eT b (xs.drop a.length) (T.drop a.length)=some q/\r=(p&&q)
 |[],b,xs,T,r,h=>⟨true,r,by simp[eT],by simpa using h,by simp⟩
 |k::a,b,x::xs,y::T,r,h=>by
  simp only[af3,eT]at h;split at h
  ·rename_i u v O M;obtain⟨p,q,A3,A4,Ar⟩:=Fq M;cases h;refine⟨u&&p,q,?_,by simpa using A4,by rw[Ar,Bool.and_assoc]⟩;simp only[aan,List.take_succ_cons,eT,O,A3]
  ·cases h
 |_::_,_,[],_,_,h=>by simp[eT]at h
 |_::_,_,_::_,[],_,h=>by simp[eT]at h
theorem AN{P:Program}{w:World}{F:Nat->Prop}{rec:TypeId->Option (List TK)}{Ah:Nat}{V W:Array Value}
 (ih:∀(t:TypeId)(ks:List TK),rec t=some ks->∀(o:Nat)(xs T:List D)(r:Bool),eT ks xs T=some r->(∀(i:Nat) c v,xs[i]?=some c->V[o+i]?=some v->aQ w F c v)->(∀(i:Nat) c v,T[i]?=some c->W[o+i]?=some v->aQ w F c v)->
  o+xs.length<=V.size->o+T.length<=W.size->∃a b,(part t V o).run P w=.ok a w/\(part t W o).run P w=.ok b w/\(Op.equalIn Ah t a b).run P w=.ok r w):
 ∀(A':List Field)(o:Nat)(ks:List TK),Cu rec A' o=some ks->∀(xs T:List D)(r:Bool),eT ks xs T=some r->(∀(i:Nat) c v,xs[i]?=some c->V[o+i]?=some v->aQ w F c v)->(∀(i:Nat) c v,T[i]?=some c->W[o+i]?=some v->aQ w F c v)->
  o+xs.length<=V.size->o+T.length<=W.size->(Op.eqFields Ah V W A').run P w=.ok r w
 |[],o,ks,U,xs,T,r,h,_,_,_,_=>by
  simp only[Cu,aa1]at U;subst U;cases xs<;>cases T<;>simp[eT]at h;subst h;simp[Op.eqFields]
 |f::A',o,ks,U,xs,T,r,h,Z,A0,AK,AL=>by
  simp only[Cu]at U;split at U
  ·rename_i AA;obtain⟨As,At⟩:=AA;split at U
   ·rename_i AG O;split at U
    ·rename_i Ag M;cases U;obtain⟨p,q,A3,A4,rfl⟩:=Fq h;obtain⟨AH,AI⟩:=tH h;simp only[aam]at AH AI;obtain⟨a,b,g1,g2,g3⟩:=ih f.type AG O o _ _ p A3 (λi c v J H=>Z i c v (by rw[abW]at J;split at J;exact J;cases J) H) (λi c v J H=>A0 i c v (by rw[abW]at J;split at J;exact J;cases J) H) (by simp;omega) (by simp;omega);have g4:=AN ih A' (o+AG.length) Ag M _ _ q A4 (λi c v J H=>Z (AG.length+i) c v (by rw[acx]at J;exact J) (by rw[<-abY];exact H)) (λi c v J H=>A0 (AG.length+i) c v (by rw[acx]at J;exact J) (by rw[<-abY];exact H)) (by simp;omega) (by simp;omega);rw[<-At]at g1 g2;simp only[Op.eqFields,As,ne_eq,not_false_eq_true,acH,Sem.run_bind,g1,g2,g3,Result.andThen_ok,Sem.run_ite,Sem.run_pure,g4];cases p<;>simp
    ·cases U
   ·cases U
  ·cases U
theorem MV{P:Program}{w:World}{F:Nat->Prop}(d:Nat):∀(n:Nat)(V W:Array Value)(t:TypeId)(ks:List TK),Hr P n t=some ks->∀(o:Nat)(xs T:List D)(r:Bool),eT ks xs T=some r->
 (∀(i:Nat) c v,xs[i]?=some c->V[o+i]?=some v->aQ w F c v)->(∀(i:Nat) c v,T[i]?=some c->W[o+i]?=some v->aQ w F c v)->o+xs.length<=V.size->o+T.length<=W.size->
 ∃a b,(part t V o).run P w=.ok a w/\(part t W o).run P w=.ok b w/\(Op.equalIn (d+n) t a b).run P w=.ok r w
 |0,_,_,_,_,U,_,_,_,_,_,_,_,_,_=>by cases U
 |n+1,V,W,t,ks,U,o,xs,T,r,h,Z,A0,AK,AL=>by
  have one:∀k:TK,tk P t=k->k.agg=false->k≠.other->ks=[k]->∃a b,(part t V o).run P w=.ok a w/\(part t W o).run P w=.ok b w/\(Op.equalIn (d+(n+1)) t a b).run P w=.ok r w:=by
   rintro k A1 Ai Aj rfl;obtain⟨AH,AI⟩:=tH h;match xs,T,AH,AI with
   |[x],[y],_,_=>
    simp only[eT]at h;split at h
    ·rename_i u v O M;cases h;have H:v=true:=by simpa using M.symm
     subst H;simp only[ak8];simp only[aan,aaw]at AK AL;have A3:=wO (P:=P) (w:=w) (t:=t) (by rw[A1];exact Ai) (by rw[A1];exact Aj) (show V[o]?=some V[o] by simp[show o<V.size by omega]);have A4:=wO (P:=P) (w:=w) (t:=t) (by rw[A1];exact Ai) (by rw[A1];exact Aj) (show W[o]?=some W[o] by simp[show o<W.size by omega]);exact⟨_,_,A3,A4,VK (d+n) (by rw[A1];exact O) (Z 0 x _ rfl (by simp[show o<V.size by omega])) (A0 0 y _ rfl (by simp[show o<W.size by omega]))⟩
    ·cases h
  unfold Hr at U;split at U
  ·rename_i k A1;exact one _ A1 rfl (by simp) (by cases U;rfl)
  ·rename_i A1;exact one _ A1 rfl (by simp) (by cases U;rfl)
  ·rename_i A1;exact one _ A1 rfl (by simp) (by cases U;rfl)
  ·rename_i A1;split at U
   ·rename_i A' hu;split at U
    ·rename_i AM;split at U
     ·rename_i AD AO;split at U
      ·rename_i Au;cases U;obtain⟨AH,AI⟩:=tH h;have Ak:∀cs:Array Value,(part t cs o).run P w=.ok (.agg (cs.extract o (o+ks.length))) w:=by
        intro cs;have Ae:=ub (P:=P) (t:=t) (w:=w) (by rw[A1];simp);simp[part,Ae,A1,TK.agg,run_sizeOf Au]
       refine⟨_,_,Ak V,Ak W,?_⟩;have AA:P.fieldsOf t=A':=by simp[Program.fieldsOf,hu]
       show (Op.equalIn (d+n+1) t _ _).run P w=_;rw[run_equalIn_struct w (d+n) t _ _ (by rw[AA];exact hu) AM,AA];have hex:∀(cs:Array Value)(i:Nat)(v:Value),i<ks.length->(cs.extract o (o+ks.length))[0+i]?=some v->cs[o+i]?=some v:=by
        intro cs i v hi H;rw[ahI,Array.getElem?_extract]at H;split at H
        ·exact H
        ·cases H
       refine AN (F:=F) (λA8 AD AP AQ AR AS AT AU AW AX AY AZ=>MV d n _ _ A8 AD AP AQ AR AS AT AU AW AX AY AZ) A'.toList 0 ks AO xs T r h (λi c v J H=>?_) (λi c v J H=>?_) ?_ ?_
       ·have hi:=(D1.1 J).1;exact Z i c v J (hex V i v (by omega) H)
       ·have hi:=(D1.1 J).1;exact A0 i c v J (hex W i v (by omega) H)
       ·simp;omega
       ·simp;omega
      ·cases U
     ·cases U
    ·cases U
   ·cases U
  ·cases U
theorem Ri(P:Program)(S:St)(o:Oper)(op:BinOp)(t A8:TypeId)(x y:Operand)(A7:o.op=.binOp op t x y A8)(Z:(S.au x).1=true)(A0:(S.au y).1=true):aM P S o (sL P op t (S.au x).2 (S.au y).2):=by
 have AC:∀(a:Act)(w:World)(v:Value),(∀c,a.eval x≠.agg c)->a.eval x≠.nilIface->(binOp op t (a.eval x) (a.eval y)).run P w=.ok v w->(execOp a.eval o).run P w=.ok (.value v) w:=by
  intro a w v O M h;simp[execOp,A7,MT P w op t x y _ (a.eval y) ⟨O,M⟩,h]
 unfold sL;split
 ·rename_i k n A6 m Y AB;have I:∀{φ G a w},Rel φ G S a w->a.eval x=.int k n/\a.eval y=.int A6 m:=λE=>by
   have O:=E.au x Z;have M:=E.au y A0;rw[Y]at O;rw[AB]at M;exact⟨lF O,lF M⟩
  split
  ·refine aM.pure λJ φ G a w E=>?_;obtain⟨v,O,M⟩:=Cv P w .shl t k A6 n m _ _ rfl (af9 J);exact⟨v,AC a w v (by simp[(I E).1]) (by simp[(I E).1]) (by rw[(I E).1,(I E).2];exact O),.d _ _ (M _)⟩
  ·refine aM.pure λJ φ G a w E=>?_;obtain⟨v,O,M⟩:=Cv P w .shr t k A6 n m _ _ rfl (af9 J);exact⟨v,AC a w v (by simp[(I E).1]) (by simp[(I E).1]) (by rw[(I E).1,(I E).2];exact O),.d _ _ (M _)⟩
  ·split
   ·rename_i c d h;refine aM.pure ?_;rintro ⟨rfl,J⟩ φ G a w E;obtain⟨v,O,M⟩:=VI P w op t k n m c d h J;exact⟨v,AC a w v (by simp[(I E).1]) (by simp[(I E).1]) (by rw[(I E).1,(I E).2];exact O),.d _ _ (M _)⟩
   ·trivial
 ·rename_i s u Y AB;split
  ·rename_i c d h;refine aM.tG λJ φ G a w E=>?_;have O:=E.au x Z;have M:=E.au y A0;rw[Y]at O;rw[AB]at M;obtain⟨Av,A3,rfl⟩:=wJ O;obtain⟨Aw,A4,rfl⟩:=wJ M;obtain⟨v,A_,Aa⟩:=VJ P w op t Av Aw c d h J;exact⟨v,AC a w v (by simp[A3]) (by simp[A3]) (by rw[A3,A4];exact A_),.d _ _ (Aa _)⟩
  ·trivial
 ·rename_i n m Y AB;have I:∀{φ G a w},Rel φ G S a w->a.eval x=.bool n/\a.eval y=.bool m:=λE=>by
   have O:=E.au x Z;have M:=E.au y A0;rw[Y]at O;rw[AB]at M;exact⟨vX O,vX M⟩
  split
  ·refine aM.pure λJ φ G a w E=>⟨.bool (n == m),AC a w _ (by simp[(I E).1]) (by simp[(I E).1]) ?_,.d _ _ (.bool _)⟩;rw[(I E).1,(I E).2];simp[binOp,Op.equal,Op.maxDepth,run_equalIn_bool' w 9999 t n m (Jj J)]
  ·refine aM.pure λJ φ G a w E=>⟨.bool (n != m),AC a w _ (by simp[(I E).1]) (by simp[(I E).1]) ?_,.d _ _ (.bool _)⟩;rw[(I E).1,(I E).2];simp[binOp,Op.equal,Op.maxDepth,run_equalIn_bool' w 9999 t n m (Jj J),bne]
  ·trivial
 ·rename_i xs T Y AB;split
  ·rename_i ks A2;split
   ·rename_i r Ax;have key:∀{φ G a w},Rel φ G S a w->∃V W,a.eval x=.agg V/\a.eval y=.agg W/\(Op.equal t (.agg V) (.agg W)).run P w=.ok r w/\(eqGuard op t x y (.agg V) (.agg W)).run P w=.ok () w:=by
     intro φ G a w E;have O:=E.au x Z;have M:=E.au y A0;rw[Y]at O;rw[AB]at M;generalize a.eval x=B4 at O;generalize a.eval y=B5 at M;cases O with|d _ _ O=>
     cases M with|d _ _ M=>
     cases O with|agg _ V AK B6 Ay=>
     cases M with|agg _ W AL B7 Az=>
     unfold Hs at A2;split at A2
     ·rename_i A' hu;split at A2
      ·rename_i B';have AA:P.fieldsOf t=A':=by simp[Program.fieldsOf,hu]
       have A9:tk P t=.struct:=by simp[tk,hu]
       unfold Hr at A2;simp only[A9,hu]at A2;split at A2
       ·rename_i AM;split at A2
        ·rename_i AD AO;split at A2
         ·cases A2;refine⟨V,W,rfl,rfl,?_,?_⟩
          ·unfold Op.equal Op.maxDepth;rw[run_equalIn_struct w 9999 t V W (by rw[AA];exact hu) AM,AA];exact AN (F:=Fo G φ S.mem) (λA8 AD AP AQ AR AS AT AU AW AX AY AZ=>MV 9992 7 _ _ A8 AD AP AQ AR AS AT AU AW AX AY AZ) A'.toList 0 ks AO xs T r Ax (λi c v J H=>Ay i c v J (by simpa using H)) (λi c v J H=>Az i c v J (by simpa using H)) (by omega) (by omega)
          ·cases op<;>simp[eqGuard,B']
         ·cases A2
        ·cases A2
       ·cases A2
      ·cases A2
     ·cases A2
    split
    ·refine aM.pure λ_ φ G a w E=>?_;obtain⟨V,W,A3,A4,O,M⟩:=key E;exact⟨.bool r,by simp[execOp,A7,A3,A4,M,binOp,O],.d _ _ (.bool _)⟩
    ·refine aM.pure λ_ φ G a w E=>?_;obtain⟨V,W,A3,A4,O,M⟩:=key E;exact⟨.bool (!r),by simp[execOp,A7,A3,A4,M,binOp,O],.d _ _ (.bool _)⟩
    ·trivial
   ·trivial
  ·trivial
 ·trivial
def lq(P:Program)(m:Mem)(neg:Bool)(t:TypeId)(x:AV):Value->dO
 | .slice none 0 0=>match tk P t with
  | .slice _=>match x with
   | .d (.list (_::_))=>.val true (.d (.bool neg))
   | .lit (.slice none 0 0)=>.val true (.d (.bool (!neg)))
   | .nn=>.val true (.d (.bool neg))
   | .vec k ar _ len=>match Mem.get m k with
    |some ⟨_,v,.vec _ _⟩=>.val (v=ar/\0<len) (.d (.bool neg))
    |_=>.no
   |_=>.no
  |_=>.no
 | .pointer none=>match tk P t with
  | .ptr _=>match x with
   | .lit (.pointer none)=>.val true (.d (.bool (!neg)))
   | .ptr k ar _=>match Mem.get m k with
    |some ⟨_,v,_⟩=>.val (v=ar) (.d (.bool neg))
    |_=>.no
   |_=>.no
  |_=>.no
 | .nilIface=>match tk P t with
  | .iface=>match x with
   | .iA _ _=>.val true (.d (.bool neg))
   | .err=>.val true (.d (.bool neg))
   | .lit .nilIface=>.val true (.d (.bool (!neg)))
   |_=>.no
  |_=>.no
 |_=>.no
theorem VL{φ w F d Ab v}(h:aH φ w F (.d (.list (d::Ab))) v):∃b off cap,v=.slice (some ⟨b,off,none⟩) (Ab.length+1) cap:=by
 cases h with|d _ _ h=>
 cases h with|list _ b off cap sz vs=>exact⟨b,off,cap,rfl⟩
theorem akx{P:Program}{t e:TypeId}(h:tk P t=.ptr e):P.underlying t=some (.pointer e):=by
 unfold tk at h;split at h<;>simp_all
theorem adl{P:Program}{t:TypeId}(h:tk P t=.iface):∃ms,P.underlying t=some (.interface ms):=by
 unfold tk at h;split at h<;>simp_all
theorem tI{P:Program}(w:World)(d:Nat){t e:TypeId}(a:Option Addr)(n c:Nat)(h:P.underlying t=some (.slice e)):
 (Op.equalIn (d+1) t (.slice a n c) (.slice none 0 0)).run P w=.ok a.isNone w:=by
 cases a<;>simp[Op.equalIn,run_underlying h]
theorem Kj{P:Program}(w:World)(d:Nat){t e:TypeId}(a:Option Addr)(h:P.underlying t=some (.pointer e)):
 (Op.equalIn (d+1) t (.pointer a) (.pointer none)).run P w=.ok a.isNone w:=by
 cases a<;>simp[Op.equalIn,run_underlying h]
theorem Ft{P:Program}(w:World)(d:Nat){t:TypeId}{ms}(B0:TypeId)(v:Value)(h:P.underlying t=some (.interface ms)):
 (Op.equalIn (d+1) t (.iface B0 v) .nilIface).run P w=.ok false w:=by
 simp[Op.equalIn,run_underlying h]
theorem MX{P:Program}(w:World)(d:Nat){t:TypeId}{ms}(h:P.underlying t=some (.interface ms)):
 (Op.equalIn (d+1) t .nilIface .nilIface).run P w=.ok true w:=by
 simp[Op.equalIn,run_underlying h]
theorem ail{P:Program}{o:Oper}{neg:Bool}{t A8:TypeId}{x:Operand}{v:Value}(A7:o.op=.binOp (if neg then .neq else .eql) t x (.const v) A8){a:Act}{w:World}{b:Bool}
 (O:∀c,a.eval x≠.agg c) (Al:v=.slice none 0 0\/v=.pointer none\/v=.nilIface) (An:(∀k n,a.eval x≠.int k n)/\(∀k n,a.eval x≠.float k n)/\(∀k n m,a.eval x≠.complex k n m)/\(∀s,a.eval x≠.string s))
 (h:(Op.equalIn 10000 t (a.eval x) v).run P w=.ok b w):(execOp a.eval o).run P w=.ok (.value (.bool (if neg then !b else b))) w:=by
 have e:a.eval (.const v)=v:=rfl;have AE:(eqGuard (if neg then .neq else .eql) t x (.const v) (a.eval x) v).run P w=.ok () w:=by
  unfold eqGuard;generalize a.eval x=u at O⊢;rcases Al with rfl|rfl|rfl<;>cases u<;>cases neg<;>simp
 have Af:(binOp (if neg then .neq else .eql) t (a.eval x) v).run P w=.ok (.bool (if neg then !b else b)) w:=by
  generalize a.eval x=u at h An⊢;obtain⟨g1,g2,g3,g4⟩:=An;rcases Al with rfl|rfl|rfl<;>cases u<;>cases neg<;>simp_all [binOp,Op.equal,Op.maxDepth]
 simp only[execOp,A7,e,Sem.run_bind,AE,Result.andThen_ok,Af,Sem.run_pure]
theorem Rj(P:Program)(S:St)(o:Oper)(neg:Bool)(t A8:TypeId)(x:Operand)(v:Value)(A7:o.op=.binOp (if neg then .neq else .eql) t x (.const v) A8)(Z:(S.au x).1=true):aM P S o (lq P S.mem neg t (S.au x).2 v):=by
 have go:∀{φ G a w}{b:Bool},Rel φ G S a w->(∀c,a.eval x≠.agg c)->(v=.slice none 0 0\/v=.pointer none\/v=.nilIface)->((∀k n,a.eval x≠.int k n)/\(∀k n,a.eval x≠.float k n)/\(∀k n m,a.eval x≠.complex k n m)/\(∀s,a.eval x≠.string s))->
  (Op.equalIn 10000 t (a.eval x) v).run P w=.ok b w->∃AJ,(execOp a.eval o).run P w=.ok (.value AJ) w/\aH φ w (Fo G φ S.mem) (.d (.bool (if neg then !b else b))) AJ:=by
  intro φ G a w b E O M A_ Aa;exact⟨_,ail A7 O M A_ Aa,.d _ _ (.bool _)⟩
 have B8:∀{b:Bool},(if neg=true then !b else b)=(if neg=true then !b else b):=rfl;unfold lq;split
 ·split
  ·rename_i e AF;have A5:=gO AF;split
   ·rename_i d Ab Y;refine aM.tG λ_ φ G a w E=>?_;have H:=E.au x Z;rw[Y]at H;obtain⟨b,off,cap,I⟩:=VL H;have:=go (b:=false) E (by simp[I]) (.inl rfl) (by simp[I]) (by rw[I];exact tI w 9999 _ _ _ A5);cases neg<;>simpa using this
   ·rename_i Y;refine aM.tG λ_ φ G a w E=>?_;have H:=E.au x Z;rw[Y]at H;generalize I:a.eval x=u at H;cases H;have:=go (b:=true) E (by simp[I]) (.inl rfl) (by simp[I]) (by rw[I];exact tI w 9999 _ _ _ A5);cases neg<;>simpa using this
   ·rename_i Y;refine aM.tG λ_ φ G a w E=>?_;have H:=E.au x Z;rw[Y]at H;generalize I:a.eval x=u at H;cases H;have:=go (b:=false) E (by simp[I]) (.inl rfl) (by simp[I]) (by rw[I];exact tI w 9999 _ _ _ A5);cases neg<;>simpa using this
   ·rename_i k ar off len Y;split
    ·rename_i key AJ sz aj AE;refine aM.pure ?_;rintro ⟨rfl,B9⟩ φ G a w E;have H:=E.au x Z;rw[Y]at H;obtain⟨hm,U,L,Ac,Ad,B1⟩:=E.mem.get AE;generalize I:a.eval x=u at H;cases H with
     |vec _ _ _ _ _ L' Ao _ h _=>
      rw[Ac]at Ao;cases Ao;obtain⟨ao,cap,rfl,BA,B2⟩:=h Ad.symm;obtain⟨rfl,_⟩:=B2 (by omega);have:=go (b:=false) E (by simp[I]) (.inl rfl) (by simp[I]) (by rw[I];exact tI w 9999 _ _ _ A5);cases neg<;>simpa using this
    ·trivial
   ·trivial
  ·trivial
 ·split
  ·rename_i e AF;have A5:=akx AF;split
   ·rename_i Y;refine aM.tG λ_ φ G a w E=>?_;have H:=E.au x Z;rw[Y]at H;generalize I:a.eval x=u at H;cases H;have:=go (b:=true) E (by simp[I]) (.inr (.inl rfl)) (by simp[I]) (by rw[I];exact Kj w 9999 _ A5);cases neg<;>simpa using this
   ·rename_i k ar off Y;split
    ·rename_i key AJ c AE;refine aM.pure ?_;rintro rfl φ G a w E;have H:=E.au x Z;rw[Y]at H;obtain⟨hm,U,L,Ac,Ad,B1⟩:=E.mem.get AE;have I:=H.uc Ac Ad;have:=go (b:=false) E (by simp[I]) (.inr (.inl rfl)) (by simp[I]) (by rw[I];exact Kj w 9999 _ A5);cases neg<;>simpa using this
    ·trivial
   ·trivial
  ·trivial
 ·split
  ·rename_i AF;obtain⟨ms,A5⟩:=adl AF;split
   ·rename_i BB BC Y;refine aM.tG λ_ φ G a w E=>?_;have H:=E.au x Z;rw[Y]at H;generalize I:a.eval x=u at H;cases H;have:=go (b:=false) E (by simp[I]) (.inr (.inr rfl)) (by simp[I]) (by rw[I];exact Ft w 9999 _ _ A5);cases neg<;>simpa using this
   ·rename_i Y;refine aM.tG λ_ φ G a w E=>?_;have H:=E.au x Z;rw[Y]at H;generalize I:a.eval x=u at H;cases H;have:=go (b:=false) E (by simp[I]) (.inr (.inr rfl)) (by simp[I]) (by rw[I];exact Ft w 9999 _ _ A5);cases neg<;>simpa using this
   ·rename_i Y;refine aM.tG λ_ φ G a w E=>?_;have H:=E.au x Z;rw[Y]at H;generalize I:a.eval x=u at H;cases H;have:=go (b:=true) E (by simp[I]) (.inr (.inr rfl)) (by simp[I]) (by rw[I];exact MX w 9999 A5);cases neg<;>simpa using this
   ·trivial
  ·trivial
 ·trivial
def lG(s:List UInt8)(i:Nat):UInt8:=s[i]?.getD 0
def sM(P:Program)(t:TypeId)(x i:AV):dO:=
 match i with
 | .d (.int _ n)=>match x with
  | .d (.str s)=>.val (tk P t=.str/\0<=n/\n.toNat<s.length) (.d (.int .u8 (lG s n.toNat).toNat))
  | .d (.agg cs)=>match tk P t with
   | .arr len e=>match (tk P e).agg,gr P e with
    |false,some 1=>.val (0<=n/\n.toNat<len/\len<=cs.length/\tk P e≠.other) (.d (D.at cs n.toNat))
    |true,some sz=>.val (0<=n/\n.toNat<len/\len*sz<=cs.length) (.d (.agg ((cs.drop (n.toNat*sz)).take sz)))
    |_,_=>.no
   |_=>.no
  |_=>.no
 |_=>.no
theorem ZI(b:ByteArray)(i:Nat):b[i]?=b.data.toList[i]?:=by
 by_cases h:i<b.size
 ·have AJ:i<b.data.size:=h;rw[getElem?_pos b i h,ah1,getElem?_pos b.data i AJ];rfl
 ·have AJ:¬i<b.data.size:=h;rw[getElem?_neg b i h,ah1,getElem?_neg b.data i AJ]
theorem MY{P:Program}{w:World}{t:TypeId}{b:ByteArray}{k:IntKind}{n:Int}(AB:tk P t=.str)(V:0<=n)(J:n.toNat<b.data.toList.length):
 (Instr.index t (.string b) (.int k n)).run P w=.ok (.int .u8 (lG b.data.toList n.toNat).toNat) w:=by
 have e:b[n.toNat]?=some (lG b.data.toList n.toNat):=by rw[ZI];simp only[lG];rw[abJ J];rfl
 simp only[Instr.index,asIntOf,Sem.run_bind,Sem.run_pure,Result.andThen_ok,run_underlying (qk AB),V,acH,e]
theorem Kk{P:Program}{w:World}{t:TypeId}{cs:Array Value}{off n:Nat}(h:(tk P t).agg=true)(Z:gr P t=some n):(part t cs off).run P w=.ok (.agg (cs.extract off (off+n))) w:=by
 have M:tk P t≠.other:=by intro AJ;rw[AJ]at h;cases h
 simp[part,ub M,h,run_sizeOf Z]
theorem BS{w F}{cs:List D}{a:Array Value}(h:aQ w F (.agg cs) (.agg a))(o n:Nat)(hle:o+n<=cs.length):aQ w F (.agg ((cs.drop o).take n)) (.agg (a.extract o (o+n))):=by
 have W:=h.cells;cases h with|agg _ _ J Ac H=>
 have O:=aQ.rj (w:=w) (F:=F) (cs:=(cs.drop o).take n) (vs:=(a.toList.drop o).take n) (by simp;omega)
  (λv AG=>W.2.1 v (by simpa [Value.cells]using acJ (afM AG)))
  (λi c v E O=>by
   rw[abW]at E O;split at E
   ·rename_i hi;simp only[hi,acH]at O;exact H (o+i) c v (by simpa using E) (by simpa using O)
   ·cases E)
 have e:((a.toList.drop o).take n).toArray=a.extract o (o+n):=by
  apply Array.ext';simp
 rwa [e]at O
theorem ZJ(P:Program)(S:St)(o:Oper)(t:TypeId)(x i:Operand)(M:o.op=.index t x i)(I:(S.au x).1=true)(hi:(S.au i).1=true):aM P S o (sM P t (S.au x).2 (S.au i).2):=by
 unfold sM;split
 ·rename_i k n AX;split
  ·rename_i s T;refine aM.pure ?_;rintro ⟨AB,V,J⟩ φ G a w H;have E:=H.au x I;have O:=H.au i hi;rw[T]at E;rw[AX]at O;obtain⟨b,A2,rfl⟩:=wJ E;exact⟨_,by simp only[execOp,M,A2,lF O,Sem.run_bind,MY AB V J];rfl,.d _ _ (.int _ _)⟩
  ·rename_i cs T;split
   ·rename_i len e U;split
    ·rename_i AY Z;refine aM.pure ?_;rintro ⟨V,J,hle,AZ⟩ φ G a w H;have E:=H.au x I;have O:=H.au i hi;rw[T]at E;rw[AX]at O;generalize Y:a.eval x=av at E;cases E with|d _ _ E=>
     cases E with|agg _ A5 Aq Ar Ad=>
     have AC:n<(len:Int):=by omega
     have Ae:n.toNat<A5.size:=by omega
     refine⟨A5[n.toNat],?_,.d _ _ (Ad n.toNat _ _ (lA (by omega)) (by simp[Ae]))⟩;have AD:=wO (P:=P) (w:=w) (t:=e) (cs:=A5) (off:=n.toNat*1) AY AZ (v:=A5[n.toNat]) (by simp[Ae]);simp only[alb]at AD;simp[execOp,M,Y,lF O,Instr.index,asIntOf,run_underlying (wK U),V,AC,run_sizeOf Z,AD]
    ·rename_i sz AY Z;refine aM.pure ?_;rintro ⟨V,J,hle⟩ φ G a w H;have E:=H.au x I;have O:=H.au i hi;rw[T]at E;rw[AX]at O;generalize Y:a.eval x=av at E;cases E with|d _ _ E=>
     have As:=E;cases E with|agg _ A5 Aq Ar Ad=>
     have AC:n<(len:Int):=by omega
     have At:n.toNat*sz+sz<=cs.length:=by
      have:(n.toNat+1)*sz<=len*sz:=abS _ J;rw[af6]at this;omega
     refine⟨_,?_,.d _ _ (BS As (n.toNat*sz) sz At)⟩;have AD:=Kk (P:=P) (w:=w) (t:=e) (cs:=A5) (off:=n.toNat*sz) AY Z;simp[execOp,M,Y,lF O,Instr.index,asIntOf,run_underlying (wK U),V,AC,run_sizeOf Z,AD]
    ·trivial
   ·trivial
  ·trivial
 ·trivial
def bound(m:Option AV)(AO:Int):Option Int:=
 match m with
 |none=>some AO
 |some (.d (.int _ n))=>some n
 |some _=>none
def mI(P:Program)(m:Mem)(t:TypeId)(x:AV)(lo hi:Option AV):dO:=
 match x with
 | .d (.str s)=>match bound lo 0,bound hi s.length with
  |some l,some h=>.val (tk P t=.str/\0<=l/\l<=h/\h.toNat<=s.length) (.d (.str ((s.take h.toNat).drop l.toNat)))
  |_,_=>.no
 | .d (.list xs)=>match tk P t with
  | .slice e=>match gr P e,bound lo 0,bound hi xs.length with
   |some sz,some l,some h=>.val (0<=l/\l<=h/\h.toNat<=xs.length/\(∀d∈xs,d.size=sz)) (.d (.list ((xs.take h.toNat).drop l.toNat)))
   |_,_,_=>.no
  |_=>.no
 | .vec k ar off len=>match tk P t,Mem.get m k with
  | .slice e,some ⟨_,v,.vec A3 _⟩=>match gr P e,bound lo 0,bound hi len with
   |some sz,some l,some h=>.val (v=ar/\A3=sz/\0<=l/\l<=h/\h.toNat<=len) (.vec k ar (off+l.toNat) (h.toNat-l.toNat))
   |_,_,_=>.no
  | .slice e,some ⟨_,v,.vv _ _⟩=>match gr P e,bound lo 0,bound hi len with
   |some sz,some l,some h=>.val (v=ar/\sz=1/\0<=l/\l<=h/\h.toNat<=len) (.vec k ar (off+l.toNat) (h.toNat-l.toNat))
   |_,_,_=>.no
  |_,_=>.no
 | .cS k ar i j=>match tk P t,Mem.get m k with
  | .arr n e,some ⟨_,v,.vec A3 aj⟩=>match gr P e,bound lo 0,bound hi n with
   |some sz,some l,some h=>.val (v=ar/\A3=sz/\i=0/\j=0/\n<=aj.length/\0<=l/\l<=h/\h.toNat<=n) (.vec k ar l.toNat (h.toNat-l.toNat))
   |_,_,_=>.no
  |_,_=>.no
 | .ptr k ar off=>match tk P t,Mem.get m k with
  | .arr n e,some ⟨_,v,.box cs⟩=>match gr P e,bound lo 0,bound hi n with
   |some sz,some l,some h=>.val (v=ar/\sz=1/\off+n<=cs.length/\0<=l/\l<=h/\h.toNat<=n) (.vec k ar (off+l.toNat) (h.toNat-l.toNat))
   |_,_,_=>.no
  |_,_=>.no
 |_=>.no
theorem jT{P:Program}{w:World}{isS:Bool}{len cap:Nat}{lo hi:Option Value}{l h:Int}
 (A7:(lo=none/\l=0)\/∃k,lo=some (.int k l)) (A8:(hi=none/\h=len)\/∃k,hi=some (.int k h)) (V:0<=l) (hle:l<=h) (A1:h.toNat<=cap):
 (Instr.sliceBounds isS len cap lo hi none).run P w=.ok (l.toNat,h.toNat,cap) w:=by
 have E:h<=(cap:Int):=by omega
 have O:0<=h:=by omega
 have AK:l<=(h.toNat:Int):=by omega
 rcases A7 with ⟨rfl,rfl⟩|⟨k,rfl⟩<;>rcases A8 with ⟨rfl,rfl⟩|⟨B6,rfl⟩<;>
  simp_all [Instr.sliceBounds,Instr.sliceBound,asIntOf]
theorem iU{S:St}{φ G a w}(H:Rel φ G S a w){x:Option Operand}{AO n:Int}(I:∀y,x=some y->(S.au y).1=true)(h:bound (x.map λy=>(S.au y).2) AO=some n):
 (x.map a.eval=none/\n=AO)\/∃k,x.map a.eval=some (.int k n):=by
 cases x with
 |none=>simp[bound]at h;exact .inl ⟨rfl,h.symm⟩
 |some y=>
  right;simp only[ah3]at h⊢;unfold bound at h;split at h
  ·rename_i heq;cases heq
  ·rename_i k m heq;simp at h heq;subst h;have:=H.au y (I y rfl);rw[heq]at this;exact⟨k,by rw[lF this]⟩
  ·cases h
theorem VN{w F xs v sz}(h:aQ w F (.list xs) v)(Z:∀d∈xs,d.size=sz){l hh:Nat}(hle:l<=hh)(Au:hh<=xs.length):
 ∃ao cap,v=.slice ao xs.length cap/\xs.length<=cap/\(ao=none->cap=0)/\∀AH AL,(AL=none->AH=0)->hh-l<=AH->(AL=ao.map (·.add (l*sz))\/(hh-l=0))->aQ w F (.list ((xs.take hh).drop l)) (.slice AL (hh-l) AH):=by
 have J:((xs.take hh).drop l).length=hh-l:=by simp;omega
 generalize I:D.list xs=x at h;cases h with
 |nil a c A_=>
  simp at I;subst I;refine⟨a,c,rfl,by simp,A_,λAH AL Aa _ _=>?_⟩;have E:hh-l=0:=by simp at Au;omega
  rw[E];simp;exact .nil _ _ Aa
 |list AM b off cap A3 vs A1 Av Aw AP AG W=>
  simp at I;subst I;refine⟨_,cap,rfl,A1,by simp,λAH AL Aa AQ AR=>?_⟩;by_cases Af:hh-l=0
  ·have e:(xs.take hh).drop l=[]:=abO (by omega);rw[e,Af];exact .nil _ _ Aa
  ·have AR:=AR.resolve_right Af;have Ax:A3=sz:=by
    have Ag:0<xs.length:=by omega
    rw[<-AP xs[0] (ahV Ag),Z xs[0] (ahV Ag)]
   subst Ax;simp only[ah3,gu]at AR;rw[AR,<-J];refine .list _ b (off+l*A3) AH A3 (λi=>vs (l+i)) (by rw[J];exact AQ) Av Aw (λd A9=>AP d (afM (acJ A9))) (λi d A9=>?_) (λi j c hi Ay=>?_)
   ·rw[acx,abW]at A9;split at A9
    ·exact AG _ d A9
    ·cases A9
   ·have:=W (l+i) j c (by rw[J]at hi;omega) Ay;rw[af6,<-abY]at this;exact this
 |_=>simp at I
theorem adn(P:Program)(S:St)(o:Oper)(t:TypeId)(x:Operand)(lo hi:Option Operand)(M:o.op=.slice t x lo hi none)(I:(S.au x).1=true)(A7:∀y,lo=some y->(S.au y).1=true)(A8:∀y,hi=some y->(S.au y).1=true):
 aM P S o (mI P S.mem t (S.au x).2 (lo.map λy=>(S.au y).2) (hi.map λy=>(S.au y).2)):=by
 unfold mI;split
 ·rename_i s T;split
  ·rename_i l h J hh;refine aM.pure ?_;rintro ⟨AB,V,hle,A1⟩ φ G a w H;have E:=H.au x I;rw[T]at E;obtain⟨b,A2,rfl⟩:=wJ E;have AS:b.size=b.data.toList.length:=by rw[ab9];rfl
   have A4:=jT (P:=P) (w:=w) (isS:=false) (len:=b.size) (cap:=b.size) (iU H A7 J) (by have:=iU H A8 hh;rw[<-AS]at this;exact this) V hle (by rw[AS];exact A1);refine⟨.string (b.extract l.toNat h.toNat),?_,.d _ _ (.str _ _ ?_)⟩
   ·simp[execOp,M,A2,Instr.sliceAt,Instr.slice,run_underlying (qk AB),A4]
   ·simp[ByteArray.data_extract,List.drop_take]
  ·trivial
 ·rename_i xs T;split
  ·rename_i e U;split
   ·rename_i sz l h Z J hh;refine aM.pure ?_;rintro ⟨V,hle,A1,AP⟩ φ G a w H;have E:=H.au x I;rw[T]at E;generalize Y:a.eval x=av at E;cases E with|d _ _ E=>
    obtain⟨ao,cap,rfl,B7,A_,Az⟩:=VN E AP (l:=l.toNat) (hh:=h.toNat) (by omega) A1;have W:h.toNat<=cap:=by omega
    have A4:=jT (P:=P) (w:=w) (isS:=true) (len:=xs.length) (cap:=cap) (iU H A7 J) (iU H A8 hh) V hle W;refine⟨.slice (if cap=l.toNat then ao else ao.map (·.add (l.toNat*sz))) (h.toNat-l.toNat) (cap-l.toNat),?_,.d _ _ (Az _ _ (λAC=>?_) (by omega) ?_)⟩
    ·simp[execOp,M,Y,Instr.sliceAt,Instr.slice,run_underlying (gO U),A4,run_sizeOf Z]
    ·have:ao=none:=by split at AC<;>simp_all
     have:=A_ this;omega
    ·by_cases B':cap=l.toNat
     ·exact .inr (by omega)
     ·exact .inl (by simp[B'])
   ·trivial
  ·trivial
 ·rename_i k ar off len T;split
  ·rename_i e key v A3 aj U A6;split
   ·rename_i sz l h Z J hh;refine aM.pure ?_;rintro ⟨rfl,rfl,V,hle,A1⟩ φ G a w H;have E:=H.au x I;rw[T]at E;obtain⟨hm,AT,L,A0,A',AE⟩:=H.mem.get A6;simp only at A';generalize Y:a.eval x=av at E;cases E with
    |vec _ _ _ _ _ L' AA _ AF _=>
     rw[A0]at AA;cases AA;obtain⟨ao,cap,rfl,Ah,AU⟩:=AF A'.symm;clear AF;have A4:=jT (P:=P) (w:=w) (isS:=true) (len:=len) (cap:=cap) (iU H A7 J) (iU H A8 hh) V hle (by omega);refine⟨.slice (if cap=l.toNat then ao else ao.map (·.add (l.toNat*A3))) (h.toNat-l.toNat) (cap-l.toNat),?_,?_⟩
     ·simp[execOp,M,Y,Instr.sliceAt,Instr.slice,run_underlying (gO U),A4,run_sizeOf Z]
     ·refine .vec k v _ _ _ L A0 (by omega) (λ_=>⟨_,_,rfl,by omega,λW=>?_⟩) rfl;obtain⟨rfl,B0⟩:=AU (by omega);refine⟨?_,by omega⟩;rw[aab (by omega)];simp only[ah3,gu,AE.1,af6,abY]
   ·trivial
  ·rename_i e key v aj y U A6;split
   ·rename_i sz l h Z J hh;refine aM.pure ?_;rintro ⟨rfl,rfl,V,hle,A1⟩ φ G a w H;have E:=H.au x I;rw[T]at E;obtain⟨hm,AT,L,A0,A',AE⟩:=H.mem.get A6;simp only at A';generalize Y:a.eval x=av at E;cases E with
    |vec _ _ _ _ _ L' AA _ AF _=>
     rw[A0]at AA;cases AA;obtain⟨ao,cap,rfl,Ah,AU⟩:=AF A'.symm;clear AF;have A4:=jT (P:=P) (w:=w) (isS:=true) (len:=len) (cap:=cap) (iU H A7 J) (iU H A8 hh) V hle (by omega);refine⟨.slice (if cap=l.toNat then ao else ao.map (·.add (l.toNat*1))) (h.toNat-l.toNat) (cap-l.toNat),?_,?_⟩
     ·simp[execOp,M,Y,Instr.sliceAt,Instr.slice,run_underlying (gO U),A4,run_sizeOf Z]
     ·refine .vec k v _ _ _ L A0 (by omega) (λ_=>⟨_,_,rfl,by omega,λW=>?_⟩) rfl;obtain⟨rfl,B0⟩:=AU (by omega);refine⟨?_,by omega⟩;rw[aab (by omega)];simp only[ah3,gu,AE.1.1,af6,abY]
   ·trivial
  ·trivial
 ·rename_i k ar i j T;split
  ·rename_i n e key v A3 aj U A6;split
   ·rename_i sz l h Z J hh;refine aM.pure ?_;rintro ⟨rfl,rfl,rfl,rfl,AC,V,hle,A1⟩ φ G a w H;have E:=H.au x I;rw[T]at E;obtain⟨hm,AT,L,A0,A',AE⟩:=H.mem.get A6;simp only at A';have A2:=E.mF A0 A';have A4:=jT (P:=P) (w:=w) (isS:=false) (len:=n) (cap:=n) (iU H A7 J) (iU H A8 hh) V hle A1;refine⟨.slice (some (if n=l.toNat then ⟨L.dZ,L.base,none⟩else ⟨L.dZ,L.base+l.toNat*A3,none⟩)) (h.toNat-l.toNat) (n-l.toNat),?_,?_⟩
    ·simp[execOp,M,A2,Instr.sliceAt,Instr.sureAddr,run_underlying (wK U),A4,run_sizeOf Z,gu]
    ·refine .vec k v _ _ _ L A0 (by omega) (λ_=>⟨_,_,rfl,by omega,λW=>⟨?_,by have:=AE.2.1;omega⟩⟩) rfl;rw[aab (by omega),AE.1]
   ·trivial
  ·trivial
 ·rename_i k ar off T;split
  ·rename_i n e key v cs U A6;split
   ·rename_i sz l h Z J hh;refine aM.pure ?_;rintro ⟨rfl,rfl,AC,V,hle,A1⟩ φ G a w H;have E:=H.au x I;rw[T]at E;obtain⟨hm,AT,L,A0,A',⟨B1,z2,z3⟩,_⟩:=H.mem.get A6;simp only at A';have A2:=E.uc A0 A';have A4:=jT (P:=P) (w:=w) (isS:=false) (len:=n) (cap:=n) (iU H A7 J) (iU H A8 hh) V hle A1;refine⟨.slice (some (if n=l.toNat then ⟨L.dZ,off,none⟩else ⟨L.dZ,off+l.toNat,none⟩)) (h.toNat-l.toNat) (n-l.toNat),?_,?_⟩
    ·simp[execOp,M,A2,Instr.sliceAt,Instr.sureAddr,run_underlying (wK U),A4,run_sizeOf Z,gu]
    ·refine .vec k v _ _ _ L A0 (by omega) (λ_=>⟨_,_,rfl,by omega,λW=>⟨?_,by omega⟩⟩) rfl;rw[aab (by omega),B1,z2];simp
   ·trivial
  ·trivial
 ·trivial
def Hv(t:Bool)(x y:D):D:=
 match x,y with
 | .bool a,.bool b=>.bool (bif t then a else b)
 |x,y=>bif t then x else y
def wP(t:Bool)(x y:AV):AV:=
 match x,y with
 | .d x,.d y=>.d (Hv t x y)
 |x,y=>bif t then x else y
def Md(c a b:Bool×AV):dO:=
 match c.2 with
 | .d (.bool t)=>.val (c.1=true/\(t=true->a.1=true)/\(t=false->b.1=true)) (wP t a.2 b.2)
 |_=>.no
theorem aim(P:Program)(S:St)(o:Oper)(c x y:Operand)(M:o.op=.pick c x y):aM P S o (Md (S.au c) (S.au x) (S.au y)):=by
 unfold Md;split
 ·rename_i t W;refine aM.pure ?_;rintro ⟨E,O,AK⟩ φ G a w H;have Ai:=H.au c E;rw[W]at Ai;have e:=vX Ai;cases t
  ·have AW:=H.au y (AK rfl);refine⟨a.eval y,by simp[execOp,M,e,asBool],?_⟩;have AN:wP false (S.au x).2 (S.au y).2=(S.au y).2:=by
    unfold wP;split
    ·rename_i u v Aj Ak;rw[Ak];congr 1;unfold Hv;split<;>rfl
    ·rfl
   rw[AN];exact AW
  ·have I:=H.au x (O rfl);refine⟨a.eval x,by simp[execOp,M,e,asBool],?_⟩;have AN:wP true (S.au x).2 (S.au y).2=(S.au x).2:=by
    unfold wP;split
    ·rename_i u v Aj Ak;rw[Aj];congr 1;unfold Hv;split<;>rfl
    ·rfl
   rw[AN];exact I
 ·trivial
theorem ain(P:Program)(S:St)(o:Oper)(x:Operand)(M:o.op=.move x\/o.op=.assign x)(I:(S.au x).1=true):aM P S o (.val True (S.au x).2):=by
 refine aM.pure λ_ φ G a w H=>⟨a.eval x,?_,H.au x I⟩;rcases M with M|M<;>simp[execOp,M]
def MZ(op:UnOp)(x:AV):dO:=
 match op,x with
 | .not,.d (.bool b)=>.val True (.d (.bool (!b)))
 | .neg,.d (.int k n)=>.val True (.d (.int k (k.wrap (0-n))))
 | .xor,.d (.int k n)=>.val True (.d (.int k (k.wrap (BitVec.ofInt k.bits (if k.signed then-1 else k.max) ^^^ BitVec.ofInt k.bits n).toNat)))
 |_,_=>.no
theorem aqh(P:Program)(S:St)(o:Oper)(op:UnOp)(t:TypeId)(x:Operand)(M:o.op=.unOp op t x)(I:(S.au x).1=true):aM P S o (MZ op (S.au x).2):=by
 unfold MZ;split
 ·rename_i b T;refine aM.pure λ_ φ G a w H=>?_;have E:=H.au x I;rw[T]at E;exact⟨.bool (!b),by simp[execOp,M,vX E,Op.unary],.d _ _ (.bool _)⟩
 ·rename_i k n T;refine aM.pure λ_ φ G a w H=>?_;have E:=H.au x I;rw[T]at E;exact⟨.int k (k.wrap (0-n)),by simp only[execOp,M,lF E,Op.unary,Op.intArith,Sem.run_bind,Sem.run_pure,Result.andThen_ok],.d _ _ (.int _ _)⟩
 ·rename_i k n T;refine aM.pure λ_ φ G a w H=>?_;have E:=H.au x I;rw[T]at E;exact⟨_,by simp only[execOp,M,lF E,Op.unary,Op.intBits,Sem.run_bind,Sem.run_pure,Result.andThen_ok],.d _ _ (.int _ _)⟩
 ·trivial
def wQ(i:Nat)(x:AV):dO:=
 match x with
 | .aY vs=>match vs[i]? with
  |some v=>.val True v
  |none=>.no
 |_=>.no
theorem VO(P:Program)(S:St)(o:Oper)(x:Operand)(i:Nat)(M:o.op=.extract x i)(I:(S.au x).1=true):aM P S o (wQ i (S.au x).2):=by
 unfold wQ;split
 ·rename_i vs T;split
  ·rename_i v AG;refine aM.pure λ_ φ G a w H=>?_;have E:=H.au x I;rw[T]at E;generalize Y:a.eval x=av at E;cases E with|aY _ A5 J W=>
   have hi:i<A5.size:=by rw[<-J];exact (D1.1 AG).1
   exact⟨A5[i],by simp[execOp,M,Y,Instr.extract,hi],W i v _ AG (by simp[hi])⟩
  ·trivial
 ·trivial
def ru(f:Fn)(first cap:List AV):dO:=
 match f,first with
 | .func f,[]=>.val (f<vi) (.fn f cap)
 | .func f,x::r=>match cap with
  |[]=>.val True (.fn (f+vi) (x::r))
  |_=>.no
 |_,_=>.no
theorem QA(P:Program)(S:St)(o:Oper)(f:Fn)(first cap:Array Operand)(M:o.op=.makeFunc f first cap)(Ac:∀x∈first.toList,(S.au x).1=true)(W:∀x∈cap.toList,(S.au x).1=true):aM P S o (ru f (first.toList.map λx=>(S.au x).2) (cap.toList.map λx=>(S.au x).2)):=by
 have key:∀(l:Array Operand),(∀x∈l.toList,(S.au x).1=true)->∀φ G a w,Rel φ G S a w->∀(i:Nat)(c:AV)(v:Value),(l.toList.map λx=>(S.au x).2)[i]?=some c->(l.map a.eval)[i]?=some v->aH φ w (Fo G φ S.mem) c v:=by
  intro l J φ G a w H i c v E O;simp only[ab6,ah1,aax]at E;simp only[Array.getElem?_map,aax]at O;obtain⟨x,I,rfl⟩:=E;obtain⟨y,AW,rfl⟩:=O;rw[I]at AW;cases AW;exact H.au x (J x (by simpa using Array.mem_of_getElem? I))
 generalize Al:(first.toList.map λx=>(S.au x).2)=B8;generalize An:(cap.toList.map λx=>(S.au x).2)=cs;unfold ru;split
 ·rename_i f;refine aM.pure λB2 φ G a w H=>?_;have B3:first=#[]:=by cases first;simp_all
  refine⟨.func (.func f) #[] (cap.map a.eval),by simp[execOp,M,Instr.makeFunc,B3],.fn f _ _ B2 (by simp[<-An]) (λi c v E O=>?_)⟩;rw[<-An]at E;exact key cap W φ G a w H i c v E O
 ·rename_i f x r;split
  ·refine aM.pure λ_ φ G a w H=>?_;have B4:cap=#[]:=by cases cap;simp_all
   refine⟨.func (.func f) (first.map a.eval) #[],by simp[execOp,M,Instr.makeFunc,B4],.vj f _ _ (by rw[<-Al];simp) (λi c v E O=>?_)⟩;rw[<-Al]at E;exact key first Ac φ G a w H i c v E O
  ·trivial
 ·trivial
def vG(P:Program)(t:TypeId)(x:AV):dO:=
 match x.norm with
 | .d d=>.val (tk P t≠.iface/\tk P t≠.other) (.iA t d)
 |_=>.no
theorem Gi{P:Program}{t:TypeId}(h:tk P t≠.other):∃d,P.underlying t=some d:=by
 unfold tk at h;cases hu:P.underlying t with
 |none=>simp[hu]at h
 |some d=>exact⟨d,rfl⟩
theorem M0(P:Program)(S:St)(o:Oper)(t:TypeId)(x:Operand)(M:o.op=.makeInterface t x)(I:(S.au x).1=true):aM P S o (vG P t (S.au x).2):=by
 unfold vG;split
 ·rename_i d T;refine aM.pure ?_;rintro ⟨E,O⟩ φ G a w H;have AK:=(H.au x I).norm;rw[T]at AK;obtain⟨Ao,hu⟩:=Gi O;refine⟨.iface t (a.eval x),?_,?_⟩
  ·have AZ:∀ms,Ao≠.interface ms:=by rintro ms rfl;simp[tk,hu]at E
   simp only[execOp,M,Instr.makeInterface,Sem.run_bind,run_underlying hu,Result.andThen_ok];cases Ao<;>first|rfl|exact absurd rfl (AZ _)
  ·cases AK with|d _ _ h=>exact .iA t d _ h
 ·trivial
def qK(P:Program)(m:Mem)(t:TypeId)(x:AV):dO:=
 match x with
 | .d (.str s)=>.val (tk P t=.str) (.d (.int .i64 s.length))
 | .d (.list xs)=>match tk P t with
  | .slice _=>.val True (.d (.int .i64 xs.length))
  |_=>.no
 | .vec k ar _ len=>match tk P t,Mem.get m k with
  | .slice _,some ⟨_,v,_⟩=>.val (v=ar) (.d (.int .i64 len))
  |_,_=>.no
 | .lit (.slice none 0 0)=>match tk P t with
  | .slice _=>.val True (.d (.int .i64 0))
  |_=>.no
 | .nn=>match tk P t with
  | .slice _=>.val True (.d (.int .i64 0))
  |_=>.no
 |_=>match tk P t with
  | .arr n _=>.val True (.d (.int .i64 n))
  |_=>.no
theorem run_len_slice{P:Program}{w:World}{t ty e:TypeId}{ao len cap}(h:tk P t=.slice e):(Builtin.len_ #[t] ty #[.slice ao len cap]).run P w=.ok (.int .i64 len) w:=by
 simp[Builtin.len_,run_underlying (gO h),goInt]
theorem aky(P:Program)(S:St)(o:Oper)(x:Operand)(t:TypeId)(M:o.op=.call {callee:=.builtin .len,args:=#[x],argTypes:=#[t]})(I:(S.au x).1=true):aM P S o (qK P S.mem t (S.au x).2):=by
 have AI:∀(a:Act)(w:World)(v:Value),(Builtin.len_ #[t] o.type #[a.eval x]).run P w=.ok v w->(execOp a.eval o).run P w=.ok (.value v) w:=by
  intro a w v h;simp[execOp,M,resolve,invoke,builtin,h]
 unfold qK;split
 ·rename_i s T;refine aM.pure λAB φ G a w H=>?_;have E:=H.au x I;rw[T]at E;obtain⟨b,A2,rfl⟩:=wJ E;have AS:b.size=b.data.toList.length:=by rw[ab9];rfl
  refine⟨.int .i64 b.data.toList.length,AI a w _ ?_,.d _ _ (.int _ _)⟩;simp only[Builtin.len_,A2,ahL,List.getElem?_cons_zero,Sem.run_bind,run_underlying (qk AB),Result.andThen_ok,Sem.run_pure,goInt,<-AS]
 ·rename_i xs T;split
  ·rename_i e U;refine aM.pure λ_ φ G a w H=>?_;have E:=H.au x I;rw[T]at E;generalize Y:a.eval x=av at E;cases E with|d _ _ h=>
   have J:∃ao cap,av=.slice ao xs.length cap:=by cases h<;>exact⟨_,_,rfl⟩
   obtain⟨ao,cap,rfl⟩:=J;exact⟨_,AI a w _ (by rw[Y];exact run_len_slice U),.d _ _ (.int _ _)⟩
  ·trivial
 ·rename_i k ar off len T;split
  ·rename_i e key v cont U A6;refine aM.pure ?_;rintro rfl φ G a w H;have E:=H.au x I;rw[T]at E;obtain⟨hm,AT,L,A0,A',AE⟩:=H.mem.get A6;simp only at A';generalize Y:a.eval x=av at E;cases E with
   |vec _ _ _ _ _ L' AA _ AF _=>
    rw[A0]at AA;cases AA;obtain⟨ao,cap,rfl,Ah,AU⟩:=AF A'.symm;exact⟨_,AI a w _ (by rw[Y];exact run_len_slice U),.d _ _ (.int _ _)⟩
  ·trivial
 ·rename_i T;split
  ·rename_i e U;refine aM.pure λ_ φ G a w H=>?_;have E:=H.au x I;rw[T]at E;generalize Y:a.eval x=av at E;cases E;exact⟨_,AI a w _ (by rw[Y];exact run_len_slice U),.d _ _ (.int _ _)⟩
  ·trivial
 ·rename_i T;split
  ·rename_i e U;refine aM.pure λ_ φ G a w H=>?_;have E:=H.au x I;rw[T]at E;generalize Y:a.eval x=av at E;cases E;exact⟨_,AI a w _ (by rw[Y];exact run_len_slice U),.d _ _ (.int _ _)⟩
  ·trivial
 ·split
  ·rename_i n e U;refine aM.pure λ_ φ G a w H=>?_;refine⟨.int .i64 n,AI a w _ ?_,.d _ _ (.int _ _)⟩;simp[Builtin.len_,run_underlying (wK U),goInt]
  ·trivial
def pI(isMax:Bool):AV->List AV->Option D
 | .d (.int k a),[]=>some (.int k a)
 | .d (.int k a),y::r=>match y with
  | .d (.int _ b)=>pI isMax (.d (.int k (if isMax then (if b>a then b else a)else (if b<a then b else a)))) r
  |_=>none
 |_,_=>none
def Jk(isMax:Bool)(xs:List AV):dO:=
 match xs with
 |x::r=>match pI isMax x r with
  |some d=>.val True (.d d)
  |none=>.no
 |[]=>.no
theorem QB{P:Program}{φ w F}(isMax:Bool):∀(xs:List AV)(x:AV)(vs:List Value)(v:Value)(d:D),pI isMax x xs=some d->aH φ w F x v->xs.length=vs.length->
 (∀(i:Nat) c u,xs[i]?=some c->vs[i]?=some u->aH φ w F c u)->
 ∃u,(vs.foldlM (if isMax then Builtin.max2 else Builtin.min2) v).run P w=.ok u w/\aQ w F d u:=by
 intro xs;induction xs with
 |nil=>
  intro x vs v d h I J W;have:vs=[]:=abO (by simpa using J.symm);subst this;unfold pI at h;split at h<;>simp_all;subst h;rw[lF I];exact .int _ _
 |cons y AM ih=>
  intro x vs v d h I J W;cases vs with
  |nil=>simp at J
  |cons u us=>
   unfold pI at h;split at h
   ·simp_all
   ·rename_i k a B9 r heq;simp at heq;obtain⟨rfl,rfl⟩:=heq;split at h
    ·rename_i B5 b;have A2:=lF I;have AN:=lF (W 0 (.d (.int B5 b)) u (by simp) (by simp));subst A2;subst AN;have AQ:∀(i:Nat) c u,AM[i]?=some c->us[i]?=some u->aH φ w F c u:=λi c u E O=>W (i+1) c u (by simpa using E) (by simpa using O);cases isMax
     ·obtain⟨Ab,E,O⟩:=ih _ us (.int k (if b<a then b else a)) d h (.d _ _ (.int _ _)) (by simpa using J) AQ;refine⟨Ab,?_,O⟩;simp only[acW,acw]at E⊢;simp only[List.foldlM_cons,Builtin.min2,pure_bind];exact E
     ·obtain⟨Ab,E,O⟩:=ih _ us (.int k (if b>a then b else a)) d h (.d _ _ (.int _ _)) (by simpa using J) AQ;refine⟨Ab,?_,O⟩;simp only[acH]at E⊢;simp only[List.foldlM_cons,Builtin.max2,pure_bind];exact E
    ·cases h
   ·cases h
theorem ZM(P:Program)(S:St)(o:Oper)(isMax:Bool)(args:Array Operand)(ts:Array TypeId)(M:o.op=.call {callee:=.builtin (if isMax then .max else .min),args,argTypes:=ts})(I:∀x∈args.toList,(S.au x).1=true):aM P S o (Jk isMax (args.toList.map λx=>(S.au x).2)):=by
 unfold Jk;split
 ·rename_i x r heq;split
  ·rename_i d A9;refine aM.pure λ_ φ G a w H=>?_;obtain⟨l,J⟩:∃l,args.toList=l:=⟨_,rfl⟩;rw[J]at heq I;cases l with
   |nil=>simp at heq
   |cons y AM=>
    simp at heq;obtain⟨rfl,rfl⟩:=heq;obtain⟨u,E,O⟩:=QB (P:=P) (φ:=φ) (w:=w) (F:=Fo G φ S.mem) isMax _ _ (AM.map a.eval) (a.eval y) d A9 (H.au y (I y (by simp))) (by simp) (λi c u E O=>by
     simp only[ab6,aax]at E O;obtain⟨p,AD,rfl⟩:=E;obtain⟨q,Ap,rfl⟩:=O;rw[AD]at Ap;cases Ap;exact H.au p (I p (by simp[aay AD])))
    refine⟨u,?_,.d _ _ O⟩;have BA:(args.map a.eval).toList=a.eval y::AM.map a.eval:=by simp[J]
    cases isMax
    ·simp only[acW,acw]at E M;simp[execOp,M,resolve,invoke,builtin,Builtin.min_,J,E]
    ·simp only[acH]at E M;simp[execOp,M,resolve,invoke,builtin,Builtin.max_,J,E]
  ·trivial
 ·trivial
theorem Kl(off:Nat):∀(l:List Value)(k:Nat)(cs:Array Value),off+k+l.length<=cs.size->
 ((l.zipIdx k).foldl (λcs x=>cs.setIfInBounds (off+x.2) x.1) cs).toList=cs.toList.take (off+k)++l++cs.toList.drop (off+k+l.length)
 |[],k,cs,_=>by simp
 |v::l,k,cs,h=>by
  simp only[List.zipIdx_cons,ahQ,aan]at h⊢;rw[Kl off l (k+1) _ (by simp;omega),Array.toList_setIfInBounds];have:=list_seg_step cs.toList (off+k) v l (by simp;omega);rw[show off+(k+1)=off+k+1 by omega,show off+k+(l.length+1)=off+k+1+l.length by omega];simpa [aan,abY,Nat.add_comm 1]using this
theorem Na(cs v:Array Value)(off:Nat)(h:off+v.size<=cs.size):
 (v.zipIdx.foldl (λcs (x:Value×Nat)=>cs.setIfInBounds (off+x.2) x.1) cs).toList=bC cs.toList off v.toList:=by
 rw[<-Array.foldl_toList,Array.toList_zipIdx,Kl off v.toList 0 cs (by simpa using h),dU _ _ _ (by simpa using h)];simp
def tJ(place:Nat->Option (Nat×Nat)):List (Nat×AV)->Bool->List AV->Option (Bool×List AV)
 |[],c,cs=>some (c,cs)
 |(i,x)::r,c,cs=>match place i with
  |some (off,n)=>tJ place r (c/\x.nk=true/\x.cells.length=n/\off+n<=cs.length) (bC cs off x.cells)
  |none=>none
theorem CA{φ w F}(place:Nat->Option (Nat×Nat)):∀(ps:List (Nat×AV))(W c:Bool)(cs U:List AV)(vs:List (Nat×Value))(H:Array Value),
 tJ place ps W cs=some (c,U)->c=true->cs.length=H.size->(∀v∈H,cF v=true)->(∀(i:Nat) x v,cs[i]?=some x->H[i]?=some v->aH φ w F x v)->
 ps.length=vs.length->(∀(i:Nat) p v,ps[i]?=some p->vs[i]?=some v->p.1=v.1/\aH φ w F p.2 v.2)->
 ∃E,Instr.fill place H vs=some E/\W=true/\U.length=E.size/\(∀v∈E,cF v=true)/\∀(i:Nat) x v,U[i]?=some x->E[i]?=some v->aH φ w F x v
 |[],W,c,cs,U,vs,H,h,T,J,I,M,Y,A'=>by
  have:vs=[]:=abO (by simpa using Y.symm);subst this;simp only[tJ,aa1,acr]at h;obtain⟨rfl,rfl⟩:=h;exact⟨H,rfl,T,J,I,M⟩
 |(i,x)::ps,W,c,cs,U,vs,H,h,T,J,I,M,Y,A'=>by
  cases vs with
  |nil=>simp at Y
  |cons v vs=>
   obtain⟨j,v⟩:=v;obtain⟨AE,A0⟩:=A' 0 (i,x) (j,v) (by simp) (by simp);simp only at AE A0;subst AE;simp only[tJ]at h;split at h
   ·rename_i off n AQ
    --AF condition of AF rest holds AF condition of this part
    obtain⟨q,A3⟩:∃q:Bool,q=decide (W=true/\x.nk=true/\x.cells.length=n/\off+n<=cs.length):=⟨_,rfl⟩;have AR:c=true->q=true:=by
     rw[<-A3]at h;clear A3;revert h
     generalize bC cs off x.cells=AS;clear A' Y M I J A0 T;induction ps generalizing q AS with
     |nil=>intro h;simp only[tJ,aa1,acr]at h;obtain⟨rfl,_⟩:=h;exact id
     |cons p ps ih=>
      intro h AG;simp only[tJ]at h;split at h
      ·exact (acV (ih _ _ h AG)).1
      ·cases h
    have A1:=AR T;rw[A3]at A1;replace A1:=acV A1;obtain⟨AT,AU,Ad,hle⟩:=A1;obtain⟨AH,AI⟩:=A0.nk AU;have AJ:off+v.cells.size<=H.size:=by omega
    have A2:=Na H v.cells off AJ;obtain⟨A4,AK⟩:∃A4,A4=v.cells.zipIdx.foldl (λcs (x:Value×Nat)=>cs.setIfInBounds (off+x.2) x.1) H:=⟨_,rfl⟩;rw[<-AK]at A2;have AL:off+v.cells.toList.length<=H.toList.length:=by simpa using AJ
    obtain⟨E,Z,AG,AW,AX,AY⟩:=CA (φ:=φ) (w:=w) (F:=F) place ps _ c _ U vs A4 h T
     (by rw[bR _ _ _ (by omega),<-ab9,A2,bR _ _ _ AL];simpa using J)
     (λu hu=>by
      rw[<-Array.mem_toList_iff,A2]at hu;rcases mH AL hu with hu|hu
      ·exact I u (by simpa using hu)
      ·exact AI u (by simpa using hu))
     (λi y u AZ hu=>by
      rw[<-ah1,A2]at hu;exact wu (R:=λx v=>aH φ w F x v) (by simpa using J) (by simpa using AH.symm) (by omega) (λi c v h D=>M i c v h (by simpa using D)) (λi c v h D=>A0.cells AI AH i c v h (by simpa using D)) i y u AZ hu)
     (by simpa using Y) (λi p v h D=>A' (i+1) p v (by simpa using h) (by simpa using D))
    refine⟨E,?_,AT,AW,AX,AY⟩;simp only[Instr.fill,AQ];rw[aab (by simp;omega)];rw[<-Z,AK]
   ·cases h
def im(P:Program)(t:TypeId):Option (List (Nat×Nat)):=
 match P.underlying t with
 |some (.struct O)=>O.toList.mapM λf=>(P.info? f.type).map λi=>(f.offset,i.size)
 |_=>none
theorem Fu{P:Program}{w:World}:∀(O:List Field)(l:List (Nat×Nat)),(O.mapM λf=>(P.info? f.type).map λi=>(f.offset,i.size))=some l->
 (O.mapM λf=>(do pure (f.offset,<-sizeOf f.type):Sem (Nat×Nat))).run P w=.ok l w
 |[],l,h=>by simp at h;subst h;simp
 |f::O,l,h=>by
  simp only[List.mapM_cons]at h⊢;cases hi:P.info? f.type with
  |none=>simp[hi]at h
  |some i=>
   simp only[hi,ah3,Option.pure_def,Option.bind_eq_bind,acE]at h;cases hm:(O.mapM λf=>(P.info? f.type).map λi=>(f.offset,i.size))with
   |none=>simp[hm]at h
   |some A_=>
    simp[hm]at h;subst h;have A5:(sizeOf f.type).run P w=.ok i.size w:=run_sizeOf (by simp[gr,hi]);have ih:=Fu (P:=P) (w:=w) O A_ hm;simp only[Sem.run_bind,A5,Result.andThen_ok,Sem.run_pure,ih]
def Hw(P:Program)(t:TypeId)(ps:List (Nat×AV)):dO:=
 match xY P t with
 |some zs=>match im P t with
  |some l=>match tJ (λi=>l[i]?) ps true zs with
   |some (c,cs)=>.val c (Eh cs)
   |none=>.no
  |none=>match tk P t with
   | .arr _ e=>match gr P e with
    |some sz=>match tJ (λi=>some (i*sz,sz)) ps true zs with
     |some (c,cs)=>.val c (Eh cs)
     |none=>.no
    |none=>.no
   |_=>.no
 |none=>.no
theorem ado(P:Program)(S:St)(o:Oper)(t:TypeId)(ps:Array (Nat×Operand))(AM:o.op=.build t ps)(Aa:∀x∈ps.toList,(S.au x.2).1=true):
 aM P S o (Hw P t (ps.toList.map λx=>(x.1,(S.au x.2).2))):=by
 have parts:∀{φ G a w},Rel φ G S a w->∀(i:Nat)(p:Nat×AV)(v:Nat×Value),(ps.toList.map λx=>(x.1,(S.au x.2).2))[i]?=some p->(ps.toList.map λx=>(x.1,a.eval x.2))[i]?=some v->p.1=v.1/\aH φ w (Fo G φ S.mem) p.2 v.2:=by
  intro φ G a w M i p v I V;simp only[ab6,aax]at I V;obtain⟨x,AN,rfl⟩:=I;obtain⟨y,AO,rfl⟩:=V;rw[AN]at AO;cases AO;exact⟨rfl,M.au _ (Aa x (aay AN))⟩
 unfold Hw;split
 ·rename_i zs AP;split
  ·rename_i l J;split
   ·rename_i c cs Z;refine aM.tG λT φ G a w M=>?_;obtain⟨z,A6,A7,I,A8⟩:=rk AP w;obtain⟨E,V,_,A9,AA,AB⟩:=CA (φ:=φ) (w:=w) (F:=Fo G φ S.mem) _ _ _ _ _ _ (ps.toList.map λx=>(x.1,a.eval x.2)) z.cells Z T A7.symm I (λi x v h D=>A8 _ _ _ i x v h D) (by simp) (parts M);unfold im at J;split at J
    ·rename_i O hu;have hm:=Fu (P:=P) (w:=w) O.toList l J;refine⟨.agg E,?_,?_⟩
     ·have Ab:(O.mapM λf=>(do pure (f.offset,<-sizeOf f.type):Sem (Nat×Nat))).run P w=.ok l.toArray w:=by
       rw[Array.mapM_eq_mapM_toList];simp only[Sem.run_map,hm,Result.andThen_ok]
      simp only[execOp,AM,Instr.build,Sem.run_bind,A6,Result.andThen_ok,run_underlying hu,Ab];have e:(λ(i:Nat)=>l.toArray[i]?)=λ(i:Nat)=>l[i]?:=by funext i;simp
      have AC:(Array.map (λx=>(x.1,a.eval x.2)) ps).toList=ps.toList.map λx=>(x.1,a.eval x.2):=by simp
      rw[e,AC,V];rfl
     ·have:=Ck (φ:=φ) (w:=w) (F:=Fo G φ S.mem) (cs:=cs) (vs:=E.toList) (by simpa using A9) (λv AD=>AA v (by simpa using AD)) (λi c v h D=>AB i c v h (by simpa using D));simpa using this
    ·cases J
   ·trivial
  ·split
   ·rename_i n e Ac;split
    ·rename_i sz A5;split
     ·rename_i c cs Z;refine aM.tG λT φ G a w M=>?_;obtain⟨z,A6,A7,I,A8⟩:=rk AP w;obtain⟨E,V,_,A9,AA,AB⟩:=CA (φ:=φ) (w:=w) (F:=Fo G φ S.mem) _ _ _ _ _ _ (ps.toList.map λx=>(x.1,a.eval x.2)) z.cells Z T A7.symm I (λi x v h D=>A8 _ _ _ i x v h D) (by simp) (parts M);refine⟨.agg E,?_,?_⟩
      ·simp only[execOp,AM,Instr.build,Sem.run_bind,A6,Result.andThen_ok,run_underlying (wK Ac),run_sizeOf A5];have AC:(Array.map (λx=>(x.1,a.eval x.2)) ps).toList=ps.toList.map λx=>(x.1,a.eval x.2):=by simp
       rw[AC,V];rfl
      ·have:=Ck (φ:=φ) (w:=w) (F:=Fo G φ S.mem) (cs:=cs) (vs:=E.toList) (by simpa using A9) (λv AD=>AA v (by simpa using AD)) (λi c v h D=>AB i c v h (by simpa using D));simpa using this
     ·trivial
    ·trivial
   ·trivial
 ·trivial
theorem Gj(sz:Nat):∀(vs:List (Nat×Value))(k:Nat)(cells:Array Value),vs.map (·.1)=List.range' k vs.length->(∀v∈vs,v.2.cells.size=sz)->(k+vs.length)*sz=cells.size->
 ∃out,Instr.fill (λi=>some (i*sz,sz)) cells vs=some out/\out.toList=cells.toList.take (k*sz)++vs.flatMap (λv=>v.2.cells.toList)
 |[],k,cells,_,_,U=>by
  refine⟨cells,rfl,?_⟩;simp only[aaw,ah0]at U;simp only[U,List.flatMap_nil,afV];rw[<-ab9,List.take_length]
 |(i,v)::vs,k,cells,hi,V,U=>by
  simp only[abR,aan,akz,akv]at hi;obtain⟨rfl,hi⟩:=hi;have O:=V (i,v) (by simp);simp only at O;simp only[aan]at U;have Ac:i*sz+v.cells.size<=cells.size:=by
   rw[O,<-U,<-akj];exact abS _ (by omega)
  have I:=Na cells v.cells (i*sz) Ac;obtain⟨AR,Ar⟩:∃AR,AR=v.cells.zipIdx.foldl (λcs (x:Value×Nat)=>cs.setIfInBounds (i*sz+x.2) x.1) cells:=⟨_,rfl⟩;rw[<-Ar]at I;have As:i*sz+v.cells.toList.length<=cells.toList.length:=by simpa using Ac
  have A5:AR.size=cells.size:=by rw[<-ab9,I,bR _ _ _ As];simp
  obtain⟨out,W,AS⟩:=Gj sz vs (i+1) AR hi (λx M=>V x (by simp[M])) (by rw[A5,<-U];congr 1;omega);refine⟨out,?_,?_⟩
  ·simp only[Instr.fill];rw[aab (by simp;omega),<-W,Ar]
  ·rw[AS,I,dU _ _ _ As];have BP:v.cells.toList.length=sz:=by simpa using O
   rw[akj,ale (by simp;omega),akw (by simp;omega)];simp
theorem Hx{φ w F}{sz:Nat}:∀(E:List D)(vs:List Value),E.length=vs.length->(∀d∈E,d.size=sz)->(∀(i:Nat) d v,E[i]?=some d->vs[i]?=some v->aH φ w F (.d d) v)->
 cA w F sz E (vs.flatMap λv=>v.cells.toList)
 |[],vs,U,_,_=>by
  have:vs=[]:=abO (by simpa using U.symm);subst this;exact cA.nil ..
 |d::E,vs,U,V,H=>by
  cases vs with
  |nil=>simp at U
  |cons v vs=>
   have ih:=Hx (φ:=φ) (w:=w) (F:=F) E vs (by simpa using U) (λx M=>V x (by simp[M])) (λi d v h A8=>H (i+1) d v (by simpa using h) (by simpa using A8));have A9:=H 0 d v (by simp) (by simp);cases A9 with|d _ _ A9=>
   have AA:=V d (by simp);have AT:v.cells.size=sz:=by rw[A9.size,AA]
   have one:cA w F sz [d] v.cells.toList:=by
    refine⟨by simp[AT],λu hu=>A9.cells.2.1 u (by simpa using hu),λx M=>by simp at M;subst M;exact AA,λi x M=>?_⟩;cases i with
    |zero=>simp at M;subst M;exact⟨v,A9,λj c AD=>by simpa using AD⟩
    |succ i=>simp at M
   simpa using one.append ih
theorem Nb{w:World}{F F':Nat->Prop}{sz:Nat}{E:List D}{cs rest:List Value}{elem:TypeId}{fr}{T:World}{arr:Array Value}(H:cA w F sz E cs)(hh:T.heap[w.heap.size]?=some (.cells arr elem fr))(AE:arr.toList=cs++rest)
 (hm:∀x v,aQ w F x v->aQ T F' x v) (B':¬F' w.heap.size) (cap:Nat) (AJ:E.length<=cap):aQ T F' (.list E) (.slice (some ⟨w.heap.size,0,none⟩) E.length cap):=by
 obtain⟨BQ,a2,a3,a4⟩:=H;have Ad:∀i,∃v,∀d,E[i]?=some d->aQ w F d v/\∀(j:Nat) c,v.cells[j]?=some c->cs[i*sz+j]?=some c:=by
  intro i;cases J:E[i]? with
  |none=>exact⟨undef,λd h=>by cases h⟩
  |some d=>obtain⟨v,I,W⟩:=a4 i d J;exact⟨v,λAt h=>by cases h;exact⟨I,W⟩⟩
 obtain⟨vs,AT⟩:=af8 Ad;refine .list E w.heap.size 0 cap sz vs AJ ?_ B' a3 (λi d J=>hm _ _ (AT i d J).1) (λi j c hi AD=>?_)
 ·exact (acU.1 hh).1
 ·obtain⟨I,W⟩:=AT i E[i] (by simp[hi]);have AS:=W j c AD;rw[Kc hh,<-ah1,AE,ahI,aaF (D1.1 AS).1];exact AS
theorem Nc{φ:bP}{G:Fr}{m:Mem}{w T:World}(hold:∀b,b<w.heap.size->T.heap[b]?=w.heap[b]?)(V:w.heap.size<=T.heap.size)(x v)(M:aQ w (Fo G φ m) x v):aQ T (Fo G φ m) x v:=
 M.mono (λb A' _=>hold b A') V (λ_ _ h=>h)
def uj:List (Nat×AV)->Option (List D)
 |[]=>some []
 |(_,x)::r=>match x.norm,uj r with
  | .d d,some E=>some (d::E)
  |_,_=>none
theorem Hy{φ w F}:∀(ps:List (Nat×AV))(E:List D)(vs:List Value),uj ps=some E->ps.length=vs.length->(∀(i:Nat) p v,ps[i]?=some p->vs[i]?=some v->aH φ w F p.2 v)->
 E.length=vs.length/\∀(i:Nat) d v,E[i]?=some d->vs[i]?=some v->aH φ w F (.d d) v
 |[],E,vs,h,U,_=>by
  simp[uj]at h;subst h;exact⟨by simpa using U,λi d v A8=>by simp at A8⟩
 |(i,x)::ps,E,vs,h,U,H=>by
  simp only[uj]at h;split at h<;>simp at h;rename_i d B0 M AA;subst h;cases vs with
  |nil=>simp at U
  |cons v vs=>
   have ih:=Hy (φ:=φ) (w:=w) (F:=F) ps B0 vs AA (by simpa using U) (λi p v h A8=>H (i+1) p v (by simpa using h) (by simpa using A8));refine⟨by simp[ih.1],λj At Au h A8=>?_⟩;cases j with
   |zero=>
    simp at h A8;subst h;subst A8;have:=(H 0 (i,x) v (by simp) (by simp)).norm;simp only[M]at this;exact this
   |succ j=>exact ih.2 j At Au (by simpa using h) (by simpa using A8)
def oS(P:Program)(t:TypeId)(A2:Nat)(len:Nat):List (Nat×AV)->Option cq->Option dO
 |[(0,.lit (.slice none 0 0))],some ⟨_,v,_⟩=>match tk P t with
  | .slice e=>match gr P e,oM P e with
   |some sz,some _=>some (.dq (sz=1/\len=1) (.vec A2 (v+1) 0 1) ⟨A2,v+1,.box [.lit (.slice none 0 0)]⟩)
   |_,_=>none
  |_=>none
 |_,_=>none
def tK(P:Program)(m:Mem)(A2:Nat)(t:TypeId)(len:Nat)(ps:List (Nat×AV)):dO:=
 match tk P t with
 | .slice e=>match gr P e,oM P e,uj ps with
  |some sz,some A6,some E=>match Mem.get m A2 with
   |some ⟨_,v,_⟩=>.dq (A6.size=sz/\len*sz<=2^24/\ps.map (·.1)=List.range' 0 len/\(∀d∈E,d.size=sz)) (.vec A2 (v+1) 0 len) ⟨A2,v+1,.vec sz E⟩
   |none=>.val (A6.size=sz/\len*sz<=2^24/\ps.map (·.1)=List.range' 0 len/\(∀d∈E,d.size=sz)) (.d (.list E))
  |_,_,_=>.no
 |_=>.no
def me(P:Program)(m:Mem)(A2:Nat)(t:TypeId)(len:Nat)(ps:List (Nat×AV)):dO:=
 match oS P t A2 len ps (Mem.get m A2)with
 |some r=>r
 |none=>tK P m A2 t len ps
theorem zR{P:Program}{w:World}{t e:TypeId}{sz len:Nat}{A6:D}(AU:tk P t=.slice e)(V:gr P e=some sz)(AF:oM P e=some A6)(A':len*sz<=2^24)
 {vs:List (Nat×Value)} (hi:vs.map (·.1)=List.range' 0 len) (O:∀v∈vs,v.2.cells.size=sz):
 ∃arr:Array Value,arr.toList=vs.flatMap (λv=>v.2.cells.toList)/\(Instr.buildSlice t len vs.toArray).run P w=.ok (.slice (some ⟨w.heap.size,0,none⟩) len len) (w.alloc (.cells arr e)):=by
 obtain⟨z,A0,BR,BS,_⟩:=Hp AF w;have Y:vs.length=len:=by
  have:=ahS List.length hi;simpa using this
 have B1:¬(len*sz>2^24):=by omega
 by_cases A9:len*sz=0
 ·obtain⟨out,I,W⟩:=Gj sz vs 0 #[] (by rw[Y];exact hi) O (by rw[Y];simp[A9]);refine⟨out,by simpa using W,?_⟩;simp only[Instr.buildSlice,Sem.run_bind,run_underlying (gO AU),Result.andThen_ok,run_sizeOf V,A9,acH,show Array.range 0=#[]from rfl,Array.map_empty,I,show ¬(0>2^24) by decide,acw,Sem.run_bind,Sem.run_pure,jw]
 ·obtain⟨out,I,W⟩:=Gj sz vs 0 ((Array.range (len*sz)).map (z.cells[·%z.cells.size]!)) (by rw[Y];exact hi) O (by rw[Y];simp);refine⟨out,by simpa using W,?_⟩;simp only[Instr.buildSlice,Sem.run_bind,run_underlying (gO AU),Result.andThen_ok,run_sizeOf V,B1,acw,A9,A0,Sem.run_pure,I,jw]
theorem L7(P:Program)(S:St)(o:Oper)(t:TypeId)(len:Nat)(ps:Array (Nat×Operand))(AW:o.op=.buildSlice t len ps)(M:∀x∈ps.toList,(S.au x.2).1=true):
 aM P S o (me P S.mem (keyOf o) t len (ps.toList.map λx=>(x.1,(S.au x.2).2))):=by
 have parts:∀{φ G a w},Rel φ G S a w->∀(i:Nat)(p:Nat×AV)(v:Value),(ps.toList.map λx=>(x.1,(S.au x.2).2))[i]?=some p->(ps.toList.map λx=>a.eval x.2)[i]?=some v->aH φ w (Fo G φ S.mem) p.2 v:=by
  intro φ G a w H i p v I W;simp only[ab6,aax]at I W;obtain⟨x,Av,rfl⟩:=I;obtain⟨y,Aw,rfl⟩:=W;rw[Av]at Aw;cases Aw;exact H.au _ (M x (aay Av))
 have main:∀{e sz A6 E},tk P t=.slice e->gr P e=some sz->oM P e=some A6->uj (ps.toList.map λx=>(x.1,(S.au x.2).2))=some E->A6.size=sz->len*sz<=2^24->
  (ps.toList.map λx=>(x.1,(S.au x.2).2)).map (·.1)=List.range' 0 len->(∀d∈E,d.size=sz)->∀{φ G a w},Rel φ G S a w->
  E.length=len/\∃arr:Array Value,cA w (Fo G φ S.mem) sz E arr.toList/\(execOp a.eval o).run P w=.ok (.value (.slice (some ⟨w.heap.size,0,none⟩) len len)) (w.alloc (.cells arr e)):=by
  intro e sz A6 E AU V AF AA AX A' hi A5 φ G a w H;obtain⟨I,W⟩:=Hy (φ:=φ) (w:=w) (F:=Fo G φ S.mem) _ E (ps.toList.map λx=>a.eval x.2) AA (by simp) (parts H);have AG:=Hx E _ I A5 W;have B2:(ps.toList.map λx=>(x.1,a.eval x.2)).map (·.1)=List.range' 0 len:=by rw[<-hi];simp
  have O:∀v∈(ps.toList.map λx=>(x.1,a.eval x.2)),v.2.cells.size=sz:=by
   intro v O;simp only[abV]at O;obtain⟨x,B3,rfl⟩:=O;obtain⟨i,Ax,B4⟩:=an4.1 B3;have hid:i<E.length:=by rw[I];simpa using Ax
   have:=W i E[i] (a.eval x.2) (by simp[hid]) (by simp[abJ Ax,B4]);cases this with|d _ _ h=>rw[h.size];exact A5 _ (ahV hid)
  obtain⟨arr,Ae,A0⟩:=zR (P:=P) (w:=w) AU V AF A' B2 O;refine⟨?_,arr,?_,?_⟩
  ·have:=ahS List.length hi;simp at this;rw[I];simp;exact this
  ·rw[Ae];have e:(ps.toList.map λx=>(x.1,a.eval x.2)).flatMap (λv=>v.2.cells.toList)=(ps.toList.map λx=>a.eval x.2).flatMap (λv=>v.cells.toList):=by simp[List.flatMap_map]
   rw[e];exact AG
  ·have B5:(ps.map λx=>(x.1,a.eval x.2))=(ps.toList.map λx=>(x.1,a.eval x.2)).toArray:=by apply Array.ext';simp
   simp only[execOp,AW,Sem.run_bind];have Af:(ps.map λ(i,x)=>(i,a.eval x))=(ps.toList.map λx=>(x.1,a.eval x.2)).toArray:=B5;rw[Af,A0];rfl
 have nil:∀r,oS P t (keyOf o) len (ps.toList.map λx=>(x.1,(S.au x.2).2)) (Mem.get S.mem (keyOf o))=some r->aM P S o r:=by
  intro r A3;unfold oS at A3;split at A3
  ·rename_i key v cont AM AK;split at A3
   ·rename_i e AY;split at A3
    ·rename_i sz A6 V AF;cases A3;refine aM.uW ?_;rintro ⟨rfl,rfl⟩ φ G a w H;have B6:ps.toList.length=1:=by have:=ahS List.length AM;simpa using this
     obtain⟨q,Ag⟩:∃q,ps.toList=[q]:=by
      match BT:ps.toList,B6 with
      |[q],_=>exact⟨q,rfl⟩
     have Ah:=parts H 0 (0,.lit (.slice none 0 0)) (a.eval q.2) (by rw[AM];rfl) (by rw[Ag];rfl);simp only at Ah;have Ai:a.eval q.2=.slice none 0 0:=by
      generalize a.eval q.2=u at Ah;cases Ah;rfl
     have B7:q.1=0:=by
      rw[Ag]at AM;simp only[abR,ahM,akv,acr]at AM;exact AM.1.1
     obtain⟨arr,Ae,A0⟩:=zR (P:=P) (w:=w) (len:=1) AY V AF (by decide) (vs:=[(0,.slice none 0 0)]) rfl (by simp[Value.cells]);have AE:arr=#[.slice none 0 0]:=by apply Array.ext';rw[Ae];simp[Value.cells]
     subst AE;obtain⟨hm,AH,L,AN,AI,_⟩:=H.mem.get AK;simp only at AH AI;subst AH;obtain⟨φ',Aj,Ak,Al,An⟩:=H.mem.fresh (e:=⟨keyOf o,v,cont⟩) hm AN AI w rfl rfl rfl rfl #[.slice none 0 0] e 1 1 (.box [.lit (.slice none 0 0)]) (λ_ A'=>A') (λφ' hle B8 Ay AB=>by
      refine⟨⟨rfl,rfl,rfl⟩,#[.slice none 0 0],e,.new AB,rfl,by simp[cF],λn c u A4 hu=>?_⟩;cases n with
      |zero=>simp at A4 hu;subst A4;subst hu;exact .lit _ rfl
      |succ n=>simp at A4)
     refine⟨.slice (some ⟨w.heap.size,0,none⟩) 1 1,_,φ',.inl ?_,.vec _ (v+1) 0 _ _ _ Al (aad _) (λ_=>⟨_,_,rfl,aad _,λ_=>⟨by simp,by simp⟩⟩) rfl,Aj,Ak,An⟩;have Af:(ps.map λ(i,x)=>(i,a.eval x))=#[(0,.slice none 0 0)]:=by
      apply Array.ext';simp[Ag,B7,Ai]
     simp only[execOp,AW,Sem.run_bind];rw[Af];have B9:(Instr.buildSlice t 1 #[(0,Value.slice none 0 0)]).run P w=_:=A0;rw[B9];rfl
    ·cases A3
   ·cases A3
  ·cases A3
 unfold me;split
 ·rename_i r A3;exact nil r A3
 rename_i A3;clear A3 nil;unfold tK;split
 ·rename_i e AY;split
  ·rename_i sz A6 E V AF AA;split
   ·rename_i key v cont AK;refine aM.uW ?_;rintro ⟨AX,A',hi,A5⟩ φ G a w H;obtain⟨Y,arr,AG,A0⟩:=main AY V AF AA AX A' hi A5 H;obtain⟨hm,AH,L,AN,AI,_⟩:=H.mem.get AK;simp only at AH AI;subst AH;obtain⟨φ',Aj,Ak,Al,An⟩:=H.mem.fresh (e:=⟨keyOf o,v,cont⟩) hm AN AI w rfl rfl rfl rfl arr e sz len (.vec sz E) (λ_ A'=>A'.2) (λφ' hle B8 Ay AB=>by
     refine y5 (cs:=arr.toList) (rest:=[]) (elem:=e) rfl rfl (AG.mono Ay) (by simp) (by simpa using Nat.le_of_eq Y) (by rw[afV,AG.1,Y]) (λ_=>?_);refine fJ.new ?_;rw[AB,afV,aoV])
    exact⟨_,_,φ',.inl A0,.vec _ (v+1) 0 _ _ _ Al (aad _) (λ_=>⟨_,_,rfl,aad _,λ_=>⟨by simp,by simp⟩⟩) rfl,Aj,Ak,An⟩
   ·refine aM.atG ?_;rintro ⟨AX,A',hi,A5⟩ φ G a w H;obtain⟨Y,arr,AG,A0⟩:=main AY V AF AA AX A' hi A5 H;have hold:∀b,b<w.heap.size->(w.alloc (.cells arr e)).heap[b]?=w.heap[b]?:=λb A'=>RowKit.Below.heap_alloc w _ b A';have AB:=heap_alloc_new w (.cells arr e);refine⟨_,_,.inl A0,.d _ _ ?_,hold,by simp,rfl,rfl,rfl⟩;have:=Nb (cap:=len) AG AB (rest:=[]) (by simp) (λx v h=>Nc hold (by simp) x v h) (λh=>absurd (Gf H.mem _ h) (Nat.lt_irrefl _)) (Nat.le_of_eq Y);rw[Y]at this;exact this
  ·trivial
 ·trivial
def uk(s:List UInt8):List D:=s.map λb=>.int .u8 b.toNat
def byteOf:D->UInt8
 | .int _ n=>UInt8.ofNat n.toNat
 |_=>0
def D.isByte:D->Bool
 | .int .u8 _=>true
 |_=>false
theorem D.ZO{d:D}(h:d.isByte=true):∃n,d=.int .u8 n:=by
 unfold D.isByte at h;split at h<;>simp_all
def ot(P:Program)(m:Mem)(A2:Nat)(src dst:TypeId)(x:AV):dO:=
 match tk P dst,x with
 | .int k,.d (.int _ n)=>.val (tk P src≠.other) (.d (.int k (k.wrap n)))
 | .str,.d (.int _ n)=>.val (tk P src≠.other) (.d (.str (Utf8.encode n).data.toList))
 | .str,.d (.str s)=>.val (tk P src=.str) (.d (.str s))
 | .str,x=>match tk P src with
  | .slice e=>match iS m 1 x with
   |some (c,A7)=>.val (c/\tk P e=.int .u8/\gr P e=some 1/\∀d∈A7,d.isByte=true) (.d (.str (A7.map byteOf)))
   |none=>.no
  |_=>.no
 | .slice e,.d (.str s)=>match tk P src,tk P e,Mem.get m A2 with
  | .str,.int .u8,none=>.val True (.d (.list (uk s)))
  |_,_,_=>.no
 |_,_=>.no
theorem Hz{P:Program}{w:World}:∀(cs:List Value)(AO:ByteArray)(Z:List Int),cs=Z.map (Value.int .u8)->
 (forIn cs AO (λc s=>(match c with| .int .u8 n=>pure (ForInStep.yield (s.push (UInt8.ofNat n.toNat)))|_=>(do stuck "bytesToString: byte expected";pure (ForInStep.yield s)):Sem (ForInStep ByteArray)))).run P w=.ok ⟨(AO.data.toList++Z.map λn=>UInt8.ofNat n.toNat).toArray⟩ w
 |[],AO,Z,h=>by
  have:Z=[]:=by simpa using h.symm
  subst this;simp
 |c::cs,AO,Z,h=>by
  cases Z with
  |nil=>simp at h
  |cons n Z=>
   simp at h;obtain⟨rfl,rfl⟩:=h;simp only[List.forIn_cons,Sem.run_bind,Sem.run_pure,Result.andThen_ok];rw[Hz (Z.map (Value.int .u8)) (AO.push (UInt8.ofNat n.toNat)) Z rfl];simp
theorem QC{P:Program}{w:World}{e:TypeId}{b:ByteArray}:∃(arr:Array Value)(fr:Nat×Nat)(w':World)(cap:Nat)(rest:List Value),b.size<=cap/\(Conv.stringToBytes e b).run P w=.ok (.slice (some ⟨w.heap.size,0,none⟩) b.size cap) w'/\
 arr.toList=(b.data.toList.map λx=>Value.int .u8 x.toNat)++rest/\w'.heap[w.heap.size]?=some (.cells arr e fr)/\(∀k,k<w.heap.size->w'.heap[k]?=w.heap[k]?)/\w.heap.size<=w'.heap.size/\w'.os=w.os/\w'.tape=w.tape/\w'.output=w.output:=by
 obtain⟨cap,AJ⟩:∃cap,cap=(Question.appendCap b.size 0 e).cut (w.tape w.drawn (.appendCap b.size 0 e)):=⟨_,rfl⟩;obtain⟨arr,AE⟩:∃arr:Array Value,arr=(b.data.map λx=>Value.int .u8 x.toNat)++Array.replicate (cap-b.size) (.int .u8 0):=⟨_,rfl⟩;obtain⟨T,AL⟩:∃T,T=w.drew.alloc (.cells arr e):=⟨_,rfl⟩;have AB:T.heap[w.heap.size]?=some (.cells arr e (0,0)):=by
  have:=heap_alloc_new w.drew (.cells arr e);rw[<-AL]at this;exact this
 have Ac:w.heap.size<T.heap.size:=(acU.1 AB).1;have BA:T.shape? w.heap.size=some (e,arr.size):=by simp[World.shape?,AB]
 refine⟨arr,(arr.size,arr.size+1),T.freeze ⟨w.heap.size,arr.size,none⟩ 1,cap,List.replicate (cap-b.size) (.int .u8 0),?_,?_,?_,?_,?_,?_,?_,?_,?_⟩
 ·rw[AJ];simp[Question.cut]
 ·have Ad:(choose (.appendCap b.size 0 e)).run P w=.ok cap w.drew:=by
   rw[AJ];rfl
  have BB:(newRow e arr).run P w.drew=.ok ⟨w.heap.size,0,none⟩ T:=by rw[AL];rfl
  have BC:(markStringish ⟨w.heap.size,0,none⟩).run P T=.ok () (T.freeze ⟨w.heap.size,arr.size,none⟩ 1):=by
   simp only[markStringish,shape,Sem.run_bind,Sem.run,BA,Result.andThen_ok,freeze]
  simp only[Conv.stringToBytes,Sem.run_bind,Ad,Result.andThen_ok,<-AE,BB,BC,Sem.run_pure]
 ·rw[AE];simp
 ·simp[World.freeze,akV,AB]
 ·intro k AH;have I:(T.freeze ⟨w.heap.size,arr.size,none⟩ 1).heap[k]?=T.heap[k]?:=by
   simp only[World.freeze,Nat.one_ne_zero,acw,akV];rw[aab (by omega)]
  rw[I,AL];exact RowKit.Below.heap_alloc w.drew _ k AH
 ·simp[World.freeze];omega
 ·simp[World.freeze,AL];rfl
 ·simp[World.freeze,AL]
 ·simp[World.freeze,AL];rfl
theorem VP(n:Int):byteOf (.int .u8 n)=UInt8.ofNat n.toNat:=rfl
theorem Rk(P:Program)(S:St)(o:Oper)(src dst:TypeId)(x:Operand)(AW:o.op=.convert src dst x)(M:(S.au x).1=true):aM P S o (ot P S.mem (keyOf o) src dst (S.au x).2):=by
 have A0:∀(a:Act)(w w':World)(v:Value),(convert src dst (a.eval x)).run P w=.ok v w'->(execOp a.eval o).run P w=.ok (.value v) w':=by
  intro a w w' v h;simp[execOp,AW,h]
 unfold ot;split
 ·rename_i k BU n J A1;refine aM.pure λA4 φ G a w H=>?_;have I:=H.au x M;rw[A1]at I;obtain⟨BD,hu⟩:=Gi A4;refine⟨.int k (k.wrap n),A0 a w w _ ?_,.d _ _ (.int _ _)⟩;rw[lF I];simp[convert,run_underlying hu,run_underlying (zP J),Conv.intToInt]
 ·rename_i k n J A1;refine aM.pure λA4 φ G a w H=>?_;have I:=H.au x M;rw[A1]at I;obtain⟨BD,hu⟩:=Gi A4;refine⟨.string (Utf8.encode n),A0 a w w _ ?_,.d _ _ (.str _ _ rfl)⟩;rw[lF I];simp[convert,run_underlying hu,run_underlying (qk J),Conv.intToString]
 ·rename_i s J A1;refine aM.pure λA4 φ G a w H=>?_;have I:=H.au x M;rw[A1]at I;obtain⟨b,Ao,rfl⟩:=wJ I;refine⟨.string b,A0 a w w _ ?_,.d _ _ (.str _ _ rfl)⟩;rw[Ao];simp[convert,run_underlying (qk A4),run_underlying (qk J)]
 ·rename_i J _ _;split
  ·rename_i e AZ;split
   ·rename_i c A7 AC;refine aM.pure ?_;rintro ⟨A4,A_,BV,AP⟩ φ G a w H;replace AP:=λd J=>D.ZO (AP d J);have A1:=H.au x M;obtain⟨BE,Ap⟩:=MJ (P:=P) H.mem A1 AC A4 (λd J=>by obtain⟨n,rfl⟩:=AP d J;rfl);have Y:=Ap.len w;have AQ:=Ap.first w (λ_ _=>rfl);obtain⟨BF,BW,BX,BG⟩:=Ap.aj
    --BY cells as numbers
    have Aa:∃Z:List Int,BE=Z.map (Value.int .u8)/\A7=Z.map (D.int .u8):=by
     refine⟨A7.map λd=>(match d with| .int _ n=>n|_=>0),?_,?_⟩
     ·apply List.ext_getElem?;intro i;by_cases hi:i<A7.length
      ·obtain⟨v,O,BH⟩:=BG i A7[i] (by simp[hi]);obtain⟨n,Ab⟩:=AP A7[i] (ahV hi);rw[Ab]at O;cases O;have:=BH 0 (.int .u8 n) rfl;simp only[alb,ah0]at this;rw[this];simp[hi,Ab]
      ·rw[afX (by rw[BF];omega),afX (by simp;omega)]
     ·apply List.ext_getElem?;intro i;by_cases hi:i<A7.length
      ·obtain⟨n,Ab⟩:=AP A7[i] (ahV hi);simp[hi,Ab]
      ·rw[afX (by omega),afX (by simp;omega)]
    obtain⟨Z,rfl,rfl⟩:=Aa;generalize Ai:a.eval x=Aq at Y AQ A1;have O:(∃ao m cap,Aq=.slice ao m cap)\/(∃b,Aq=.string b):=by
     cases Aq<;>first|exact .inl ⟨_,_,_,rfl⟩|exact .inr ⟨_,rfl⟩|(simp[Builtin.lenOf,stuck]at Y)
    refine⟨.string ⟨(Z.map λn=>UInt8.ofNat n.toNat).toArray⟩,A0 a w w _ ?_,.d _ _ (.str _ _ ?_)⟩
    ·rw[Ai];rcases O with ⟨ao,m,cap,rfl⟩|⟨b,rfl⟩
     ·simp only[Builtin.lenOf,Sem.run_pure,Result.ok.injEq,aoz]at Y;subst Y;cases ao with
      |none=>
       have BI:Z=[]:=by
        simp only[Builtin.firstCells,Sem.run_pure,Result.ok.injEq,aoz]at AQ;have:=ahS Array.size AQ;simp at this;exact abO this.symm
       subst BI;simp[convert,run_underlying (gO AZ),run_underlying (qk J),run_underlying (zP A_),Conv.bytesToString];rfl
      |some BZ=>
       simp only[Builtin.firstCells,alb]at AQ;have A':=Hz (P:=P) (w:=w) (Z.map (Value.int .u8)) ByteArray.empty Z rfl;simp only[convert,run_underlying (gO AZ),run_underlying (qk J),run_underlying (zP A_),Sem.run_bind,Result.andThen_ok,Conv.bytesToString,AQ];rw[<-Array.forIn_toList];simp only[Sem.run_pure];refine Eq.trans (ahS (λr=>Result.andThen r λa w'=>Result.ok (Value.string a) w') A') ?_;rfl
     ·exfalso;have Aa:∀s,(S.au x).2=.d (.str s)->False:=by assumption
      generalize (S.au x).2=y at AC A1 Aa;unfold iS at AC;split at AC
      ·cases A1 with|d _ _ h=>cases h
      ·exact Aa _ rfl
      ·cases A1
      ·cases A1
      ·split at AC
       ·rename_i key Au B_ aj AK;simp only[aa1,acr]at AC;obtain⟨rfl,_⟩:=AC;obtain⟨_,_,L,AN,AI,_⟩:=H.mem.get AK;cases A1 with
        |vec _ _ _ _ _ L' Az _ h _=>
         rw[AN]at Az;cases Az;obtain⟨_,_,W,_⟩:=h (by rw[<-(acV A4).1];exact AI.symm);cases W
       ·cases AC
      ·cases AC
    ·simp[VP,Function.comp_def]
   ·trivial
  ·trivial
 ·rename_i e s J A1;split
  ·rename_i AZ A_ AK;intro _ φ G a w H;have I:=H.au x M;rw[A1]at I;obtain⟨b,Ao,rfl⟩:=wJ I;have BJ:b.size=b.data.toList.length:=by rw[ab9];rfl
   obtain⟨arr,fr,w',cap,rest,AJ,BK,AE,hh,hold,A5,BL,BM,BN⟩:=QC (P:=P) (w:=w) (e:=e) (b:=b);have AG:cA w (Fo G φ S.mem) 1 (uk b.data.toList) (b.data.toList.map λx=>Value.int .u8 x.toNat):=by
    refine⟨by simp[uk],?_,?_,?_⟩
    ·intro v O;simp only[abV]at O;obtain⟨y,_,rfl⟩:=O;rfl
    ·intro d J;simp only[uk,abV]at J;obtain⟨y,_,rfl⟩:=J;rfl
    ·intro i d J;simp only[uk,ab6,aax]at J;obtain⟨y,BO,rfl⟩:=J;refine⟨.int .u8 y.toNat,.int _ _,λj c AD=>?_⟩;cases j with
     |zero=>simp only[Value.cells]at AD;simp at AD;subst AD;simp only[ab6,alb,ah0,BO];rfl
     |succ j=>simp[Value.cells]at AD
   have U:=Nb (cap:=cap) AG hh AE (λx v h=>Nc hold A5 x v h) (λh=>absurd (Gf H.mem _ h) (Nat.lt_irrefl _)) (by simp[uk];exact AJ);refine⟨_,w',.inl (A0 a w w' _ ?_),.d _ _ U,hold,A5,BL,BM,BN⟩;have Y:(uk b.data.toList).length=b.size:=by rw[BJ];simp[uk]
   rw[Ao,Y];simp only[convert,run_underlying (qk AZ),run_underlying (gO J),run_underlying (zP A_),Sem.run_bind,Result.andThen_ok];exact BK
  ·trivial
 ·trivial
end Go.Am
end

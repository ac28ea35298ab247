/-
  Texts of one proof, one behind the other.
-/
import Derived.SizedLaws
import Derived.Handed
import Derived.Shelf.Vars
import Derived.WalkKit
import Derived.Laws.Rows
import Derived.Laws.CopyRow
import Derived.Laws.StructEq
set_option linter.all false
namespace Go.Am
open Go
def Ds:=@Bool.and_eq_true
def aaf:=@List.getElem?_eq_some_iff
def aah:=@if_neg
def aai:=@Nat.le_refl
def aak:=@Option.map_eq_some_iff
def aam:=@decide_eq_true_eq
def aan:=@List.mem_cons
def aao:=@List.mem_of_getElem?
def aap:=@if_pos
def aaq:=@List.getElem?_append_left
def aax:=@Option.some.injEq
def aay:=@Array.getD_eq_getD_getElem?
def aaz:=@List.getElem?_take
def aaC:=@Nat.mul_le_mul_right
def aaF:=@List.getElem?_append_right
def aaH:=@List.all_eq_true
def abT:=@List.mem_append
def abY:=@List.mem_map_of_mem
def abZ:=@Array.length_toList
def ab0:=@List.length_append
def ab1:=@List.length_cons
def ab2:=@List.mem_range
def ab3:=@Prod.mk.injEq
def acb:=@List.mem_map
def acf:=@List.mem_of_mem_take
def ach:=@List.mem_of_mem_drop
def aci:=@Nat.add_assoc
def acj:=@List.getElem?_map
def acp:=@List.eq_nil_of_length_eq_zero
def acq:=@List.getElem?_drop
def acw:=@Array.getElem?_eq_some_iff
def acB:=@List.getElem?_eq_getElem
def acC:=@Bool.false_ne_true
def acE:=@of_decide_eq_true
def acF:=@if_false
def acH:=@List.mem_filter
def acI:=@List.take_of_length_le
def acJ:=@List.mem_cons_of_mem
def acK:=@List.size_toArray
def acL:=@List.length_drop
def acN:=@List.getElem_mem
def acU:=@Nat.add_mul
def acV:=@Option.getD_some
def acX:=@List.not_mem_nil
def acY:=@List.length_singleton
def acZ:=@List.map_cons
def ac1:=@Option.bind_some
def ac3:=@Nat.zero_add
def ac6:=@List.getElem?_toArray
def ac7:=@decide_eq_false_iff_not
def ac8:=@congrArg
def ado:=@List.drop_eq_getElem_cons
def ady:=@Array.getElem?_eq_getElem
def adI:=@if_true
def ae8:=@List.length_nil
def afl:=@List.append_nil
def afn:=@List.length_take
def afq:=@List.getElem?_eq_none
def afw:=@Array.getElem?_toList
def afA:=@Nat.add_zero
def afC:=@List.getD_eq_getElem?_getD
def afG:=@Array.getElem?_append_left
def afH:=@List.foldl_cons
def afI:=@List.append_assoc
def afJ:=@Option.map_some
def afK:=@List.cons_append
def afL:=@Ne.symm
def afM:=@Nat.succ_mul
def afN:=@List.filter_eq_nil_iff
def afP:=@Bool.or_eq_true
def afQ:=@Nat.lt_of_lt_of_le
def afR:=@List.foldl_nil
def afX:=@List.all_cons
def afZ:=@List.range'_succ
def agr:=@List.filter_filter
def ags:=@List.filter_append
def agy:=@Bool.false_and
def agD:=@List.takeWhile_prefix
def agE:=@Array.getElem?_modify
def agG:=@Nat.min_eq_left
def ag6:=@Nat.le_trans
def ag8:=@List.mem_append_left
def akn:=@List.filter_congr
def ako:=@Decidable.em
def akp:=@Bool.or_eq_false_iff
def akq:=@Bool.not_eq_true'
def akr:=@Option.isSome_iff_exists
def aks:=@Bool.true_and
def akt:=@decide_eq_true
def aku:=@Option.bind_eq_some_iff
def akv:=@Nat.mul_one
def akw:=@Nat.le_succ
def akx:=@Nat.eq_zero_or_pos
def aky:=@Bool.false_eq_true
def akz:=@Nat.le_add_left
def akA:=@List.take_append_drop
def akB:=@List.length_filter_lt_length_iff_exists
def akC:=@List.filter_cons_of_neg
def akD:=@not_or
def akE:=@List.tail_drop
def akF:=@List.mem_range'_1
def akG:=@List.drop_drop
def akI:=@or_false
def alp:=@Nat.zero_le
def alq:=@List.take_append_of_le_length
def alr:=@List.mem_iff_getElem
def als:=@Array.toArray_toList
end Go.Am
section
namespace Go.Am
open Go
inductive D where
 |int (k:IntKind) (n:Int)
 |bool (b:Bool)
 |str (s:List UInt8)
 |list (xs:List D)
 |agg (cs:List D)
 |xC
def D.size:D->Nat
 | .agg cs=>cs.length
 |_=>1
def D.flat:D->Bool
 | .agg _=>false
 |_=>true
def cd:Value->Bool
 | .agg _=>false
 | .tuple _=>false
 |_=>true
theorem dC{v:Value}(h:cd v=true):v.cells=#[v]:=by cases v<;>simp_all [cd,Value.cells]
inductive aJ(w:World)(F:Nat->Prop):D->Value->Prop
 |int (k n):aJ w F (.int k n) (.int k n)
 |bool (b):aJ w F (.bool b) (.bool b)
 |xC (v:Value) (h:v=.nilIface\/∃t p,v=.iface t p):aJ w F .xC v
 |str (b:ByteArray) (s:List UInt8) (h:b.data.toList=s):aJ w F (.str s) (.string b)
 |agg (cs:List D) (a:Array Value) (E:cs.length=a.size)
  (T:∀d∈cs,d.flat=true) (H:∀(i:Nat)(d:D)(v:Value),cs[i]?=some d->a[i]?=some v->aJ w F d v):aJ w F (.agg cs) (.agg a)
 |nil (a:Option Addr) (cap:Nat) (A0:a=none->cap=0):aJ w F (.list []) (.slice a 0 cap)
 |list (xs:List D) (b off cap sz:Nat) (vs:Nat->Value) (A1:xs.length<=cap) (N:b<w.heap.size) (M:¬F b) (A2:∀d∈xs,d.size=sz)
  (U:∀(i:Nat)(d:D),xs[i]?=some d->aJ w F d (vs i))
  (H:∀(i j:Nat)(c:Value),i<xs.length->(vs i).cells[j]?=some c->w.cell? ⟨b,off+i*sz+j,none⟩=some c):
  aJ w F (.list xs) (.slice (some ⟨b,off,none⟩) xs.length cap)
theorem aJ.size{w F d v}(h:aJ w F d v):v.cells.size=d.size:=by
 cases h
 case xC h=>rcases h with rfl|⟨t,p,rfl⟩<;>rfl
 all_goals simp_all [D.size,Value.cells]
theorem aJ.one{w F d v}(h:aJ w F d v)(T:d.flat=true):cd v=true:=by
 cases h
 case xC h=>rcases h with rfl|⟨t,p,rfl⟩<;>rfl
 all_goals simp_all [D.flat,Am.cd]
theorem jx{w w':World}{b o:Nat}(h:w'.heap[b]?=w.heap[b]?):w'.cell? ⟨b,o,none⟩=w.cell? ⟨b,o,none⟩:=by
 simp[World.cell?,h]
theorem aJ.mono{w w':World}{F F':Nat->Prop}{d v}(h:aJ w F d v)
 (V:∀b,b<w.heap.size->¬F b->w'.heap[b]?=w.heap[b]?) (q:w.heap.size<=w'.heap.size) (M:∀b,b<w.heap.size->F' b->F b):aJ w' F' d v:=by
 induction h with
 |int k n=>exact .int k n
 |bool b=>exact .bool b
 |xC v h=>exact .xC v h
 |str b s h=>exact .str b s h
 |agg cs a E T _ ih=>exact .agg cs a E T ih
 |nil a cap A0=>exact .nil a cap A0
 |list xs b off cap sz vs A1 N Y A2 _ H ih=>
  exact .list xs b off cap sz vs A1 (by omega) (λh=>Y (M b N h)) A2 ih (λi j c hi A8=>by
   rw[jx (V b N Y)];exact H i j c hi A8)
def qV:Nat:=1000000
inductive AV where
 |aY
 |d (x:D)
 |agg (cs:List AV)
 |ptr (k ak off:Nat)
 |vec (k ak off len:Nat)
 |cn (k ak i j:Nat)
 |dq (x:D) (j:Nat)
 |fn (f:FuncId) (cap:List AV)
 |bM (vs:List AV)
 |fR (t:TypeId) (x:D)
 |lit (v:Value)
 |nn
 |err
structure Loc where
 ak:Nat
 cU:Nat
 sz:Nat
 cap:Nat
 base:Nat
 cC:List (Option Nat):=[]
abbrev bG:=Nat->Option Loc
inductive az(φ:bG)(w:World)(F:Nat->Prop):AV->Value->Prop
 |aY (v):az φ w F .aY v
 |d (x v) (h:aJ w F x v):az φ w F (.d x) v
 |agg (cs:List AV) (a:Array Value) (E:cs.length=a.size) (A:∀v∈a,cd v=true) (H:∀(i:Nat)(c:AV)(v:Value),cs[i]?=some c->a[i]?=some v->az φ w F c v):az φ w F (.agg cs) (.agg a)
 |ptr (k ak off:Nat) (v:Value) (L:Loc) (I:φ k=some L) (U:ak<=L.ak) (h:ak=L.ak->v=.pointer (some ⟨L.cU,off,none⟩)) (A:cd v=true):az φ w F (.ptr k ak off) v
 |vec (k ak off len:Nat) (v:Value) (L:Loc) (I:φ k=some L) (U:ak<=L.ak)
  (h:ak=L.ak->∃a cap,v=.slice a len cap/\len<=cap/\(cap>0->a=some ⟨L.cU,L.base+off*L.sz,none⟩/\off+cap<=L.cap)) (A:cd v=true):az φ w F (.vec k ak off len) v
 |cn (k ak i j:Nat) (v:Value) (L:Loc) (I:φ k=some L) (U:ak<=L.ak) (h:ak=L.ak->v=.pointer (some ⟨L.cU,L.base+i*L.sz+j,none⟩)) (A:cd v=true):az φ w F (.cn k ak i j) v
 |dq (x:D) (j:Nat) (b off:Nat) (y:Value) (N:b<w.heap.size) (M:¬F b) (A3:aJ w F x y)
  (H:∀(i:Nat)(c:Value),y.cells[i]?=some c->w.cell? ⟨b,off+i,none⟩=some c):az φ w F (.dq x j) (.pointer (some ⟨b,off+j,none⟩))
 |fn (f:FuncId) (cap:List AV) (a:Array Value) (T:f<qV) (E:cap.length=a.size) (H:∀(i:Nat)(c:AV)(v:Value),cap[i]?=some c->a[i]?=some v->az φ w F c v):az φ w F (.fn f cap) (.func (.func f) #[] a)
 |qW (f:FuncId) (cap:List AV) (a:Array Value) (E:cap.length=a.size) (H:∀(i:Nat)(c:AV)(v:Value),cap[i]?=some c->a[i]?=some v->az φ w F c v):az φ w F (.fn (f+qV) cap) (.func (.func f) a #[])
 |bM (vs:List AV) (a:Array Value) (E:vs.length=a.size) (H:∀(i:Nat)(c:AV)(v:Value),vs[i]?=some c->a[i]?=some v->az φ w F c v):az φ w F (.bM vs) (.tuple a)
 |fR (t:TypeId) (x:D) (v:Value) (h:aJ w F x v):az φ w F (.fR t x) (.iface t v)
 |lit (v) (A:cd v=true):az φ w F (.lit v) v
 |nn (a:Addr) (cap:Nat):az φ w F .nn (.slice (some a) 0 cap)
 |err (t:TypeId) (v:Value):az φ w F .err (.iface t v)
def bG.le(φ φ':bG):Prop:=∀k L,φ k=some L->∃L',φ' k=some L'/\L.ak<=L'.ak/\(L'.ak=L.ak->L'={L with cC:=L'.cC})
theorem bG.le_refl(φ:bG):φ.le φ:=λ_ L h=>⟨L,h,aai _,λ_=>rfl⟩
theorem bG.le_trans{φ φ' A4:bG}(h:φ.le φ')(A9:φ'.le A4):φ.le A4:=by
 intro k L I;obtain⟨A5,A,AD,AA⟩:=h k L I;obtain⟨AB,AC,AE,A6⟩:=A9 k A5 A;refine⟨AB,AC,by omega,λe=>?_⟩;have J:A5.ak=L.ak:=by omega
 have O:=AA J;rw[O]at A6;exact A6 (by rw[e])
theorem az.mono{φ φ':bG}{w w':World}{F F':Nat->Prop}{x v}(h:az φ w F x v)(A':φ.le φ')
 (V:∀b,b<w.heap.size->¬F b->w'.heap[b]?=w.heap[b]?) (q:w.heap.size<=w'.heap.size) (M:∀b,b<w.heap.size->F' b->F b):az φ' w' F' x v:=by
 induction h with
 |aY v=>exact .aY v
 |d x v h=>exact .d x v (h.mono V q M)
 |agg cs a E A _ ih=>exact .agg cs a E A ih
 |ptr k ak off v L I U h A=>
  obtain⟨L',Z,A7,he⟩:=A' k L I;exact .ptr k ak off v L' Z (by omega) (λe=>by
   have J:L'.ak=L.ak:=by omega
   have O:=he J;rw[O];exact h (by rw[e,J])) A
 |vec k ak off len v L I U h A=>
  obtain⟨L',Z,A7,he⟩:=A' k L I;exact .vec k ak off len v L' Z (by omega) (λe=>by
   have J:L'.ak=L.ak:=by omega
   have O:=he J;rw[O];exact h (by rw[e,J])) A
 |cn k ak i j v L I U h A=>
  obtain⟨L',Z,A7,he⟩:=A' k L I;exact .cn k ak i j v L' Z (by omega) (λe=>by
   have J:L'.ak=L.ak:=by omega
   have O:=he J;rw[O];exact h (by rw[e,J])) A
 |dq x j b off y N Y A3 H=>
  exact .dq x j b off y (by omega) (λh=>Y (M b N h)) (A3.mono V q M) (λi c hi=>by rw[jx (V b N Y)];exact H i c hi)
 |fn f cap a T E _ ih=>exact .fn f cap a T E ih
 |qW f cap a E _ ih=>exact .qW f cap a E ih
 |bM vs a E _ ih=>exact .bM vs a E ih
 |fR t x v h=>exact .fR t x v (h.mono V q M)
 |lit v A=>exact .lit v A
 |nn a cap=>exact .nn a cap
 |err t v=>exact .err t v
inductive ay where
 |dead
 |box (cs:List AV)
 |vec (sz:Nat) (ag:List D)
 |vv (ag:List (List D)) (y:Option AV)
structure cg where
 key:Nat
 ak:Nat
 cont:ay
abbrev Mem:=List cg
def Mem.get:Mem->Nat->Option cg
 |[],_=>none
 |e::r,k=>if e.key=k then some e else Mem.get r k
def Mem.set:Mem->cg->Mem
 |[],_=>[]
 |e::r,x=>if e.key=x.key then x::r else e::Mem.set r x
theorem Mem.get_mem{m:Mem}{k e}(h:Mem.get m k=some e):e∈m/\e.key=k:=by
 induction m with
 |nil=>simp[Mem.get]at h
 |cons x r ih=>
  simp only[Mem.get]at h;split at h
  ·simp_all
  ·have:=ih h;simp_all
theorem Mem.get_of_mem{m:Mem}{e}(I:(m.map (·.key)).Nodup)(h:e∈m):Mem.get m e.key=some e:=by
 induction m with
 |nil=>simp at h
 |cons x r ih=>
  simp only[acZ,List.nodup_cons]at I;simp only[Mem.get];rcases aan.1 h with rfl|h
  ·simp
  ·have:x.key≠e.key:=λhe=>I.1 (by rw[he];exact abY h);simp[this,ih I.2 h]
theorem Mem.fS(m:Mem)(x:cg):(Mem.set m x).map (·.key)=m.map (·.key):=by
 induction m with
 |nil=>rfl
 |cons e r ih=>
  simp only[Mem.set];split
  ·simp_all
  ·simp[ih]
theorem Mem.mem_set{m:Mem}{x e:cg}(I:(m.map (·.key)).Nodup):e∈Mem.set m x↔(e=x/\x.key∈m.map (·.key))\/(e∈m/\e.key≠x.key):=by
 induction m with
 |nil=>simp[Mem.set]
 |cons y r ih=>
  simp only[acZ,List.nodup_cons]at I;simp only[Mem.set];split
  ·rename_i M;constructor
   ·intro h;rcases aan.1 h with rfl|h
    ·left;simp[M]
    ·right;refine⟨by simp[h],λhe=>I.1 ?_⟩;rw[M,<-he];exact abY h
   ·rintro (⟨rfl,_⟩|⟨h,V⟩)
    ·simp
    ·rcases aan.1 h with rfl|h
     ·exact absurd M V
     ·simp[h]
  ·rename_i M;simp only[aan,ih I.2,acZ];constructor
   ·rintro (rfl|⟨rfl,h⟩|⟨h,V⟩)
    ·right;exact⟨.inl rfl,M⟩
    ·left;exact⟨rfl,.inr h⟩
    ·right;exact⟨.inr h,V⟩
   ·rintro (⟨rfl,h⟩|⟨h,V⟩)
    ·rcases h with h|h
     ·exact absurd h.symm M
     ·right;left;exact⟨rfl,h⟩
    ·rcases h with rfl|h
     ·left;rfl
     ·right;right;exact⟨h,V⟩
theorem Mem.nN{m:Mem}{x:cg}(h:x.key∈m.map (·.key)):Mem.get (Mem.set m x) x.key=some x:=by
 induction m with
 |nil=>simp at h
 |cons y r ih=>
  simp only[Mem.set];split
  ·simp[Mem.get]
  ·rename_i M;simp only[Mem.get,M,acF];exact ih (by simp only[acZ,aan]at h;rcases h with h|h;exact absurd h.symm M;exact h)
theorem Mem.nO{m:Mem}{x:cg}{k:Nat}(h:x.key≠k):Mem.get (Mem.set m x) k=Mem.get m k:=by
 induction m with
 |nil=>rfl
 |cons y r ih=>
  simp only[Mem.set];split
  ·rename_i M;have:y.key≠k:=by rw[M];exact h
   simp[Mem.get,h,this]
  ·simp only[Mem.get,ih]
def ay.cD(L:Loc):ay->Nat->Prop
 | .dead,_=>False
 | .box _,b=>L.cU=b
 | .vec _ _,b=>0<L.cap/\L.cU=b
 | .vv _ _,b=>(0<L.cap/\L.cU=b)\/some b∈L.cC
def gS(φ:bG)(m:Mem)(b:Nat):Prop:=∃e∈m,∃L,φ e.key=some L/\e.cont.cD L b
structure Fr where
 g:Nat->Prop
 dv:List Deferred
instance:CoeFun Fr (λ_=>Nat->Prop):=⟨Fr.g⟩
def Fo(G:Fr)(φ:bG)(m:Mem)(b:Nat):Prop:=G b\/gS φ m b
def en(w:World)(b:Nat)(arr:Array Value)(elem:TypeId):Prop:=∃fr:Nat×Nat,w.heap[b]?=some (.cells arr elem fr)/\(fr=(0,0)\/arr.size<=fr.1)
theorem en.same{w w':World}{b:Nat}{arr:Array Value}{elem:TypeId}(h:en w b arr elem)(O:w'.heap[b]?=w.heap[b]?):en w' b arr elem:=by
 obtain⟨fr,T,Y⟩:=h;exact⟨fr,by rw[O];exact T,Y⟩
theorem en.lt{w:World}{b:Nat}{arr:Array Value}{elem:TypeId}(h:en w b arr elem):b<w.heap.size:=by
 obtain⟨fr,T,Y⟩:=h;exact (acw.1 T).1
theorem en.new{w:World}{b:Nat}{arr:Array Value}{elem:TypeId}(h:w.heap[b]?=some (.cells arr elem (0,0))):en w b arr elem:=⟨(0,0),h,.inl rfl⟩
def xZ(w:World)(F:Nat->Prop)(v:Option Value)(xs:List D)(o:Option Nat):Prop:=
 match o with
 |none=>xs=[]/\∃a,v=some (.slice a 0 0)
 |some b=>∃(row:Array Value)(AF:TypeId)(off cap:Nat),v=some (.slice (some ⟨b,off,none⟩) xs.length cap)/\0<cap/\xs.length<=cap/\off+cap<=row.size/\en w b row AF/\(∀u∈row,cd u=true)/\
  ∀(i:Nat)(d:D),xs[i]?=some d->d.size=1/\∃u,aJ w F d u/\∀(j:Nat)(c:Value),u.cells[j]?=some c->row[off+i*1+j]?=some c
theorem xZ.mono{w w':World}{F F':Nat->Prop}{v xs o}(h:xZ w F v xs o)(A0:∀d u,d∈xs->aJ w F d u->aJ w' F' d u)
 (A1:∀b,o=some b->w'.heap[b]?=w.heap[b]?):xZ w' F' v xs o:=by
 cases o with
 |none=>exact h
 |some b=>
  obtain⟨row,AF,off,cap,T,Y,A3,A7,AK,Af,Ag⟩:=h;exact⟨row,AF,off,cap,T,Y,A3,A7,AK.same (A1 b rfl),Af,λj d AG=>let ⟨g1,u,g2,g3⟩:=Ag j d AG;⟨g1,u,A0 d u (aao AG) g2,g3⟩⟩
def jO(φ:bG)(w:World)(F:Nat->Prop)(L:Loc)(ag:List (List D))(y:Option AV):Prop:=
 (L.sz=1/\ag.length+y.toList.length<=L.cap/\L.cC.length=ag.length)/\
  (∀(i j:Nat)(b:Nat),L.cC[i]?=some (some b)->L.cC[j]?=some (some b)->i=j)/\(∀b,some b∈L.cC->0<L.cap/\b≠L.cU)/\
  (0<L.cap->∃(arr:Array Value)(elem:TypeId),en w L.cU arr elem/\arr.size=L.base+L.cap/\(∀v∈arr,cd v=true)/\
   (∀(i:Nat)(xs:List D)(o:Option Nat),ag[i]?=some xs->L.cC[i]?=some o->xZ w F arr[L.base+i]? xs o)/\
   ∀x,y=some x->∃v,arr[L.base+ag.length]?=some v/\az φ w F x v)
theorem jO.mono{φ φ':bG}{w w':World}{F F':Nat->Prop}{L ag y}(f:AV->AV)(h:jO φ w F L ag y)
 (A0:∀xs∈ag,∀d∈xs,∀u,aJ w F d u->aJ w' F' d u) (AL:∀x,y=some x->∀v,az φ w F x v->az φ' w' F' (f x) v)
 (A1:∀b,((0<L.cap/\L.cU=b)\/some b∈L.cC)->w'.heap[b]?=w.heap[b]?):jO φ' w' F' L ag (y.map f):=by
 obtain⟨Z,T,Y,h⟩:=h;refine⟨by cases y<;>exact Z,T,Y,λJ=>?_⟩;obtain⟨arr,elem,g1,g2,g3,g4,g5⟩:=h J;refine⟨arr,elem,g1.same (A1 _ (.inl ⟨J,rfl⟩)),g2,g3,λi xs o hi E=>(g4 i xs o hi E).mono (λd u hm=>A0 xs (aao hi) d hm u) (λb e=>A1 b (.inr (by subst e;exact aao E))),λx H=>?_⟩;cases y with
 |none=>cases H
 |some z=>
  cases H;obtain⟨v,q1,q2⟩:=g5 z rfl;exact⟨v,q1,AL z rfl v q2⟩
theorem jO.ahf{φ φ':bG}{w w':World}{F F':Nat->Prop}{L ag y}(h:jO φ w F L ag y)
 (A0:∀xs∈ag,∀d∈xs,∀u,aJ w F d u->aJ w' F' d u) (AL:∀x,y=some x->∀v,az φ w F x v->az φ' w' F' x v)
 (A1:∀b,((0<L.cap/\L.cU=b)\/some b∈L.cC)->w'.heap[b]?=w.heap[b]?):jO φ' w' F' L ag y:=by
 have:=h.mono id A0 AL A1;cases y<;>exact this
theorem jO.ak{φ w F L ag y}(h:jO φ w F L ag y)(v:Nat):jO φ w F {L with ak:=v} ag y:=h
def dD(φ:bG)(w:World)(F:Nat->Prop)(L:Loc):ay->Prop
 | .dead=>True
 | .box cs=>(L.sz=1/\L.base=0/\L.cap=cs.length)/\∃(arr:Array Value)(elem:TypeId),en w L.cU arr elem/\arr.size=cs.length/\(∀v∈arr,cd v=true)/\
  ∀(i:Nat)(c:AV)(v:Value),cs[i]?=some c->arr[i]?=some v->az φ w F c v
 | .vec sz ag=>L.sz=sz/\ag.length<=L.cap/\(∀d∈ag,d.size=L.sz)/\(0<L.cap->∃(arr:Array Value)(elem:TypeId),en w L.cU arr elem/\
  arr.size=L.base+L.cap*L.sz/\(∀v∈arr,cd v=true)/\
  ∀(i:Nat)(d:D),ag[i]?=some d->∃v,aJ w F d v/\∀(j:Nat)(c:Value),v.cells[j]?=some c->arr[L.base+i*L.sz+j]?=some c)
 | .vv ag y=>jO φ w F L ag y
def abQ(φ:bG)(w:World)(F:Nat->Prop)(e:cg):Prop:=∃L,φ e.key=some L/\L.ak=e.ak/\dD φ w F L e.cont
theorem dD.lt{φ w F L c b}(h:dD φ w F L c)(E:c.cD L b):b<w.heap.size:=by
 cases c with
 |dead=>exact E.elim
 |box cs=>obtain⟨_,arr,elem,h,_⟩:=h;have:L.cU=b:=E;subst this;exact h.lt
 |vec sz ag=>obtain⟨J,rfl⟩:=E;obtain⟨_,_,_,h⟩:=h;obtain⟨arr,elem,h,_⟩:=h J;exact h.lt
 |vv ag y=>
  obtain⟨⟨_,_,As⟩,_,A3,h⟩:=h;rcases E with ⟨J,rfl⟩|E
  ·obtain⟨arr,elem,h,_⟩:=h J;exact h.lt
  ·obtain⟨i,hi⟩:=List.getElem?_of_mem E;obtain⟨arr,elem,_,_,_,AK,_⟩:=h (A3 b E).1;have At:=(aaf.1 hi).1;obtain⟨row,AF,_,_,_,_,_,_,g,_⟩:=AK i (ag[i]'(by omega)) (some b) (by simp[show i<ag.length by omega]) hi
   exact g.lt
theorem dD.mono{φ φ':bG}{w w':World}{F F':Nat->Prop}{L c}(h:dD φ w F L c)(AS:φ.le φ')
 (N:∀b,b<w.heap.size->¬F b->w'.heap[b]?=w.heap[b]?) (O:w.heap.size<=w'.heap.size) (A8:∀b,b<w.heap.size->F' b->F b)
 (A1:∀b,c.cD L b->w'.heap[b]?=w.heap[b]?):dD φ' w' F' L c:=by
 cases c with
 |dead=>trivial
 |box cs=>
  obtain⟨Z,arr,elem,T,Y,A3,A7⟩:=h;exact⟨Z,arr,elem,T.same (A1 _ rfl),Y,A3,λi c v J A9=>(A7 i c v J A9).mono AS N O A8⟩
 |vec sz ag=>
  obtain⟨Ah,Z,Ai,h⟩:=h;refine⟨Ah,Z,Ai,λJ=>?_⟩;obtain⟨arr,elem,T,Y,A3,A7⟩:=h J;exact⟨arr,elem,T.same (A1 _ ⟨J,rfl⟩),Y,A3,λi d A0=>let ⟨v,A9,AG⟩:=A7 i d A0;⟨v,A9.mono N O A8,AG⟩⟩
 |vv ag y=>exact jO.ahf h (λ_ _ _ _ u hu=>hu.mono N O A8) (λx _ v H=>H.mono AS N O A8) A1
structure a8(φ:bG)(G:Fr)(m:Mem)(w:World):Prop where
 nodup:(m.map (·.key)).Nodup
 oI:∀k L,φ k=some L->k∈m.map (·.key)
 fC:∀e∈m,abQ φ w (Fo G φ m) e
 apart:∀e∈m,∀e'∈m,∀L L',φ e.key=some L->φ e'.key=some L'->(∃b,e.cont.cD L b/\e'.cont.cD L' b)->e.key=e'.key
 jP:∀b,gS φ m b->¬G b
 bound:∀b,G b->b<w.heap.size
theorem a8.Cg{φ G m w}(h:a8 φ G m w){b}(A:gS φ m b):b<w.heap.size:=by
 obtain⟨e,he,L,A5,E⟩:=A;obtain⟨L',AT,_,J⟩:=h.fC e he;rw[A5]at AT;cases AT;exact J.lt E
structure aP(φ:bG)(m:Mem)(w:World)(φ':bG)(m':Mem)(w':World):Prop where
 le:φ.le φ'
 x8:∀b,b<w.heap.size->¬gS φ m b->w'.heap[b]?=w.heap[b]?
 own:∀b,b<w.heap.size->gS φ' m' b->gS φ m b
 size:w.heap.size<=w'.heap.size
 os:w'.os=w.os
 tape:w'.tape=w.tape
 output:w'.output=w.output
theorem aP.refl(φ m w):aP φ m w φ m w:=⟨bG.le_refl _,λ_ _ _=>rfl,λ_ _ h=>h,aai _,rfl,rfl,rfl⟩
theorem aP.trans{φ m w AU AW AX AY AZ A_}(h:aP φ m w AU AW AX)(k:aP AU AW AX AY AZ A_):aP φ m w AY AZ A_ where
 le:=bG.le_trans h.le k.le
 x8:=λb A I=>by
  rw[k.x8 b (afQ A h.size) (λT=>I (h.own b A T)),h.x8 b A I]
 own:=λb A I=>h.own b A (k.own b (afQ A h.size) I)
 size:=ag6 h.size k.size
 os:=k.os.trans h.os
 tape:=k.tape.trans h.tape
 output:=k.output.trans h.output
theorem aP.av{φ m w φ' m' w' G}(h:aP φ m w φ' m' w'){x v}(H:az φ w (Fo G φ m) x v):az φ' w' (Fo G φ' m') x v:=
 H.mono h.le (λb A I=>h.x8 b A (λE=>I (.inr E))) h.size (λb A=>Or.imp id (h.own b A))
theorem a8.cG{φ G m w w'}(h:a8 φ G m w){e e':cg}(he:e∈m){L L':Loc}(A5:φ e.key=some L)(A2:e'.key=e.key)
 (Aj:L.ak<=L'.ak) (Ak:L'.ak=L.ak->L'={L with cC:=L'.cC})
 (A9:L'.ak=e'.ak)
 (hold:∀b,b<w.heap.size->¬e.cont.cD L b->w'.heap[b]?=w.heap[b]?) (O:w.heap.size<=w'.heap.size)
 (AM:∀b,e'.cont.cD L' b->e.cont.cD L b\/w.heap.size<=b)
 (AN:w'.os=w.os) (Al:w'.tape=w.tape) (An:w'.output=w.output)
 (J:∀φ':bG,φ'=(λk=>if k=e.key then some L' else φ k)->φ.le φ'->dD φ' w' (Fo G φ' (Mem.set m e')) L' e'.cont):
 ∃φ',a8 φ' G (Mem.set m e') w'/\aP φ m w φ' (Mem.set m e') w'/\φ' e.key=some L'/\∀k,k≠e.key->φ' k=φ k:=by
 have hle:φ.le (λk=>if k=e.key then some L' else φ k):=by
  intro k AO Z;by_cases N:k=e.key
  ·subst N;rw[A5]at Z;cases Z;exact⟨L',by simp,Aj,Ak⟩
  ·exact⟨AO,by simp[N,Z],aai _,λ_=>rfl⟩
 have Au:e'.key∈m.map (·.key):=by rw[A2];exact abY he
 have AP:∀x∈m,x.key≠e.key->∀q,φ x.key=some q->∀b,x.cont.cD q b->e.cont.cD L b->False:=
  λx H V q U b A' A4=>V (h.apart x H e he q L U A5 ⟨b,A',A4⟩)
 have AQ:∀b,b<w.heap.size->gS (λk=>if k=e.key then some L' else φ k) (Mem.set m e') b->gS φ m b:=by
  rintro b A ⟨x,H,q,U,A'⟩;rcases (Mem.mem_set h.nodup).1 H with ⟨rfl,_⟩|⟨A6,V⟩
  ·simp[A2]at U;subst U;rcases AM b A' with A4|Aa
   ·exact⟨e,he,L,A5,A4⟩
   ·omega
  ·rw[A2]at V;simp[V]at U;exact⟨x,A6,q,U,A'⟩
 have Ab:∀b,b<w.heap.size->¬gS φ m b->w'.heap[b]?=w.heap[b]?:=λb A I=>
  hold b A λE=>I ⟨e,he,L,A5,E⟩
 refine⟨_,⟨by rw[Mem.fS];exact h.nodup,?_,?_,?_,?_,?_⟩,⟨hle,Ab,AQ,O,AN,Al,An⟩,by simp,λk N=>by simp[N]⟩
 ·intro k AO Z;rw[Mem.fS];by_cases N:k=e.key
  ·subst N;exact abY he
  ·simp[N]at Z;exact h.oI k AO Z
 ·intro x H;rcases (Mem.mem_set h.nodup).1 H with ⟨rfl,_⟩|⟨A6,V⟩
  ·exact⟨L',by simp[A2],A9,J _ rfl hle⟩
  ·rw[A2]at V;obtain⟨q,U,Ao,AH⟩:=h.fC x A6;refine⟨q,by simp[V,U],Ao,AH.mono hle (λb A I=>Ab b A (λE=>I (.inr E))) O (λb A=>Or.imp id (AQ b A)) (λb A'=>?_)⟩;exact hold _ (AH.lt A') (λA4=>AP x A6 V q U b A' A4)
 ·rintro x H y M q Ac U AA ⟨b,A',AI⟩;rcases (Mem.mem_set h.nodup).1 H with ⟨rfl,_⟩|⟨A6,AC⟩<;>rcases (Mem.mem_set h.nodup).1 M with ⟨rfl,_⟩|⟨AR,AD⟩
  ·rfl
  ·rw[A2]at AD;simp[A2]at U;subst U;simp[AD]at AA;obtain⟨Av,Ad,_,Ap⟩:=h.fC y AR;rw[AA]at Ad;cases Ad;rcases AM b A' with A4|Aa
   ·exact (AP y AR AD Ac AA b AI A4).elim
   ·have:=Ap.lt AI;omega
  ·rw[A2]at AC;simp[A2]at AA;subst AA;simp[AC]at U;obtain⟨Aw,Ae,_,AH⟩:=h.fC x A6;rw[U]at Ae;cases Ae;rcases AM b AI with A4|Aa
   ·exact (AP x A6 AC q U b A' A4).elim
   ·have:=AH.lt A';omega
  ·rw[A2]at AC AD;simp[AC]at U;simp[AD]at AA;exact h.apart x A6 y AR q Ac U AA ⟨b,A',AI⟩
 ·intro b A AB;exact h.jP b (AQ b (h.bound b AB) A) AB
 ·intro b AB;exact afQ (h.bound b AB) O
theorem a8.grow{φ G m w w'}(h:a8 φ G m w)(hold:∀b,b<w.heap.size->w'.heap[b]?=w.heap[b]?)(O:w.heap.size<=w'.heap.size):a8 φ G m w' where
 nodup:=h.nodup
 oI:=h.oI
 fC:=λe he=>by
  obtain⟨L,A5,A9,J⟩:=h.fC e he;exact⟨L,A5,A9,J.mono (bG.le_refl _) (λb A _=>hold b A) O (λ_ _ h=>h) (λb E=>hold _ (J.lt E))⟩
 apart:=h.apart
 jP:=h.jP
 bound:=λb AB=>afQ (h.bound b AB) O
theorem aP.grow{φ m w w'}(hold:∀b,b<w.heap.size->w'.heap[b]?=w.heap[b]?)(O:w.heap.size<=w'.heap.size)(AN:w'.os=w.os)(AE:w'.tape=w.tape)(E:w'.output=w.output):aP φ m w φ m w':=
 ⟨bG.le_refl _,λb A _=>hold b A,λ_ _ h=>h,O,AN,AE,E⟩
abbrev Env:=List (Nat×Bool×AV)
def Env.lk:Env->Nat->Option (Bool×AV)
 |[],_=>none
 |(t,x)::r,u=>if t=u then some x else Env.lk r u
structure St where
 n:Nat
 gl:List (Nat×D)
 env:Env
 mem:Mem
def eh(w:World)(F:Nat->Prop)(gl:List (Nat×D)):Prop:=
 ∀x∈gl,(x.1<w.heap.size/\∀cs,x.2=.agg cs->∃cur e Aq,w.heap[x.1]?=some (.cells cur e Aq)/\cur.size=cs.length)/\¬F x.1/\∃AJ,aJ w F x.2 AJ/\∀(i:Nat)(c:Value),AJ.cells[i]?=some c->w.cell? ⟨x.1,i,none⟩=some c
theorem eh.mono{w w':World}{F F':Nat->Prop}{gl}(h:eh w F gl)(N:∀b,b<w.heap.size->¬F b->w'.heap[b]?=w.heap[b]?)(O:w.heap.size<=w'.heap.size)
 (A8:∀b,b<w.heap.size->F' b->F b):eh w' F' gl:=λx H=>by
 obtain⟨⟨T,Z⟩,Y,AJ,A3,A7⟩:=h x H;exact⟨⟨by omega,by rw[N _ T Y];exact Z⟩,λAr=>Y (A8 _ T Ar),AJ,A3.mono N O A8,λi c J=>by rw[jx (N _ T Y)];exact A7 i c J⟩
theorem aP.jR{φ m w φ' m' w' G gl}(h:aP φ m w φ' m' w')(H:eh w (Fo G φ m) gl):eh w' (Fo G φ' m') gl:=
 H.mono (λb A I=>h.x8 b A (λE=>I (.inr E))) h.size (λb A=>Or.imp id (h.own b A))
structure Rel(φ:bG)(G:Fr)(S:St)(a:Act)(w:World):Prop where
 size:a.tmps.size=S.n
 defers:a.defers=G.dv
 env:∀t x,Env.lk S.env t=some (true,x)->az φ w (Fo G φ S.mem) x (a.tmps.getD t undef)
 mem:a8 φ G S.mem w
 jR:eh w (Fo G φ S.mem) S.gl
def St.put(S:St)(d:Option Nat)(g:Bool)(x:AV):St:=
 match d with
 |some d=>{S with env:=(d,g,x)::S.env}
 |none=>S
theorem Rel.put{φ G S a w}(h:Rel φ G S a w)(d:Option Nat)(A0:∀t,d=some t->t<S.n)(g:Bool)(x:AV)(v:Value)
 (H:g=true->az φ w (Fo G φ S.mem) x v):Rel φ G (S.put d g x) (a.put d v) w:=by
 cases d with
 |none=>exact h
 |some d=>
  have A0:=A0 d rfl;refine⟨by simp[Act.put,St.put,h.size],by simp[Act.put,h.defers],?_,h.mem,h.jR⟩;intro t y M;simp only[St.put,Env.lk]at M;by_cases AE:d=t
  ·subst AE;simp only[adI,aax,ab3]at M;obtain⟨rfl,rfl⟩:=M;have:d<a.tmps.size:=by rw[h.size];exact A0
   have e:(a.put (some d) v).tmps.getD d undef=v:=by simp[Act.put,this]
   rw[e];exact H rfl
  ·simp only[AE,acF]at M;have e:(a.put (some d) v).tmps.getD t undef=a.tmps.getD t undef:=by simp[Act.put,AE]
   rw[e];exact h.env t y M
theorem Rel.x9{φ G S a w φ' m' w'}(h:Rel φ G S a w)(hm:a8 φ' G m' w')(N:aP φ S.mem w φ' m' w'):Rel φ' G {S with mem:=m'} a w':=
 ⟨h.size,h.defers,λt x H=>N.av (h.env t x H),hm,N.jR h.jR⟩
theorem nq{v:Value}(h:cd v=true):v.oneCell'=true:=by cases v<;>simp_all [cd,Value.oneCell']
inductive TK where
 |int (k:IntKind)
 |bool
 |str
 |slice (e:TypeId)
 |arr (n:Nat) (e:TypeId)
 |struct
 |iface
 |ptr (e:TypeId)
 |func
 |other
 deriving DecidableEq
def tk(P:Program)(t:TypeId):TK:=
 match P.underlying t with
 |some (.int k)=>.int k
 |some .bool=>.bool
 |some .string=>.str
 |some (.slice e)=>.slice e
 |some (.array n e)=>.arr n e
 |some (.struct _)=>.struct
 |some (.interface _)=>.iface
 |some (.pointer e)=>.ptr e
 |some (.func _ _ _)=>.func
 |_=>.other
def eM(P:Program)(t:TypeId):Option Nat:=(P.info? t).map (·.size)
def vN(P:Program)(s:TypeId)(f:Nat):Option Nat:=
 match P.underlying s with
 |some (.struct Af)=>match Af[f]? with
  |some fl=>match P.info? fl.type with
   |some i=>if i.size=0 then none else some fl.offset
   |none=>none
  |none=>none
 |_=>none
def TK.agg:TK->Bool
 | .arr _ _=>true
 | .struct=>true
 |_=>false
theorem pX{P:Program}{t:TypeId}{w:World}(h:tk P t≠.other):(isAgg t).run P w=.ok (tk P t).agg w:=by
 unfold isAgg;cases hu:P.underlying t with
 |none=>simp[tk,hu]at h
 |some d=>
  rw[Sem.run_bind,run_underlying hu];cases d<;>simp_all [tk,TK.agg]
theorem run_sizeOf{P:Program}{t:TypeId}{n:Nat}{w:World}(h:eM P t=some n):(sizeOf t).run P w=.ok n w:=by
 unfold eM at h;cases hi:P.info? t with
 |none=>simp[hi]at h
 |some i=>simp[hi]at h;simp[sizeOf,typeInfo,hi,h]
theorem eN(b o j:Nat):(⟨b,o,none⟩:Addr).add j=⟨b,o+j,none⟩:=by unfold Addr.add;split<;>simp_all
theorem tr{P:Program}{t:TypeId}{w:World}{a:Addr}{v:Value}(AE:(tk P t).agg=false)(AF:tk P t≠.other)(H:w.cell? a=some v):
 (Instr.loadAt t (.pointer (some a))).run P w=.ok v w:=by
 simp[Instr.loadAt,Instr.sureAddr,loadVar,Sem.run_bind,pX AF,AE,load,Sem.run,H]
theorem tt{P:Program}{t:TypeId}{w:World}{b o:Nat}{vs:List Value}(AE:(tk P t).agg=true)(AT:eM P t=some vs.length)
 (H:∀j v,vs[j]?=some v->w.cell? ⟨b,o+j,none⟩=some v):
 (Instr.loadAt t (.pointer (some ⟨b,o,none⟩))).run P w=.ok (.agg vs.toArray) w:=by
 have AF:tk P t≠.other:=by intro h;rw[h]at AE;cases AE
 have O:=run_loadCells_list (P:=P) w ⟨b,o,none⟩ vs (λj v h=>by rw[eN];exact H j v h);simp[Instr.loadAt,Instr.sureAddr,loadVar,Sem.run_bind,pX AF,AE,run_sizeOf AT,O]
theorem ja{P:Program}(g o:Nat)(t:TypeId)(A2:Nat×Nat):∀(vs:List Value)(i:Nat)(cur:Array Value)(w:World),w.heap[g]?=some (.cells cur t A2)->(A2=(0,0)\/cur.size<=A2.1)->o+i+vs.length<=cur.size->(∀v∈vs,v.oneCell'=true)->
 (storeCells ⟨g,o,none⟩ vs i).run P w=.ok () (w.setRow g (cur.toList.take (o+i)++vs++cur.toList.drop (o+i+vs.length)).toArray)
 |[],i,cur,w,T,_,_,_=>by
  simp only[storeCells,afl,ae8,afA,akA,als];rw[setRow_self w g cur t A2 T];rfl
 |v::rest,i,cur,w,T,AO,O,E=>by
  have hi:o+i<cur.size:=by simp at O;omega
  have Ag:(⟨g,o,none⟩:Addr).add i=⟨g,o+i,none⟩:=by unfold Addr.add;split<;>simp_all
  have Ah:w.cell? ⟨g,o+i,none⟩=some cur[o+i]:=by simp[World.cell?,T,hi]
  have Ai:w.frozen? ⟨g,o+i,none⟩=false:=by
   obtain⟨lo,AB⟩:=A2;simp only[World.frozen?,T,Bool.and_eq_false_iff,ac7];rcases AO with h|h
   ·cases h;omega
   ·simp only at h;omega
  have Aj:(store ((⟨g,o,none⟩:Addr).add i) v).run P w=.ok () (w.setRow g (cur.setIfInBounds (o+i) v)):=by
   rw[Ag,run_store P w _ v _ (E v (by simp)),Ah];simp[Ai,setCell_eq_setRow w g (o+i) cur t A2 v T]
  have ih:=ja (P:=P) g o t A2 rest (i+1) (cur.setIfInBounds (o+i) v) (w.setRow g (cur.setIfInBounds (o+i) v)) (setRow_heap w g cur _ t _ T) (by simpa using AO) (by simp at O⊢;omega) (λx M=>E x (by simp[M]));simp only[storeCells,Sem.run_bind,Aj,Result.andThen_ok,ih,setRow_setRow];congr 3;have e:=list_seg_step cur.toList (o+i) v rest (by simp at O⊢;omega);simpa [Array.toList_setIfInBounds,aci]using e
theorem JV{P:Program}{t:TypeId}{w:World}{b o:Nat}{arr:Array Value}{elem:TypeId}{v:Value}(AT:eM P t=some v.cells.size)
 (T:en w b arr elem) (O:o+v.cells.size<=arr.size) (E:∀x∈v.cells,cd x=true):
 (Instr.storeAt t (.pointer (some ⟨b,o,none⟩)) v).run P w=.ok () (w.setRow b (arr.toList.take o++v.cells.toList++arr.toList.drop (o+v.cells.size)).toArray):=by
 obtain⟨A2,T,AO⟩:=T;have h:=ja (P:=P) b o elem A2 v.cells.toList 0 arr w T AO (by simpa using O) (λx M=>nq (E x (by simpa using M)));simp only[afA,abZ]at h;simp[Instr.storeAt,Instr.sureAddr,storeVar,Sem.run_bind,run_sizeOf AT,h]
def D.cells:D->List D
 | .agg cs=>cs
 |x=>[x]
def D.at(xs:List D)(i:Nat):D:=xs[i]?.getD (.bool false)
def D.cell(x:D)(j:Nat):D:=x.cells[j]?.getD (.bool false)
def toD1:AV->Option D
 | .d x=>some x
 | .lit (.slice none 0 0)=>some (.list [])
 | .nn=>some (.list [])
 |_=>none
def toDs:List AV->Option (List D)
 |[]=>some []
 |x::r=>match x,toDs r with
  | .d y,some AG=>some (y::AG)
  |_,_=>none
def toDsN:List AV->Option (List D)
 |[]=>some []
 |x::r=>match toD1 x,toDsN r with
  |some y,some AG=>some (y::AG)
  |_,_=>none
def zY(cs:List AV):AV:=match toDs cs with|some U=>.d (.agg U)|none=>.agg cs
def AV.norm:AV->AV
 | .agg cs=>match toDsN cs with|some U=>.d (.agg U)|none=>.agg cs
 | .lit (.slice none 0 0)=>.d (.list [])
 | .nn=>.d (.list [])
 |x=>x
def AV.cells:AV->List AV
 | .agg cs=>cs
 | .d (.agg U)=>U.map .d
 |x=>[x]
theorem D.fj(x:D):x.cells.length=x.size:=by cases x<;>rfl
theorem On{w:World}{F:Nat->Prop}{x:D}{v:Value}(q:x.flat=true)(h:aJ w F x v)(M:x.cells=[x])(J:v.cells=#[v]):
 v.cells.toList.length=x.cells.length/\(∀u∈v.cells,cd u=true)/\∀(i:Nat)(c:D)(u:Value),x.cells[i]?=some c->v.cells[i]?=some u->aJ w F c u/\c.flat=true:=by
 rw[M,J];refine⟨rfl,λu hu=>by simp at hu;subst hu;exact h.one q,λi c u E A=>?_⟩;cases i with
 |zero=>simp at E A;subst E;subst A;exact⟨h,q⟩
 |succ i=>simp at E
theorem aJ.cells{w F x v}(h:aJ w F x v):v.cells.toList.length=x.cells.length/\(∀u∈v.cells,cd u=true)/\∀(i:Nat)(c:D)(u:Value),x.cells[i]?=some c->v.cells[i]?=some u->aJ w F c u/\c.flat=true:=by
 cases AC:x with
 |agg cs=>
  subst AC;cases h with
  |agg cs a O q H=>
   refine⟨by simp[D.cells,Value.cells,O],?_,λi c u E A=>⟨H i c u E A,q c (aao E)⟩⟩;intro u hu;have hu:u∈a:=hu;obtain⟨i,hi,rfl⟩:=Array.mem_iff_getElem.1 hu;have AB:i<cs.length:=by rw[O];exact hi
   exact (H i cs[i] a[i] (by simp[AB]) (by simp[hi])).one (q _ (acN AB))
 |_=>subst AC;exact On rfl h rfl (dC (h.one rfl))
theorem aJ.nz{w F}{cs:List D}{vs:List Value}(O:cs.length=vs.length)(E:∀v∈vs,cd v=true)
 (H:∀(i:Nat) c v,cs[i]?=some c->vs[i]?=some v->aJ w F c v):aJ w F (.agg cs) (.agg vs.toArray):=by
 refine .agg cs vs.toArray (by simpa using O) ?_ (λi d v h AH=>H i d v h (by simpa using AH));intro d AC;obtain⟨i,hi,rfl⟩:=alr.1 AC;have AB:i<vs.length:=by omega
 have A0:=H i cs[i] vs[i] (by simp[hi]) (by simp[AB]);have A:=E vs[i] (acN AB);revert A0 A
 generalize vs[i]=v;generalize cs[i]=c;intro A0 A;cases A0<;>simp_all [D.flat,cd]
theorem toDs_rel{φ w F}:∀{cs:List AV}{U:List D}{vs:List Value},toDs cs=some U->(∀(i:Nat) c v,cs[i]?=some c->vs[i]?=some v->az φ w F c v)->
 cs.length=U.length/\∀(i:Nat) d v,U[i]?=some d->vs[i]?=some v->aJ w F d v
 |[],U,vs,h,_=>by simp[toDs]at h;subst h;simp
 |x::r,U,vs,h,H=>by
  simp only[toDs]at h;split at h<;>simp at h;rename_i y AG A7;subst h;cases vs with
  |nil=>
   have ih:=toDs_rel (φ:=φ) (w:=w) (F:=F) (vs:=[]) A7 (λi c v _ A=>by simp at A);exact⟨by simp[ih.1],λi d v _ A=>by simp at A⟩
  |cons v0 vs=>
   have ih:=toDs_rel (vs:=vs) A7 (λi c v E A=>H (i+1) c v (by simpa using E) (by simpa using A));refine⟨by simp[ih.1],λi d v E A=>?_⟩;cases i with
   |zero=>
    simp at E A;subst E;subst A;have:=H 0 (.d y) v0 (by simp) (by simp);cases this with|d _ _ h=>exact h
   |succ i=>exact ih.2 i d v (by simpa using E) (by simpa using A)
theorem toD1_rel{φ w F x d v}(h:toD1 x=some d)(M:az φ w F x v):aJ w F d v:=by
 unfold toD1 at h;split at h<;>simp at h
 ·subst h;cases M with|d _ _ h=>exact h
 ·subst h;cases M;exact .nil none 0 λ_=>rfl
 ·subst h;cases M;exact .nil _ _ (by simp)
theorem toDsN_rel{φ w F}:∀{cs:List AV}{U:List D}{vs:List Value},toDsN cs=some U->(∀(i:Nat) c v,cs[i]?=some c->vs[i]?=some v->az φ w F c v)->
 cs.length=U.length/\∀(i:Nat) d v,U[i]?=some d->vs[i]?=some v->aJ w F d v
 |[],U,vs,h,_=>by simp[toDsN]at h;subst h;simp
 |x::r,U,vs,h,H=>by
  simp only[toDsN]at h;split at h<;>simp at h;rename_i y AG M A7;subst h;cases vs with
  |nil=>
   have ih:=toDsN_rel (φ:=φ) (w:=w) (F:=F) (vs:=[]) A7 (λi c v _ A=>by simp at A);exact⟨by simp[ih.1],λi d v _ A=>by simp at A⟩
  |cons v0 vs=>
   have ih:=toDsN_rel (vs:=vs) A7 (λi c v E A=>H (i+1) c v (by simpa using E) (by simpa using A));refine⟨by simp[ih.1],λi d v E A=>?_⟩;cases i with
   |zero=>
    simp at E A;subst E;subst A;exact toD1_rel M (H 0 x v0 (by simp) (by simp))
   |succ i=>exact ih.2 i d v (by simpa using E) (by simpa using A)
theorem yb{φ w F}{cs:List AV}{vs:List Value}(O:cs.length=vs.length)(E:∀v∈vs,cd v=true)
 (H:∀(i:Nat) c v,cs[i]?=some c->vs[i]?=some v->az φ w F c v):az φ w F (zY cs) (.agg vs.toArray):=by
 unfold zY;split
 ·rename_i U AU;have:=toDs_rel AU H;exact .d _ _ (.nz (by omega) E this.2)
 ·exact .agg cs vs.toArray (by simpa using O) (λv J=>E v (by simpa using J)) (λi c v h AH=>H i c v h (by simpa using AH))
theorem az.norm{φ w F x v}(h:az φ w F x v):az φ w F x.norm v:=by
 unfold AV.norm;split
 ·rename_i cs;split
  ·rename_i U AU;cases h with
   |agg _ a O E H=>
    have:=toDsN_rel (vs:=a.toList) AU (λi c v h AH=>H i c v h (by simpa using AH));have A:=aJ.nz (w:=w) (F:=F) (cs:=U) (vs:=a.toList) (by simp;omega) (λv J=>E v (by simpa using J)) this.2;rw[als]at A;exact .d _ _ A
  ·exact h
 ·cases h;exact .d _ _ (.nil none 0 λ_=>rfl)
 ·cases h;exact .d _ _ (.nil _ _ (by simp))
 ·exact h
theorem az.cells{φ w F x v}(h:az φ w F x v)(E:∀u∈v.cells,cd u=true)(O:v.cells.size=x.cells.length):
 ∀(i:Nat) c u,x.cells[i]?=some c->v.cells[i]?=some u->az φ w F c u:=by
 cases h with
 |agg cs a O E H=>exact λi c u I hu=>H i c u I hu
 |d x v h=>
  intro i c u I hu;have:=h.cells;cases x with
  |agg cs=>
   simp only[AV.cells,acj,aak]at I;obtain⟨y,A7,rfl⟩:=I;exact .d _ _ (this.2.2 i y u A7 hu).1
  |_=>
   simp only[AV.cells]at I;cases i with
   |zero=>simp at I;subst I;exact .d _ _ (this.2.2 0 _ u rfl hu).1
   |succ i=>simp at I
 |aY v=>
  intro i c u I hu;cases i with
  |zero=>simp[AV.cells]at I;subst I;exact .aY _
  |succ i=>simp[AV.cells]at I
 |ptr k ak off v L V J h A=>
  intro i c u I hu;rw[dC A]at hu;cases i with
  |zero=>simp[AV.cells]at I hu;subst I;subst hu;exact .ptr k ak off v L V J h A
  |succ i=>simp[AV.cells]at I
 |vec k ak off len v L V J h A=>
  intro i c u I hu;rw[dC A]at hu;cases i with
  |zero=>simp[AV.cells]at I hu;subst I;subst hu;exact .vec k ak off len v L V J h A
  |succ i=>simp[AV.cells]at I
 |cn k ak p j v L V J h A=>
  intro i c u I hu;rw[dC A]at hu;cases i with
  |zero=>simp[AV.cells]at I hu;subst I;subst hu;exact .cn k ak p j v L V J h A
  |succ i=>simp[AV.cells]at I
 |dq x j b off A' AP AQ M H=>
  intro i c u I hu;cases i with
  |zero=>simp[AV.cells,Value.cells]at I hu;subst I;subst hu;exact .dq x j b off A' AP AQ M H
  |succ i=>simp[AV.cells]at I
 |fn f cap a q AW H=>
  intro i c u I hu;cases i with
  |zero=>simp[AV.cells,Value.cells]at I hu;subst I;subst hu;exact .fn f cap a q AW H
  |succ i=>simp[AV.cells]at I
 |qW f cap a AW H=>
  intro i c u I hu;cases i with
  |zero=>simp[AV.cells,Value.cells]at I hu;subst I;subst hu;exact .qW f cap a AW H
  |succ i=>simp[AV.cells]at I
 |bM vs a O H=>
  have:=E (.tuple a) (by simp[Value.cells]);simp[cd]at this
 |fR t x v h=>
  intro i c u I hu;cases i with
  |zero=>simp[AV.cells,Value.cells]at I hu;subst I;subst hu;exact .fR t x v h
  |succ i=>simp[AV.cells]at I
 |lit v A=>
  intro i c u I hu;rw[dC A]at hu;cases i with
  |zero=>simp[AV.cells]at I hu;subst I;subst hu;exact .lit _ A
  |succ i=>simp[AV.cells]at I
 |nn a cap=>
  intro i c u I hu;cases i with
  |zero=>simp[AV.cells,Value.cells]at I hu;subst I;subst hu;exact .nn a cap
  |succ i=>simp[AV.cells]at I
 |err t v=>
  intro i c u I hu;cases i with
  |zero=>simp[AV.cells,Value.cells]at I hu;subst I;subst hu;exact .err t v
  |succ i=>simp[AV.cells]at I
def l4:Value->AV
 | .int k n=>.d (.int k n)
 | .bool b=>.d (.bool b)
 | .string s=>.d (.str s.data.toList)
 | .agg _=>.aY
 | .tuple _=>.aY
 |v=>.lit v
theorem AI(φ w F v):az φ w F (l4 v) v:=by
 cases v<;>first|exact .d _ _ (.int _ _)|exact .d _ _ (.bool _)|exact .d _ _ (.str _ _ rfl)|exact .aY _|exact .lit _ rfl
def EU:List (Nat×D)->Nat->Option D
 |[],_=>none
 |(g,d)::r,k=>if g=k then some d else EU r k
theorem Kv:∀{l:List (Nat×D)}{g d},EU l g=some d->(g,d)∈l
 |[],g,d,h=>by simp[EU]at h
 |(Ao,Ap)::r,g,d,h=>by
  simp only[EU]at h;split at h
  ·rename_i T;subst T;cases h;simp
  ·have:=Kv h;simp[this]
def St.aq(S:St):Operand->Bool×AV
 | .tmp t=>(Env.lk S.env t).getD (true,.aY)
 | .const v=>(true,l4 v)
 | .global g=>match EU S.gl g with
  |some d=>(true,.dq d 0)
  |none=>(true,.lit (.pointer (some ⟨g,0,none⟩)))
 | .func f=>(decide (f<qV),.fn f [])
theorem Rel.aq{φ G S a w}(h:Rel φ G S a w)(x:Operand)(M:(S.aq x).1=true):az φ w (Fo G φ S.mem) (S.aq x).2 (a.eval x):=by
 cases x with
 |tmp t=>
  simp only[St.aq]at M⊢;cases O:Env.lk S.env t with
  |none=>exact .aY _
  |some y=>
   obtain⟨g,x⟩:=y;rw[O]at M;simp only[acV]at M⊢;subst M;exact h.env t x O
 |const v=>exact AI ..
 |global g=>
  simp only[St.aq]at M⊢;split
  ·rename_i d AC;obtain⟨⟨E,_⟩,A,A',A0,Ak⟩:=h.jR _ (Kv AC);have e:a.eval (.global g)=.pointer (some ⟨g,0+0,none⟩):=rfl;rw[e];exact .dq d 0 g 0 A' E A A0 (λi c hi=>by simpa using Ak i c hi)
  ·exact .lit _ rfl
 |func f=>exact .fn f [] #[] (by simpa [St.aq]using M) rfl (by simp)
inductive cP where
 |no
 |val (c:Bool) (x:AV)
 |cG (c:Bool) (x:AV) (e:cg)
def Cj(P:Program)(o:Oper)(a:Act)(w:World)(v:Value)(w':World):Prop:=
 (execOp a.eval o).run P w=.ok (.value v) w'\/((execOp a.eval o).run P w=.ok .skip w'/\v=undef)
def aD(P:Program)(S:St)(o:Oper):cP->Prop
 | .no=>True
 | .val c x=>c=true->∀φ G a w,Rel φ G S a w->∃v w',Cj P o a w v w'/\az φ w' (Fo G φ S.mem) x v/\
  (∀b,b<w.heap.size->w'.heap[b]?=w.heap[b]?)/\w.heap.size<=w'.heap.size/\w'.os=w.os/\w'.tape=w.tape/\w'.output=w.output
 | .cG c x e=>c=true->∀φ G a w,Rel φ G S a w->∃v w' φ',Cj P o a w v w'/\az φ' w' (Fo G φ' (Mem.set S.mem e)) x v/\
  a8 φ' G (Mem.set S.mem e) w'/\aP φ S.mem w φ' (Mem.set S.mem e) w'/\∀k,k≠e.key->φ' k=φ k
theorem aD.pure{P S o x}{c:Prop}[Decidable c](h:c->∀φ G a w,Rel φ G S a w->∃v,(execOp a.eval o).run P w=.ok (.value v) w/\az φ w (Fo G φ S.mem) x v):aD P S o (.val (decide c) x):=by
 intro H φ G a w N;obtain⟨v,E,A⟩:=h (acE H) φ G a w N;exact⟨v,w,.inl E,A,λ_ _=>rfl,aai _,rfl,rfl,rfl⟩
theorem aD.qI{P S o x e}{c:Prop}[Decidable c](h:c->∀φ G a w,Rel φ G S a w->∃v w' φ',Cj P o a w v w'/\az φ' w' (Fo G φ' (Mem.set S.mem e)) x v/\
 a8 φ' G (Mem.set S.mem e) w'/\aP φ S.mem w φ' (Mem.set S.mem e) w'/\∀k,k≠e.key->φ' k=φ k):aD P S o (.cG (decide c) x e):=λH=>h (acE H)
theorem aD.alX{P S o x}{c:Prop}[Decidable c](h:c->∀φ G a w,Rel φ G S a w->∃v w',Cj P o a w v w'/\az φ w' (Fo G φ S.mem) x v/\
 (∀b,b<w.heap.size->w'.heap[b]?=w.heap[b]?)/\w.heap.size<=w'.heap.size/\w'.os=w.os/\w'.tape=w.tape/\w'.output=w.output):aD P S o (.val (decide c) x):=λH=>h (acE H)
theorem aD.pH{P S o x}{c:Bool}(h:c=true->∀φ G a w,Rel φ G S a w->∃v,(execOp a.eval o).run P w=.ok (.value v) w/\az φ w (Fo G φ S.mem) x v):aD P S o (.val c x):=by
 intro H φ G a w N;obtain⟨v,E,A⟩:=h H φ G a w N;exact⟨v,w,.inl E,A,λ_ _=>rfl,aai _,rfl,rfl,rfl⟩
def jS(P:Program)(S:St)(o:Oper):cP->Prop
 | .no=>True
 | .val c x=>c=true->∀φ G a w,Rel φ G S a w->∃v,(execOp a.eval o).run P w=.ok (.value v) w/\az φ w (Fo G φ S.mem) x v
 | .cG _ _ _=>False
theorem jS.of{P S o x}{c:Prop}[Decidable c](h:c->∀φ G a w,Rel φ G S a w->∃v,(execOp a.eval o).run P w=.ok (.value v) w/\az φ w (Fo G φ S.mem) x v):jS P S o (.val (decide c) x):=λH=>h (acE H)
theorem jS.res{P S o r}(h:jS P S o r):aD P S o r:=by
 cases r with
 |no=>trivial
 |val c x=>
  intro H φ G a w N;obtain⟨v,E,A⟩:=h H φ G a w N;exact⟨v,w,.inl E,A,λ_ _=>rfl,aai _,rfl,rfl,rfl⟩
 |cG c x e=>exact h.elim
def lj(P:Program)(m:Mem)(t:TypeId)(p:AV):cP:=
 match p with
 | .ptr k ak off=>match Mem.get m k with
  |some ⟨_,v,.box cs⟩=>match (tk P t).agg with
   |true=>match eM P t with
    |some n=>.val (v=ak/\off+n<=cs.length) (zY ((cs.drop off).take n))
    |none=>.no
   |false=>.val (v=ak/\tk P t≠.other/\off<cs.length) (cs[off]?.getD .aY)
  |_=>.no
 | .cn k ak i j=>match Mem.get m k with
  |some ⟨_,v,.vec sz ag⟩=>match (tk P t).agg with
   |true=>.val (v=ak/\i<ag.length/\eM P t=some sz/\j=0/\(D.at ag i).flat=false) (.d (D.at ag i))
   |false=>.val (v=ak/\tk P t≠.other/\i<ag.length/\j<sz) (.d (D.cell (D.at ag i) j))
  |some ⟨_,v,.vv ag (some y)⟩=>match (tk P t).agg with
   |true=>.no
   |false=>.val (v=ak/\tk P t≠.other/\i=ag.length/\j=0) y
  |_=>.no
 | .dq x j=>match (tk P t).agg with
  |true=>match j with
   |0=>.val (eM P t=some x.size/\x.flat=false) (.d x)
   |j=>match eM P t with
    |some n=>.val (j+n<=x.size) (.d (.agg ((x.cells.drop j).take n)))
    |none=>.no
  |false=>.val (tk P t≠.other/\j<x.size) (.d (x.cell j))
 |_=>.no
theorem a8.get{φ G m w}(h:a8 φ G m w){k e}(T:Mem.get m k=some e):e∈m/\e.key=k/\∃L,φ k=some L/\L.ak=e.ak/\dD φ w (Fo G φ m) L e.cont:=by
 obtain⟨hm,A8⟩:=Mem.get_mem T;obtain⟨L,E,A,A0⟩:=h.fC e hm;rw[A8]at E;exact⟨hm,A8,L,E,A,A0⟩
theorem az.pY{φ w F k ak off v L}(h:az φ w F (.ptr k ak off) v)(V:φ k=some L)(J:L.ak=ak):v=.pointer (some ⟨L.cU,off,none⟩):=by
 cases h with|ptr _ _ _ _ L' AJ _ h _=>rw[V]at AJ;cases AJ;exact h J.symm
theorem az.jT{φ w F k ak i j v L}(h:az φ w F (.cn k ak i j) v)(V:φ k=some L)(J:L.ak=ak):v=.pointer (some ⟨L.cU,L.base+i*L.sz+j,none⟩):=by
 cases h with|cn _ _ _ _ _ L' AJ _ h _=>rw[V]at AJ;cases AJ;exact h J.symm
theorem EV{w:World}{b:Nat}{arr:Array Value}{e:TypeId}{fr}(h:w.heap[b]?=some (.cells arr e fr))(o:Nat):w.cell? ⟨b,o,none⟩=arr[o]?:=by
 simp[World.cell?,h]
theorem fT{w:World}{b:Nat}{arr:Array Value}{e:TypeId}(h:en w b arr e)(o:Nat):w.cell? ⟨b,o,none⟩=arr[o]?:=by
 obtain⟨fr,h,_⟩:=h;exact EV h o
theorem iY{xs:List D}{i:Nat}(h:i<xs.length):xs[i]?=some (D.at xs i):=by simp[D.at,h]
theorem uj{w F x v}(h:aJ w F x v)(q:x.flat=false):∃arr,v=.agg arr:=by
 cases h<;>simp_all [D.flat]
theorem Kw(P:Program)(S:St)(o:Oper)(t:TypeId)(x:Operand)(AF:o.op=.load t x)(M:(S.aq x).1=true):jS P S o (lj P S.mem t (S.aq x).2):=by
 have A5:∀(a:Act)(w:World)(v:Value),(Instr.loadAt t (a.eval x)).run P w=.ok v w->(execOp a.eval o).run P w=.ok (.value v) w:=by
  intro a w v h;simp[execOp,AF,h]
 unfold lj;split
 ·rename_i k ak off A1;split
  ·rename_i key v cs T;split
   ·rename_i Y;split
    ·rename_i n AX;refine jS.of ?_;rintro ⟨rfl,hle⟩ φ G a w N;have J:=N.aq x M;rw[A1]at J;obtain⟨hm,A8,L,V,A3,_,arr,elem,hh,AR,E,A4⟩:=N.mem.get T;have e:=J.pY V A3;have AK:((arr.toList.drop off).take n).length=n:=by simp;omega
     refine⟨.agg ((arr.toList.drop off).take n).toArray,A5 a w _ ?_,?_⟩
     ·rw[e];refine tt Y (by rw[AK];exact AX) (λj v Z=>?_);rw[fT hh];rw[aaz]at Z;split at Z
      ·simpa using Z
      ·cases Z
     ·refine yb (by rw[AK];simp;omega) (λv J=>E v ?_) (λi c v H J=>?_)
      ·have:=acf J;simpa using ach this
      ·rw[aaz]at H J;split at H
       ·rename_i hi;simp only[hi,adI]at J;exact A4 (off+i) c v (by simpa using H) (by simpa using J)
       ·cases H
    ·trivial
   ·rename_i Y;refine jS.of ?_;rintro ⟨rfl,A9,AA⟩ φ G a w N;have J:=N.aq x M;rw[A1]at J;obtain⟨hm,A8,L,V,A3,_,arr,elem,hh,AR,E,A4⟩:=N.mem.get T;have e:=J.pY V A3;have Ae:off<arr.size:=by omega
    refine⟨arr[off],A5 a w _ ?_,A4 off _ _ ?_ (by simp[Ae])⟩
    ·rw[e];exact tr Y A9 (by rw[fT hh];simp[Ae])
    ·simp[AA]
  ·trivial
 ·rename_i k ak i j A1;split
  ·rename_i key v sz ag T;split
   ·rename_i Y;refine jS.of ?_;rintro ⟨rfl,AA,AY,rfl,q⟩ φ G a w N;have J:=N.aq x M;rw[A1]at J;obtain⟨hm,A8,L,V,A3,AZ,A_,Aa,AL⟩:=N.mem.get T;have e:=J.jT V A3;obtain⟨arr,elem,hh,AR,E,A4⟩:=AL (by omega);obtain⟨u,hu,Ab⟩:=A4 i _ (iY AA);obtain⟨AD,rfl⟩:=uj hu q;refine⟨.agg AD,A5 a w _ ?_,.d _ _ hu⟩;rw[e];have AS:AD.toList.length=sz:=by
     have A0:=hu.size;rw[Aa _ (aao (iY AA)),AZ]at A0;simpa [Value.cells]using A0
    have:=tt (P:=P) (t:=t) (w:=w) (b:=L.cU) (o:=L.base+i*L.sz+0) (vs:=AD.toList) Y (by rw[AS];exact AY) (λj v Z=>by
     rw[fT hh];exact Ab j v (by simpa [Value.cells]using Z))
    simpa using this
   ·rename_i Y;refine jS.of ?_;rintro ⟨rfl,A9,AA,Z⟩ φ G a w N;have J:=N.aq x M;rw[A1]at J;obtain⟨hm,A8,L,V,A3,AZ,A_,Aa,AL⟩:=N.mem.get T;have e:=J.jT V A3;obtain⟨arr,elem,hh,AR,E,A4⟩:=AL (by omega);obtain⟨u,hu,Ab⟩:=A4 i _ (iY AA);have AS:(D.at ag i).size=sz:=by rw[Aa _ (aao (iY AA)),AZ]
    have AM:j<u.cells.size:=by rw[hu.size,AS];exact Z
    have Ac:j<(D.at ag i).cells.length:=by rw[D.fj,AS];exact Z
    refine⟨u.cells[j],A5 a w _ ?_,.d _ _ (hu.cells.2.2 j _ _ (by simp[D.cell,Ac]) (by simp[AM])).1⟩;rw[e];exact tr Y A9 (by rw[fT hh];exact Ab j _ (by simp[AM]))
  ·rename_i key v ag y T;split
   ·trivial
   ·rename_i Y;refine jS.of ?_;rintro ⟨rfl,A9,rfl,rfl⟩ φ G a w N;have J:=N.aq x M;rw[A1]at J;obtain⟨hm,A8,L,V,A3,⟨Al,A_,_⟩,_,_,AL⟩:=N.mem.get T;have e:=J.jT V A3;simp only[Option.toList_some,acY]at A_;obtain⟨arr,elem,hh,AR,E,_,A4⟩:=AL (by omega);obtain⟨u,hu,An⟩:=A4 y rfl;refine⟨u,A5 a w _ ?_,An⟩;rw[e];exact tr Y A9 (by rw[fT hh,Al,akv,afA];exact hu)
  ·trivial
 ·rename_i d j A1;split
  ·rename_i Y;split
   ·refine jS.of ?_;rintro ⟨AY,q⟩ φ G a w N;have J:=N.aq x M;rw[A1]at J;generalize AN:a.eval x=av at J;cases J with
    |dq _ _ b off A' AP AQ A6 H=>
     obtain⟨AD,rfl⟩:=uj A6 q;refine⟨.agg AD,A5 a w _ ?_,.d _ _ A6⟩;rw[AN];exact tt (vs:=AD.toList) Y (by rw[AY];have:=A6.size;simp[Value.cells]at this;simp[this]) (λj v Z=>H j v (by simpa [Value.cells]using Z))
   ·split
    ·rename_i n AX;refine jS.of ?_;intro hle φ G a w N;have J:=N.aq x M;rw[A1]at J;generalize AN:a.eval x=av at J;cases J with
     |dq _ _ b off A' AP AQ A6 H=>
      have Ad:=A6.cells;have O:A'.cells.toList.length=d.size:=by rw[Ad.1,D.fj]
      have AK:((A'.cells.toList.drop j).take n).length=n:=by simp at O⊢;omega
      refine⟨.agg ((A'.cells.toList.drop j).take n).toArray,A5 a w _ ?_,.d _ _ (.nz ?_ ?_ ?_)⟩
      ·rw[AN];refine tt Y (by rw[AK];exact AX) (λi v hi=>?_);rw[aaz]at hi;split at hi
       ·rw[show off+j+i=off+(j+i) by omega];exact H (j+i) v (by simpa using hi)
       ·cases hi
      ·rw[AK];simp[D.fj];omega
      ·intro v J;exact Ad.2.1 v (by simpa using ach (acf J))
      ·intro i c v E A;rw[aaz]at E A;split at E
       ·rename_i hi;simp only[hi,adI]at A;exact (Ad.2.2 (j+i) c v (by simpa using E) (by simpa using A)).1
       ·cases E
    ·trivial
  ·rename_i Y;refine jS.of ?_;rintro ⟨A9,Z⟩ φ G a w N;have J:=N.aq x M;rw[A1]at J;generalize AN:a.eval x=av at J;cases J with
   |dq _ _ b off A' AP AQ A6 H=>
    have AM:j<A'.cells.size:=by rw[A6.size];exact Z
    have Ac:j<d.cells.length:=by rw[D.fj];exact Z
    refine⟨A'.cells[j],A5 a w _ ?_,.d _ _ (A6.cells.2.2 j _ _ (by simp[D.cell,Ac]) (by simp[AM])).1⟩;rw[AN];exact tr Y A9 (H j _ (by simp[AM]))
 ·trivial
def AV.kr:AV->Bool
 | .aY=>false
 | .bM _=>false
 |_=>true
theorem az.kr{φ w F x v}(h:az φ w F x v)(A3:x.kr=true):v.cells.size=x.cells.length/\∀u∈v.cells,cd u=true:=by
 have one:∀{v:Value}{x:AV},cd v=true->x.cells.length=1->v.cells.size=x.cells.length/\∀u∈v.cells,cd u=true:=by
  intro v x A A2;rw[dC A,A2];exact⟨rfl,λu hu=>by simp at hu;subst hu;exact A⟩
 cases h with
 |aY=>simp[AV.kr]at A3
 |bM=>simp[AV.kr]at A3
 |d x v h=>
  have V:=h.cells;refine⟨?_,V.2.1⟩;have:=V.1;cases x<;>simp_all [AV.cells,D.cells]
 |agg cs a A2 A V=>exact⟨by simp[Value.cells,AV.cells,A2],A⟩
 |ptr _ _ _ _ _ _ _ _ A=>exact one A rfl
 |vec _ _ _ _ _ _ _ _ _ A=>exact one A rfl
 |cn _ _ _ _ _ _ _ _ _ A=>exact one A rfl
 |dq=>exact one rfl rfl
 |fn=>exact one rfl rfl
 |qW=>exact one rfl rfl
 |fR=>exact one rfl rfl
 |lit _ A=>exact one A rfl
 |nn=>exact one rfl rfl
 |err=>exact one rfl rfl
def bf{α:Type}(cs:List α)(off:Nat)(H:List α):List α:=
 match H with
 |[y]=>cs.set off y
 |H=>cs.take off++H++cs.drop (off+H.length)
theorem cH{α:Type}(cs:List α)(off:Nat)(H:List α)(h:off+H.length<=cs.length):bf cs off H=cs.take off++H++cs.drop (off+H.length):=by
 unfold bf;split
 ·rename_i y;simp at h;rw[List.set_eq_take_append_cons_drop,aap (by omega)];simp
 ·rfl
theorem bI{α:Type}(cs:List α)(off:Nat)(H:List α)(h:off+H.length<=cs.length):(bf cs off H).length=cs.length:=by
 rw[cH cs off H h];simp;omega
theorem fU{α:Type}(cs:List α)(off:Nat)(H:List α)(h:off+H.length<=cs.length)(i:Nat):
 (bf cs off H)[i]?=if i<off then cs[i]? else if i<off+H.length then H[i-off]? else cs[i]?:=by
 rw[cH cs off H h];by_cases A:i<off
 ·rw[aap A,afI,aaq (by simp;omega),aaz,aap A]
 ·rw[aah A,afI,aaF (by simp;omega)];simp only[afn,agG (show off<=cs.length by omega)];by_cases Y:i<off+H.length
  ·rw[aap Y,aaq (by omega)]
  ·rw[aah Y,aaF (by omega),acq];congr 1;omega
theorem r7{α β:Type}{R:α->β->Prop}{cs H:List α}{vs us:List β}{off:Nat}(A2:cs.length=vs.length)(BA:H.length=us.length)(h:off+H.length<=cs.length)
 (V:∀(i:Nat) c v,cs[i]?=some c->vs[i]?=some v->R c v) (A8:∀(i:Nat) c v,H[i]?=some c->us[i]?=some v->R c v):
 ∀(i:Nat) c v,(bf cs off H)[i]?=some c->(bf vs off us)[i]?=some v->R c v:=by
 intro i c v;rw[fU cs off H h,fU vs off us (by omega),<-BA];split
 ·exact V i c v
 ·split
  ·exact A8 _ c v
  ·exact V i c v
theorem Bp{φ G m w}(h:a8 φ G m w):∀b,Fo G φ m b->b<w.heap.size:=λb M=>M.elim (h.bound b) (λA5=>h.Cg A5)
theorem m6(w:World)(g k:Nat)(cs:Array Value)(h:k≠g):(w.setRow g cs).heap[k]?=w.heap[k]?:=by
 simp only[World.setRow,agE];rw[aah (λe=>h e.symm)]
theorem a8.GN{φ G m w}(h:a8 φ G m w){e:cg}(he:e∈m){L:Loc}(T:φ e.key=some L)(Z:L.ak=e.ak){b0:Nat}(A5:e.cont.cD L b0)(N:Array Value)
 (L':Loc) (U:e.ak<=L'.ak) (BB:L'.ak=L.ak->L'={L with cC:=L'.cC}) (E:ay) (AF:∀b,E.cD L' b->e.cont.cD L b)
 (V:∀φ':bG,φ.le φ'->(∀x v,az φ w (Fo G φ m) x v->az φ' (w.setRow b0 N) (Fo G φ' (Mem.set m ⟨e.key,L'.ak,E⟩)) x v)->
  (∀x v,aJ w (Fo G φ m) x v->aJ (w.setRow b0 N) (Fo G φ' (Mem.set m ⟨e.key,L'.ak,E⟩)) x v)->
  dD φ' (w.setRow b0 N) (Fo G φ' (Mem.set m ⟨e.key,L'.ak,E⟩)) L' E):
 ∃φ',a8 φ' G (Mem.set m ⟨e.key,L'.ak,E⟩) (w.setRow b0 N)/\aP φ m w φ' (Mem.set m ⟨e.key,L'.ak,E⟩) (w.setRow b0 N)/\φ' e.key=some L'/\∀k,k≠e.key->φ' k=φ k:=by
 have BC:gS φ m b0:=⟨e,he,L,T,A5⟩;refine h.cG (e':=⟨e.key,L'.ak,E⟩) he T rfl (L':=L') (by rw[Z];exact U) BB rfl
  (λb M A9=>m6 w b0 b N (λheq=>A9 (heq▸A5))) (by simp) (λb M=>.inl (AF b M)) rfl rfl rfl ?_
 intro φ' AW hle;have AX:∀b,b<w.heap.size->Fo G φ' (Mem.set m ⟨e.key,L'.ak,E⟩) b->Fo G φ m b:=by
  rintro b BP (Ap|⟨x,I,Aq,AG,AY⟩)
  ·exact .inl Ap
  ·right;rcases (Mem.mem_set h.nodup).1 I with ⟨rfl,_⟩|⟨Ar,AJ⟩
   ·subst AW;simp at AG;subst AG;exact⟨e,he,L,T,AF b AY⟩
   ·subst AW;simp at AJ;simp[AJ]at AG;exact⟨x,Ar,Aq,AG,AY⟩
 have AA:∀b,b<w.heap.size->¬Fo G φ m b->(w.setRow b0 N).heap[b]?=w.heap[b]?:=
  λb M A9=>m6 w b0 b N (λheq=>A9 (.inr (heq▸BC)))
 exact V φ' hle (λx v I=>I.mono hle AA (by simp) AX) (λx v I=>I.mono AA (by simp) AX)
theorem a8.store{φ G m w}(h:a8 φ G m w){e:cg}(he:e∈m){L:Loc}(T:φ e.key=some L)(Z:L.ak=e.ak){b0:Nat}(A5:e.cont.cD L b0)(N:Array Value)
 (AB:Nat) (U:e.ak<=AB) (E:ay) (AF:∀b,E.cD {L with ak:=AB} b->e.cont.cD L b)
 (V:∀φ':bG,φ.le φ'->(∀x v,az φ w (Fo G φ m) x v->az φ' (w.setRow b0 N) (Fo G φ' (Mem.set m ⟨e.key,AB,E⟩)) x v)->
  (∀x v,aJ w (Fo G φ m) x v->aJ (w.setRow b0 N) (Fo G φ' (Mem.set m ⟨e.key,AB,E⟩)) x v)->
  dD φ' (w.setRow b0 N) (Fo G φ' (Mem.set m ⟨e.key,AB,E⟩)) {L with ak:=AB} E):
 ∃φ',a8 φ' G (Mem.set m ⟨e.key,AB,E⟩) (w.setRow b0 N)/\aP φ m w φ' (Mem.set m ⟨e.key,AB,E⟩) (w.setRow b0 N)/\φ' e.key=some {L with ak:=AB}/\∀k,k≠e.key->φ' k=φ k:=
 h.GN he T Z A5 N {L with ak:=AB} U (λhh=>by simp at hh;cases L;simp_all) E AF V
theorem a8.Rk{φ G m w}(h:a8 φ G m w){e:cg}(he:e∈m){L:Loc}(T:φ e.key=some L)(Z:L.ak=e.ak)(J:World)(AP:J.heap=w.heap)(As:J.os=w.os)(At:J.tape=w.tape)(Au:J.output=w.output)
 (arr:Array Value) (elem:TypeId) (E:ay) (L':Loc) (U:L'.ak=e.ak+1) (AF:∀b,E.cD L' b->e.cont.cD L b\/w.heap.size=b)
 (V:∀φ':bG,φ.le φ'->(∀x v,az φ w (Fo G φ m) x v->az φ' (J.alloc (.cells arr elem)) (Fo G φ' (Mem.set m ⟨e.key,e.ak+1,E⟩)) x v)->
  (∀x v,aJ w (Fo G φ m) x v->aJ (J.alloc (.cells arr elem)) (Fo G φ' (Mem.set m ⟨e.key,e.ak+1,E⟩)) x v)->
  (J.alloc (.cells arr elem)).heap[w.heap.size]?=some (.cells arr elem (0,0))->(∀b,b<w.heap.size->(J.alloc (.cells arr elem)).heap[b]?=w.heap[b]?)->
  dD φ' (J.alloc (.cells arr elem)) (Fo G φ' (Mem.set m ⟨e.key,e.ak+1,E⟩)) L' E):
 ∃φ',a8 φ' G (Mem.set m ⟨e.key,e.ak+1,E⟩) (J.alloc (.cells arr elem))/\aP φ m w φ' (Mem.set m ⟨e.key,e.ak+1,E⟩) (J.alloc (.cells arr elem))/\
  φ' e.key=some L'/\∀k,k≠e.key->φ' k=φ k:=by
 have hold:∀b,b<w.heap.size->(J.alloc (.cells arr elem)).heap[b]?=w.heap[b]?:=λb M=>by rw[RowKit.Below.heap_alloc J _ b (by rw[AP];exact M),AP]
 have A6:w.heap.size<=(J.alloc (.cells arr elem)).heap.size:=by simp[AP]
 refine h.cG (e':=⟨e.key,e.ak+1,E⟩) he T rfl (L':=L') (by rw[Z,U];simp) (λhh=>by simp[Z,U]at hh) U
  (λb M _=>hold b M) A6 (λb M=>(AF b M).imp id (λe=>by omega)) As At Au ?_
 intro φ' AW hle;have AX:∀b,b<w.heap.size->Fo G φ' (Mem.set m ⟨e.key,e.ak+1,E⟩) b->Fo G φ m b:=by
  rintro b M (Ap|⟨x,I,Aq,AG,AY⟩)
  ·exact .inl Ap
  ·right;rcases (Mem.mem_set h.nodup).1 I with ⟨rfl,_⟩|⟨Ar,AJ⟩
   ·subst AW;simp at AG;subst AG;rcases AF b AY with AC|AC
    ·exact⟨e,he,L,T,AC⟩
    ·omega
   ·subst AW;simp at AJ;simp[AJ]at AG;exact⟨x,Ar,Aq,AG,AY⟩
 refine V φ' hle (λx v I=>I.mono hle (λb M _=>hold b M) A6 AX) (λx v I=>I.mono (λb M _=>hold b M) A6 AX) ?_ hold;have:=heap_alloc_new J (.cells arr elem);rwa [AP]at this
theorem a8.fresh{φ G m w}(h:a8 φ G m w){e:cg}(he:e∈m){L:Loc}(T:φ e.key=some L)(Z:L.ak=e.ak)(J:World)(AP:J.heap=w.heap)(As:J.os=w.os)(At:J.tape=w.tape)(Au:J.output=w.output)
 (arr:Array Value) (elem:TypeId) (sz cap:Nat) (E:ay) (AF:∀b,E.cD ⟨e.ak+1,w.heap.size,sz,cap,0,[]⟩ b->w.heap.size=b)
 (V:∀φ':bG,φ.le φ'->(∀x v,az φ w (Fo G φ m) x v->az φ' (J.alloc (.cells arr elem)) (Fo G φ' (Mem.set m ⟨e.key,e.ak+1,E⟩)) x v)->
  (∀x v,aJ w (Fo G φ m) x v->aJ (J.alloc (.cells arr elem)) (Fo G φ' (Mem.set m ⟨e.key,e.ak+1,E⟩)) x v)->
  (J.alloc (.cells arr elem)).heap[w.heap.size]?=some (.cells arr elem (0,0))->
  dD φ' (J.alloc (.cells arr elem)) (Fo G φ' (Mem.set m ⟨e.key,e.ak+1,E⟩)) ⟨e.ak+1,w.heap.size,sz,cap,0,[]⟩ E):
 ∃φ',a8 φ' G (Mem.set m ⟨e.key,e.ak+1,E⟩) (J.alloc (.cells arr elem))/\aP φ m w φ' (Mem.set m ⟨e.key,e.ak+1,E⟩) (J.alloc (.cells arr elem))/\
  φ' e.key=some ⟨e.ak+1,w.heap.size,sz,cap,0,[]⟩/\∀k,k≠e.key->φ' k=φ k:=
 h.Rk he T Z J AP As At Au arr elem E _ rfl (λb M=>.inr (AF b M)) (λφ' A Y AL A4 _=>V φ' A Y AL A4)
def D.setCells(r:D)(j:Nat)(y:D):D:=.agg (bf r.cells j y.cells)
def Ck(P:Program)(t:TypeId)(k ak i j:Nat)(x:AV):Option cg->cP
 |some ⟨_,v,.vv ag (some _)⟩=>match x with
  | .vec a b c d=>.cG (v=ak/\i=ag.length/\j=0/\eM P t=some 1) .aY ⟨k,ak,.vv ag (some (.vec a b c d))⟩
  |_=>.no
 |_=>.no
def nQ(P:Program)(m:Mem)(t:TypeId)(p x:AV):cP:=
 match p with
 | .ptr k ak off=>match Mem.get m k with
  |some ⟨_,v,.box cs⟩=>.cG (v=ak/\x.kr=true/\eM P t=some x.cells.length/\off+x.cells.length<=cs.length) .aY ⟨k,ak,.box (bf cs off x.cells)⟩
  |_=>.no
 | .cn k ak i j=>match Mem.get m k,x.norm with
  |some ⟨_,v,.vec sz ag⟩,.d y=>match tk P t with
   | .struct=>.cG (v=ak/\i<ag.length/\eM P t=some sz/\y.size=sz/\j=0) .aY ⟨k,ak,.vec sz (ag.set i y)⟩
   |_=>match sz with
    |1=>.cG (v=ak/\i<ag.length/\eM P t=some 1/\y.size=1/\j=0) .aY ⟨k,ak,.vec 1 (ag.set i y)⟩
    |sz=>.cG (v=ak/\i<ag.length/\eM P t=some y.size/\j+y.size<=sz/\(D.at ag i).flat=false) .aY ⟨k,ak,.vec sz (ag.set i ((D.at ag i).setCells j y))⟩
  |e,_=>Ck P t k ak i j x e
 |_=>.no
theorem Gf{w w':World}{F F':Nat->Prop}{arr:Array Value}{ag:List D}{base sz cap i o:Nat}{us:List Value}{AD:D}{AE:Value}(A3:arr.size=base+cap*sz)(AQ:ag.length<=cap)(hi:i<ag.length)
 (A5:base+i*sz<=o) (BQ:o+us.length<=base+i*sz+sz)
 (AR:∀(n:Nat)(d:D),ag[n]?=some d->∃v,aJ w F d v/\∀(j:Nat)(c:Value),v.cells[j]?=some c->arr[base+n*sz+j]?=some c)
 (BD:∀d∈ag,d.size=sz)
 (hm:∀x v,aJ w F x v->aJ w' F' x v) (AK:aJ w' F' AD AE) (AS:AD.size=sz)
 (Av:∀(j:Nat)(c:Value),AE.cells[j]?=some c->(bf arr.toList o us)[base+i*sz+j]?=some c):
 ∀(n:Nat)(d:D),(ag.set i AD)[n]?=some d->∃v,aJ w' F' d v/\∀(j:Nat)(c:Value),v.cells[j]?=some c->(bf arr.toList o us).toArray[base+n*sz+j]?=some c:=by
 have BE:base+i*sz+sz<=arr.size:=by
  have:i*sz+sz<=cap*sz:=by rw[<-afM];exact aaC _ (by omega)
  omega
 intro n d A7;by_cases A9:n=i
 ·subst A9;simp[hi]at A7;subst A7;exact⟨AE,AK,λj c AZ=>by simpa using Av j c AZ⟩
 ·rw[List.getElem?_set_ne (λh=>A9 h.symm)]at A7;obtain⟨v,U,BF⟩:=AR n d A7;refine⟨v,hm d v U,λj c AZ=>?_⟩;have BR:j<sz:=by
   have A:=U.size;rw[BD d (aao A7)]at A;have:=(acw.1 AZ).1;omega
  rw[ac6,fU arr.toList o us (by simp;omega)];have key:¬(o<=base+n*sz+j/\base+n*sz+j<o+us.length):=by
   rintro ⟨A,Y⟩;rcases Nat.lt_or_gt_of_ne A9 with AM|Cm
   ·have:n*sz+sz<=i*sz:=by rw[<-afM];exact aaC _ AM
    omega
   ·have:i*sz+sz<=n*sz:=by rw[<-afM];exact aaC _ Cm
    omega
  have hh:=BF j c AZ;split
  ·simpa using hh
  ·rw[aah (by omega)];simpa using hh
theorem r9{P:Program}{t:TypeId}{w:World}{b o:Nat}{arr:Array Value}{elem:TypeId}{v:Value}(A3:eM P t=some v.cells.size)
 (A':en w b arr elem) (A2:o+v.cells.size<=arr.size) (A:∀x∈v.cells,cd x=true):
 (Instr.storeAt t (.pointer (some ⟨b,o,none⟩)) v).run P w=.ok () (w.setRow b (bf arr.toList o v.cells.toList).toArray):=by
 rw[JV A3 A' A2 A,cH _ _ _ (by simpa using A2)];simp
theorem JW{w:World}{b:Nat}{arr:Array Value}{elem:TypeId}{fr}(A':w.heap[b]?=some (.cells arr elem fr))(N:Array Value):(w.setRow b N).heap[b]?=some (.cells N elem fr):=setRow_heap w b arr N elem fr A'
theorem en.setRow{w:World}{b:Nat}{arr:Array Value}{elem:TypeId}(A':en w b arr elem)(N:Array Value)(A3:N.size=arr.size):en (w.setRow b N) b N elem:=by
 obtain⟨fr,A,Y⟩:=A';exact⟨fr,JW A N,by rw[A3];exact Y⟩
theorem jW{α:Type}{cs H:List α}{off:Nat}{x:α}(h:off+H.length<=cs.length)(I:x∈bf cs off H):x∈cs\/x∈H:=by
 rw[cH cs off H h]at I;simp only[abT]at I;rcases I with (I|I)|I
 ·exact .inl (acf I)
 ·exact .inr I
 ·exact .inl (ach I)
theorem Rn(P:Program)(S:St)(o:Oper)(t:TypeId)(p x:Operand)(A5:o.op=.store t p x)(A_:(S.aq p).1=true)(I:(S.aq x).1=true){k ak i j:Nat}(AT:(S.aq p).2=.cn k ak i j):
 aD P S o (Ck P t k ak i j (S.aq x).2 (Mem.get S.mem k)):=by
 unfold Ck;split
 ·rename_i key v ag y A';split
  ·rename_i a b c d AN;refine aD.qI ?_;rintro ⟨rfl,rfl,rfl,Aa⟩ φ G BG w A0;have AA:key=k:=(Mem.get_mem A').2;subst AA;have U:=A0.aq p A_;have hu:=A0.aq x I;rw[AT]at U;rw[AN]at hu;obtain⟨hm,_,L,T,Z,AO⟩:=A0.mem.get A';obtain⟨⟨B2,AQ,A2⟩,BH,AJ,Aw⟩:=AO;have e:=U.jT T Z;simp only[Option.toList_some,acY]at AQ;have Ab:0<L.cap:=by omega
   obtain⟨arr,elem,hh,A6,A,BI,_⟩:=Aw Ab;generalize Ax:BG.eval x=u at hu;have Ay:cd u=true:=by cases hu;assumption
   have Ak:u.cells=#[u]:=dC Ay;have A1:L.base+ag.length+[u].length<=arr.toList.length:=by simp;omega
   obtain⟨φ',Ac,Ad,B3,Ae⟩:=A0.mem.store (e:=⟨key,v,.vv ag (some y)⟩) hm T Z (b0:=L.cU) (.inl ⟨Ab,rfl⟩) (bf arr.toList (L.base+ag.length) [u]).toArray v (aai _) (.vv ag (some (.vec a b c d))) (λ_ M=>M) (λφ' B4 Al AU=>by
    refine⟨⟨B2,by simpa using AQ,A2⟩,BH,AJ,λ_=>⟨_,elem,hh.setRow _ (by rw[acK,bI _ _ _ A1];simp),?_,?_,?_,?_⟩⟩
    ·rw[acK,bI _ _ _ A1];simpa using A6
    ·intro z O;rcases jW A1 (by simpa using O)with O|O
     ·exact A z (by simpa using O)
     ·simp at O;subst O;exact Ay
    ·intro n xs q A9 An;have BS:=(aaf.1 A9).1;have:=BI n xs q A9 An;rw[show (bf arr.toList (L.base+ag.length) [u]).toArray[L.base+n]?=arr[L.base+n]? by
      rw[ac6,fU _ _ _ A1,aap (by omega)];simp]
     refine this.mono (λd u _ A7=>AU d u A7) (λb M=>?_);subst M;exact m6 w L.cU b _ (λheq=>(AJ b (aao An)).2 heq)
    ·intro z O;cases O;refine⟨u,?_,Al _ _ hu⟩;show (bf arr.toList (L.base+ag.length) [u]).toArray[L.base+ag.length]?=some u;rw[ac6,fU _ _ _ A1,aah (by omega),aap (by simp)];simp)
   refine⟨undef,_,φ',?_,.aY _,Ac,Ad,Ae⟩;have B5:=r9 (P:=P) (t:=t) (w:=w) (b:=L.cU) (o:=L.base+ag.length) (v:=u) (by rw[Ak];exact Aa) hh (by rw[Ak];simpa using A1) (by rw[Ak];simpa using Ay);rw[Ak]at B5;refine .inr ⟨?_,rfl⟩;rw[B2,akv,afA]at e;simp[execOp,A5,e,Ax,B5]
  ·trivial
 ·trivial
theorem Vg(P:Program)(S:St)(o:Oper)(t:TypeId)(p x:Operand)(A5:o.op=.store t p x)(A_:(S.aq p).1=true)(I:(S.aq x).1=true):aD P S o (nQ P S.mem t (S.aq p).2 (S.aq x).2):=by
 have B6:∀(a:Act)(w w':World),(Instr.storeAt t (a.eval p) (a.eval x)).run P w=.ok () w'->Cj P o a w undef w':=by
  intro a w w' h;exact .inr ⟨by simp[execOp,A5,h],rfl⟩
 unfold nQ;split
 ·rename_i k ak off AT;split
  ·rename_i key v cs A';refine aD.qI ?_;rintro ⟨rfl,BJ,Aa,hle⟩ φ G a w A0;have U:=A0.aq p A_;have AN:=A0.aq x I;rw[AT]at U;obtain⟨hm,AA,L,T,Z,Az,arr,elem,hh,A6,A,AR⟩:=A0.mem.get A';have e:=U.pY T Z;obtain⟨Ao,B'⟩:=AN.kr BJ;simp only at AA;subst AA;have A1:off+(a.eval x).cells.toList.length<=arr.toList.length:=by simp only[abZ,Ao,A6];exact hle
   obtain⟨φ',Ac,Ad,B3,Ae⟩:=A0.mem.store (e:=⟨key,v,.box cs⟩) hm T Z rfl (bf arr.toList off (a.eval x).cells.toList).toArray v (aai _) (.box (bf cs off (S.aq x).2.cells)) (λ_ M=>M) (λφ' B4 Al AU=>by
    refine⟨⟨Az.1,Az.2.1,by rw[bI _ _ _ hle];exact Az.2.2⟩,_,elem,hh.setRow _ (by show (bf arr.toList _ _).length=_;rw[bI _ _ _ A1];simp),?_,?_,?_⟩
    ·rw[bI _ _ _ hle,<-A6];show (bf arr.toList off _).length=_;rw[bI _ _ _ A1];simp
    ·intro u hu;rcases jW A1 (by simpa using hu)with hu|hu
     ·exact A u (by simpa using hu)
     ·exact B' u (by simpa using hu)
    ·intro i c u V hu;refine Al c u ?_;exact r7 (vs:=arr.toList) (us:=(a.eval x).cells.toList) (by simp[A6]) (by simpa using Ao.symm) hle (λi c v h AC=>AR i c v h (by simpa using AC))
      (λi c v h AC=>AN.cells B' Ao i c v h (by simpa using AC)) i c u V (by simpa using hu))
   refine⟨undef,_,φ',B6 a w _ ?_,.aY _,Ac,Ad,Ae⟩;rw[e];exact r9 (by rw[Ao];exact Aa) hh (by omega) B'
  ·trivial
 ·rename_i k ak i j AT;have vec:∀(c:Prop)[Decidable c](sz:Nat)(ag:List D)(y AD:D)(v:Nat),Mem.get S.mem k=some ⟨k,v,.vec sz ag⟩->(S.aq x).2.norm=.d y->
   (c->v=ak/\i<ag.length/\eM P t=some y.size/\j+y.size<=sz/\((D.at ag i).size=sz->AD.size=sz)/\
    ∀w F (u v:Value),(D.at ag i).size=sz->aJ w F (D.at ag i) v->aJ w F y u->∃AE,aJ w F AD AE/\AE.cells.toList=bf v.cells.toList j u.cells.toList)->
   aD P S o (.cG (decide c) .aY ⟨k,ak,.vec sz (ag.set i AD)⟩):=by
   intro c _ sz ag y AD v A' A8 BK;refine aD.qI λV φ G a w A0=>?_;obtain⟨rfl,AM,Aa,AZ,BL,BM⟩:=BK V;have U:=A0.aq p A_;have AN:=(A0.aq x I).norm;rw[A8]at AN;rw[AT]at U;obtain⟨hm,AA,L,T,Z,Af,AQ,AS,Aw⟩:=A0.mem.get A';have e:=U.jT T Z;have Ab:0<L.cap:=by omega
   obtain⟨arr,elem,hh,A6,A,AR⟩:=Aw Ab;have B7:AD.size=sz:=BL (by rw[AS _ (aao (iY AM)),Af]);cases AN with
   |d _ u hu=>
    generalize Ax:a.eval x=u at hu;have Ag:u.cells.size=y.size:=hu.size;have BE:L.base+i*L.sz+L.sz<=arr.size:=by
     have:i*L.sz+L.sz<=L.cap*L.sz:=by rw[<-afM];exact aaC _ (by omega)
     omega
    obtain⟨B0,B8,B9⟩:=AR i _ (iY AM);have B1:B0.cells.size=L.sz:=by rw[B8.size];exact AS _ (aao (iY AM))
    have A1:L.base+i*L.sz+j+u.cells.toList.length<=arr.toList.length:=by simp[Ag];omega
    obtain⟨φ',Ac,Ad,B3,Ae⟩:=A0.mem.store (e:=⟨k,v,.vec sz ag⟩) hm T Z ⟨Ab,rfl⟩ (bf arr.toList (L.base+i*L.sz+j) u.cells.toList).toArray v (aai _) (.vec sz (ag.set i AD)) (λ_ M=>M) (λφ' B4 Al AU=>by
     refine⟨Af,by simpa using AQ,?_,λ_=>⟨_,elem,hh.setRow _ (by show (bf arr.toList _ _).length=_;rw[bI _ _ _ A1];simp),?_,?_,?_⟩⟩
     ·intro d A7;rcases List.mem_or_eq_of_mem_set A7 with A7|rfl
      ·exact AS d A7
      ·show _=L.sz;rw[Af];exact B7
     ·show (bf arr.toList _ _).length=_;rw[bI _ _ _ A1];simpa using A6
     ·intro z O;rcases jW A1 (by simpa using O)with O|O
      ·exact A z (by simpa using O)
      ·exact hu.cells.2.1 z (by simpa using O)
     ·obtain⟨AE,Av,BN⟩:=BM _ _ u B0 (by rw[AS _ (aao (iY AM)),Af]) (AU _ _ B8) (AU _ _ hu);refine Gf (F:=Fo G φ S.mem) (base:=L.base) (cap:=L.cap) (sz:=L.sz) A6 AQ AM (by omega) (by simp[Ag];omega) AR AS AU Av (by rw[B7,Af]) ?_;intro q c An;have AH:(bf B0.cells.toList j u.cells.toList)[q]?=some c:=by rw[<-BN];simpa using An
      have BT:q<L.sz:=by
       have:=(aaf.1 AH).1;rw[bI _ _ _ (by simp[Ag,B1];omega)]at this;simpa [B1]using this
      rw[fU _ _ _ (by simp[Ag,B1];omega)]at AH;rw[fU _ _ _ A1];by_cases A:q<j
      ·rw[aap A]at AH;rw[aap (by omega)];simpa using B9 q c (by simpa using AH)
      ·rw[aah A]at AH;rw[aah (by omega)];by_cases Y:q<j+u.cells.toList.length
       ·rw[aap Y]at AH;rw[aap (by omega)];rw[show L.base+i*L.sz+q-(L.base+i*L.sz+j)=q-j by omega];exact AH
       ·rw[aah Y]at AH;rw[aah (by omega)];simpa using B9 q c (by simpa using AH))
    refine⟨undef,_,φ',B6 a w _ ?_,.aY _,Ac,Ad,Ae⟩;rw[e,Ax];exact r9 (by rw[Ag];exact Aa) hh (by simpa using A1) hu.cells.2.1
  have whole:∀(y r:D),y.size=r.size->∀w F (u v:Value),aJ w F r v->aJ w F y u->∃AE,aJ w F y AE/\AE.cells.toList=bf v.cells.toList 0 u.cells.toList:=by
   intro y r BU w F u v A0 A8;refine⟨u,A8,?_⟩;have A:=A0.size;have Y:=A8.size;rw[cH _ _ _ (by simp;omega)];simp;omega
  split
  ·rename_i key v sz ag y A' A8;have AA:key=k:=(Mem.get_mem A').2;subst AA;split
   ·exact vec _ sz ag y y v A' A8 (λ⟨A,Y,AL,A4,Ah⟩=>⟨A,Y,by rw[A4];exact AL,by omega,λ_=>A4,by
     subst Ah;intro w F u v A3 AK Ai;exact whole y _ (by rw[A3,A4]) w F u v AK Ai⟩)
   ·split
    ·exact vec _ 1 ag y y v A' A8 (λ⟨A,Y,AL,A4,Ah⟩=>⟨A,Y,by rw[A4];exact AL,by omega,λ_=>A4,by
      subst Ah;intro w F u v A3 AK Ai;exact whole y _ (by rw[A3,A4]) w F u v AK Ai⟩)
    ·refine vec _ sz ag y _ v A' A8 (λ⟨A,Y,AL,A4,Ah⟩=>⟨A,Y,AL,A4,?_,?_⟩)
     ·intro AI;show (bf _ _ _).length=sz;rw[bI _ _ _ (by rw[D.fj,D.fj,AI];exact A4),D.fj,AI]
     ·intro w F u v A3 AK Ai;obtain⟨BO,rfl⟩:=uj AK Ah;have AO:=AK.cells;have Aj:=Ai.cells;have A2:j+y.cells.length<=(D.at ag i).cells.length:=by rw[D.fj,D.fj,A3];exact A4
      refine⟨.agg (bf BO.toList j u.cells.toList).toArray,.nz ?_ ?_ ?_,by simp[Value.cells]⟩
      ·have AI:=AO.1;simp only[Value.cells]at AI;rw[bI _ _ _ A2,bI _ _ _ (by rw[Aj.1,AI];exact A2),<-AI]
      ·intro z O;have AI:=AO.1;simp only[Value.cells]at AI;rcases jW (by rw[Aj.1,AI];exact A2) O with O|O
       ·exact AO.2.1 z (by simpa [Value.cells]using O)
       ·exact Aj.2.1 z (by simpa using O)
      ·exact r7 (by simpa [Value.cells]using AO.1.symm) (by simpa using Aj.1.symm) A2 (λi c v h AC=>(AO.2.2 i c v h (by simpa [Value.cells]using AC)).1) (λi c v h AC=>(Aj.2.2 i c v h (by simpa using AC)).1)
  ·exact Rn P S o t p x A5 A_ I AT
 ·trivial
theorem gH(P:Program)(w:World)(e:TypeId)(cs:Array Value):(newRow e cs).run P w=.ok ⟨w.heap.size,0,none⟩ (w.alloc (.cells cs e)):=rfl
def keyOf(o:Oper):Nat:=100+50*o.dst.getD 100000
def rq(P:Program)(t:TypeId):Option (List AV):=
 match P.info? t with
 |some i=>match i.zero with
  |some z=>if z.cells.all cd then some (z.cells.toList.map l4)else none
  |none=>none
 |none=>none
theorem nA{P:Program}{t:TypeId}{zs:List AV}(h:rq P t=some zs)(w:World):∃z,(zeroValue t).run P w=.ok z w/\z.cells.size=zs.length/\(∀v∈z.cells,cd v=true)/\
 ∀φ w' F (i:Nat) c v,zs[i]?=some c->z.cells[i]?=some v->az φ w' F c v:=by
 unfold rq at h;split at h
 ·rename_i i hi;split at h
  ·rename_i z y;split at h
   ·rename_i AM;simp at h;subst h;refine⟨z,by simp[zeroValue,typeInfo,hi,y],by simp,?_,?_⟩
    ·intro v A;exact Array.all_eq_true'.1 AM v A
    ·intro φ w' F i c v M A;simp only[acj,afw,aak]at M;obtain⟨u,hu,rfl⟩:=M;rw[A]at hu;cases hu;exact AI ..
   ·cases h
  ·cases h
 ·cases h
def qJ(m:Mem)(k:Nat)(c:Bool)(cs:List AV):cP:=
 match Mem.get m k with
 |some ⟨_,v,_⟩=>.cG c (.ptr k (v+1) 0) ⟨k,v+1,.box cs⟩
 |none=>.no
theorem Kz{P:Program}{S:St}{o:Oper}{k:Nat}{c:Bool}{cs:List AV}
 (h:c=true->∀φ G a w,Rel φ G S a w->∃(arr:Array Value)(elem:TypeId),(execOp a.eval o).run P w=.ok (.value (.pointer (some ⟨w.heap.size,0,none⟩))) (w.alloc (.cells arr elem))/\
  arr.size=cs.length/\(∀v∈arr,cd v=true)/\∀(i:Nat) c v,cs[i]?=some c->arr[i]?=some v->az φ w (Fo G φ S.mem) c v):aD P S o (qJ S.mem k c cs):=by
 unfold qJ;split
 ·rename_i key v cont AN;intro M φ G a w U;obtain⟨arr,elem,A',N,I,Y⟩:=h M φ G a w U;obtain⟨hm,A2,L,AO,AF,_⟩:=U.mem.get AN;simp only at A2 AF;subst A2;obtain⟨φ',AP,AQ,AR,AS⟩:=U.mem.fresh (e:=⟨key,v,cont⟩) hm AO AF w rfl rfl rfl rfl arr elem 1 cs.length (.box cs) (λ_ A4=>A4) (λφ' hle AT Af AU=>
   ⟨⟨rfl,rfl,rfl⟩,arr,elem,en.new AU,N,I,λi c u M hu=>AT c u (Y i c u M hu)⟩)
  exact⟨_,_,φ',.inl A',.ptr key (v+1) 0 _ _ AR (aai _) (λ_=>rfl) rfl,AP,AQ,AS⟩
 ·trivial
theorem abW(P:Program)(S:St)(o:Oper)(t:TypeId)(x:Operand)(A8:o.op=.box t x)(A0:(S.aq x).1=true):aD P S o (qJ S.mem (keyOf o) (S.aq x).2.kr (S.aq x).2.cells):=by
 refine Kz λZ φ G a w U=>?_;have A:=U.aq x A0;obtain⟨I,O⟩:=A.kr Z;refine⟨(a.eval x).cells,t,?_,I,O,A.cells O I⟩;simp[execOp,A8,Instr.box,newVar,gH]
theorem GP(P:Program)(S:St)(o:Oper)(t:TypeId)(A8:o.op=.alloc t)(zs:List AV)(y:rq P t=some zs):aD P S o (qJ S.mem (keyOf o) true zs):=by
 refine Kz λ_ φ G a w U=>?_;obtain⟨z,A',N,I,Y⟩:=nA y w;refine⟨z.cells,t,?_,N,I,λi c v M A=>Y _ _ _ i c v M A⟩;simp[execOp,A8,Instr.alloc,newVar,gH,A']
def lD(P:Program)(t:TypeId):Option D:=
 match rq P t,(tk P t).agg with
 |some zs,true=>(toDsN zs).map .agg
 |some [z],false=>toD1 z
 |_,_=>none
def yd(P:Program)(t:TypeId):Option Nat:=(P.info? t).map (·.bytes)
theorem Cn{P:Program}{t:TypeId}{d:D}(h:lD P t=some d)(w:World):∃z,(zeroValue t).run P w=.ok z w/\z.cells.size=d.size/\(∀v∈z.cells,cd v=true)/\
 ∀w' F,∃v,aJ w' F d v/\v.cells=z.cells:=by
 unfold lD at h;split at h
 ·rename_i zs y AW;simp only[aak]at h;obtain⟨A9,AX,rfl⟩:=h;obtain⟨z,A',N,I,Y⟩:=nA y w;have A1:∀w' F,zs.length=A9.length/\∀(i:Nat) d v,A9[i]?=some d->z.cells.toList[i]?=some v->aJ w' F d v:=λw' F=>
   toDsN_rel (φ:=λ_=>none) (w:=w') (F:=F) (vs:=z.cells.toList) AX (λi c v M A=>Y _ _ _ i c v M (by simpa using A))
  refine⟨z,A',by rw[N,(A1 w (λ_=>False)).1];rfl,I,λw' F=>⟨.agg z.cells,?_,rfl⟩⟩;have:=aJ.nz (w:=w') (F:=F) (cs:=A9) (vs:=z.cells.toList) (by rw[<-(A1 w' F).1];simpa using N.symm) (λv A=>I v (by simpa using A)) (A1 w' F).2;simpa using this
 ·rename_i z0 y AW;obtain⟨z,A',N,I,Y⟩:=nA y w;obtain⟨u,hu⟩:∃u,z.cells=#[u]:=by
   have:z.cells.size=1:=N;exact⟨z.cells[0],by apply Array.ext<;>simp_all⟩
  have E:∀w' F,aJ w' F d u:=λw' F=>toD1_rel (φ:=λ_=>none) h (Y _ _ _ 0 z0 u (by simp) (by simp[hu]));have AG:cd u=true:=I u (by simp[hu]);refine⟨z,A',by rw[hu,<-(E w (λ_=>False)).size,dC AG],I,λw' F=>⟨u,E w' F,by rw[dC AG,hu]⟩⟩
 ·cases h
def bY(w:World)(F:Nat->Prop)(sz:Nat)(ag:List D)(cs:List Value):Prop:=
 cs.length=ag.length*sz/\(∀v∈cs,cd v=true)/\(∀d∈ag,d.size=sz)/\∀(i:Nat) d,ag[i]?=some d->∃v,aJ w F d v/\∀(j:Nat) c,v.cells[j]?=some c->cs[i*sz+j]?=some c
theorem u4{sz:Nat}{w:World}{F:Nat->Prop}{d:D}{v:Value}(h:aJ w F d v)(Z:d.size=sz){j:Nat}{c:Value}(H:v.cells[j]?=some c):j<sz:=by
 have I:=h.size;have:=(acw.1 H).1;omega
theorem bY.append{w F sz xs AA cs AH}(h:bY w F sz xs cs)(AY:bY w F sz AA AH):bY w F sz (xs++AA) (cs++AH):=by
 obtain⟨V,a2,a3,a4⟩:=h;obtain⟨AZ,A_,Aa,Ab⟩:=AY;refine⟨by simp[V,AZ,acU],?_,?_,?_⟩
 ·intro v A;rcases abT.1 A with A|A;exact a2 v A;exact A_ v A
 ·intro v A;rcases abT.1 A with A|A;exact a3 v A;exact Aa v A
 ·intro i d E;by_cases hi:i<xs.length
  ·rw[aaq hi]at E;obtain⟨v,A,T⟩:=a4 i d E;refine⟨v,A,λj c H=>?_⟩;have A5:=u4 A (a3 d (aao E)) H;rw[aaq]
   ·exact T j c H
   ·rw[V];have:i*sz+sz<=xs.length*sz:=by rw[<-afM];exact aaC _ hi
    omega
  ·rw[aaF (by omega)]at E;obtain⟨v,A,T⟩:=Ab _ d E;refine⟨v,A,λj c H=>?_⟩;have e:xs.length*sz+(i-xs.length)*sz=i*sz:=by rw[<-acU];congr 1;omega
   rw[aaF (by rw[V];omega),V,show i*sz+j-xs.length*sz=(i-xs.length)*sz+j by omega];exact T j c H
theorem bY.take{w F sz xs cs}(h:bY w F sz xs cs)(n:Nat)(AJ:n<=xs.length):bY w F sz (xs.take n) (cs.take (n*sz)):=by
 obtain⟨V,a2,a3,a4⟩:=h;have hle:n*sz<=xs.length*sz:=aaC _ AJ;refine⟨by simp only[afn,V];rw[agG AJ,agG hle],λv A=>a2 v (acf A),λv A=>a3 v (acf A),?_⟩;intro i d E;rw[aaz]at E;split at E
 ·rename_i hi;obtain⟨v,A,T⟩:=a4 i d E;refine⟨v,A,λj c H=>?_⟩;have A5:=u4 A (a3 d (aao E)) H;have:i*sz+sz<=n*sz:=by rw[<-afM];exact aaC _ hi
  rw[aaz,aap (by omega)];exact T j c H
 ·cases E
theorem bY.drop{w F sz xs cs}(h:bY w F sz xs cs)(n:Nat):bY w F sz (xs.drop n) (cs.drop (n*sz)):=by
 obtain⟨V,a2,a3,a4⟩:=h;refine⟨by simp[V,Nat.sub_mul],λv A=>a2 v (ach A),λv A=>a3 v (ach A),?_⟩;intro i d E;rw[acq]at E;obtain⟨v,A,T⟩:=a4 _ d E;refine⟨v,A,λj c H=>?_⟩;rw[acq,show n*sz+(i*sz+j)=(n+i)*sz+j by rw[acU];omega];exact T j c H
theorem bY.mono{w F w' F' sz xs cs}(h:bY w F sz xs cs)(hm:∀x v,aJ w F x v->aJ w' F' x v):bY w' F' sz xs cs:=
 ⟨h.1,h.2.1,h.2.2.1,λi d E=>let ⟨v,A,M⟩:=h.2.2.2 i d E;⟨v,hm _ _ A,M⟩⟩
theorem bY.nil(w F sz):bY w F sz [] []:=⟨by simp,by simp,by simp,by simp⟩
theorem sd{φ w F}{L:Loc}{ag:List D}{pre cs rest:List Value}{sz:Nat}{elem:TypeId}(N:L.sz=sz)(U:bY w F sz ag cs)(Ac:pre.length=L.base)(q:∀v∈pre,cd v=true)(I:∀v∈rest,cd v=true)
 (A3:ag.length<=L.cap) (A1:(cs++rest).length=L.cap*sz) (hh:0<L.cap->en w L.cU (pre++(cs++rest)).toArray elem):dD φ w F L (.vec sz ag):=by
 obtain⟨V,a2,a3,a4⟩:=U;subst N;refine⟨rfl,A3,a3,λM=>⟨_,elem,hh M,by simp only[acK,ab0]at A1⊢;omega,?_,?_⟩⟩
 ·intro v A;simp at A;rcases A with A|A|A
  ·exact q v A
  ·exact a2 v A
  ·exact I v A
 ·intro i d E;obtain⟨v,A,T⟩:=a4 i d E;refine⟨v,A,λj c H=>?_⟩;have A5:=u4 A (a3 d (aao E)) H;have AB:i<ag.length:=(aaf.1 E).1;have:i*L.sz+L.sz<=ag.length*L.sz:=by rw[<-afM];exact aaC _ AB
  rw[ac6,aaF (by omega),Ac,show L.base+i*L.sz+j-L.base=i*L.sz+j by omega,aaq (by rw[V];omega)];exact T j c H
theorem um{φ w F}{L:Loc}{ag:List D}{cs rest:List Value}{sz:Nat}{elem:TypeId}(N:L.sz=sz)(A4:L.base=0)(U:bY w F sz ag cs)(I:∀v∈rest,cd v=true)
 (A3:ag.length<=L.cap) (A1:(cs++rest).length=L.cap*sz) (hh:0<L.cap->en w L.cU (cs++rest).toArray elem):dD φ w F L (.vec sz ag):=
 sd (pre:=[]) N U (by simp[A4]) (by simp) I A3 A1 hh
theorem mL{φ w F}{L:Loc}{ag:List D}{sz:Nat}(h:dD φ w F L (.vec sz ag))(M:0<L.cap):∃(arr:Array Value)(elem:TypeId),en w L.cU arr elem/\arr.size=L.base+L.cap*sz/\
 (∀v∈arr,cd v=true)/\bY w F sz ag ((arr.toList.drop L.base).take (ag.length*sz)):=by
 obtain⟨Z,A3,AK,A6⟩:=h;obtain⟨arr,elem,hh,N,I,Y⟩:=A6 M;subst Z;refine⟨arr,elem,hh,N,I,?_,λv A=>I v (by simpa using ach (acf A)),AK,?_⟩
 ·simp only[afn,acL,abZ,N];exact agG (by rw[Nat.add_sub_cancel_left];exact aaC _ A3)
 ·intro i d E;obtain⟨v,A,T⟩:=Y i d E;refine⟨v,A,λj c H=>?_⟩;have A5:=u4 A (AK d (aao E)) H;have AB:i<ag.length:=(aaf.1 E).1;have:i*L.sz+L.sz<=ag.length*L.sz:=by rw[<-afM];exact aaC _ AB
  rw[aaz,aap (by omega),acq,<-aci];simpa using T j c H
theorem GQ{w F}{xs:List D}{ao:Option Addr}{m cap sz:Nat}(h:aJ w F (.list xs) (.slice ao m cap))(Z:∀d∈xs,d.size=sz):
 m=xs.length/\∃cs,bY w F sz xs cs/\(xs≠[]->∃b off,ao=some ⟨b,off,none⟩/\b<w.heap.size/\¬F b/\∀(j:Nat) v,cs[j]?=some v->w.cell? ⟨b,off+j,none⟩=some v):=by
 generalize A0:D.list xs=x at h;generalize A:Value.slice ao m cap=v at h;cases h with
 |nil a c=>
  simp at A0 A;subst A0;exact⟨by simp[A.2.1],[],bY.nil ..,λh=>absurd rfl h⟩
 |list AA b off Ag J vs A3 A4 Ad N AC M=>
  simp at A0 A;obtain⟨rfl,rfl,rfl⟩:=A;subst A0;refine⟨rfl,?_⟩
  --Ah cells,row by row
  have AD:xs≠[]->J=sz:=λA7=>by
   cases xs with
   |nil=>exact absurd rfl A7
   |cons d r=>rw[<-N d (by simp),Z d (by simp)]
  by_cases A7:xs=[]
  ·subst A7;exact⟨[],bY.nil ..,λh=>absurd rfl h⟩
  have AD:=AD A7;subst AD;have A6:∀(i j:Nat),i<xs.length->j<J->∃c,(vs i).cells[j]?=some c/\w.cell? ⟨b,off+(i*J+j),none⟩=some c/\cd c=true:=by
   intro i j hi H;have I:=AC i xs[i] (by simp[hi]);have O:=I.size;rw[Z _ (acN hi)]at O;have AL:j<(vs i).cells.size:=by omega
   refine⟨(vs i).cells[j],by simp[AL],?_,I.cells.2.1 _ (by simp)⟩;have:=M i j _ hi (show (vs i).cells[j]?=some (vs i).cells[j] by simp[AL]);rw[<-aci];exact this
  refine⟨(List.range (xs.length*J)).map (λj=>(w.cell? ⟨b,off+j,none⟩).getD undef),⟨by simp,?_,Z,?_⟩,λ_=>⟨b,off,rfl,A4,Ad,?_⟩⟩
  ·intro v A;simp only[acb,ab2]at A;obtain⟨j,H,rfl⟩:=A;have AE:0<J:=by rcases akx J with q|q;simp[q]at H;exact q
   obtain⟨c,_,O,Ae⟩:=A6 (j/J) (j%J) (Nat.div_lt_of_lt_mul (by rw[Nat.mul_comm];exact H)) (Nat.mod_lt _ AE);rw[Nat.mul_comm,Nat.div_add_mod]at O;simp[O,Ae]
  ·intro i d E;have hi:i<xs.length:=(aaf.1 E).1;refine⟨vs i,AC i d E,λj c H=>?_⟩;have A5:=u4 (AC i d E) (Z d (aao E)) H;obtain⟨Ai,I,O,_⟩:=A6 i j hi A5;rw[H]at I;cases I;have:i*J+J<=xs.length*J:=by rw[<-afM];exact aaC _ hi
   simp[O,show i*J+j<xs.length*J by omega]
  ·intro j v A;simp only[acj,aak]at A;obtain⟨k,A2,rfl⟩:=A;have H:j<xs.length*J:=by
    rcases Nat.lt_or_ge j (xs.length*J)with h|h
    ·exact h
    ·simp[afq (l:=List.range (xs.length*J)) (by simpa using h)]at A2
   simp[H]at A2;subst A2;have AE:0<J:=by rcases akx J with q|q;simp[q]at H;exact q
   obtain⟨c,_,O,_⟩:=A6 (j/J) (j%J) (Nat.div_lt_of_lt_mul (by rw[Nat.mul_comm];exact H)) (Nat.mod_lt _ AE);rw[Nat.mul_comm,Nat.div_add_mod]at O;simp[O]
 |_=>simp at A0
def gk(m:Mem)(sz:Nat):AV->Option (Bool×List D)
 | .d (.list H)=>some (true,H)
 | .d (.str s)=>some (sz=1,s.map λb=>.int .u8 b.toNat)
 | .lit (.slice none 0 0)=>some (true,[])
 | .nn=>some (true,[])
 | .vec k ak off len=>match Mem.get m k with
  |some ⟨_,v,.vec _ ag⟩=>some (v=ak/\off+len<=ag.length,(ag.drop off).take len)
  |_=>none
 |_=>none
structure Gq(P:Program)(w:World)(F:Nat->Prop)(sz:Nat)(H:List D)(x:Value)(J:List Value):Prop where
 len:∀w',(Builtin.lenOf x).run P w'=.ok H.length w'
 Rq:∀n,n<=H.length->∀w',(∀b,b<w.heap.size->w'.heap[b]?=w.heap[b]?)->(Builtin.firstCells sz n x).run P w'=.ok (J.take (n*sz)).toArray w'
 ag:bY w F sz H J
theorem Gq.first{P w F sz H x J}(h:Gq P w F sz H x J)(w':World)(hw:∀b,b<w.heap.size->w'.heap[b]?=w.heap[b]?):(Builtin.firstCells sz H.length x).run P w'=.ok J.toArray w':=by
 rw[h.Rq _ (aai _) w' hw,acI (by rw[h.ag.1];exact aai _)]
theorem GR{P:Program}{S:St}{φ G w}(hm:a8 φ G S.mem w){x:AV}{v:Value}(N:az φ w (Fo G φ S.mem) x v){c H}{sz:Nat}(E:gk S.mem sz x=some (c,H))(U:c=true)(Z:∀d∈H,d.size=sz):
 ∃J,Gq P w (Fo G φ S.mem) sz H v J:=by
 unfold gk at E;split at E
 ·rename_i A';simp at E;obtain⟨_,rfl⟩:=E;cases N with
  |d _ _ h=>
   have V:∃ao m cap,v=.slice ao m cap:=by cases h<;>exact⟨_,_,_,rfl⟩
   obtain⟨ao,m,cap,rfl⟩:=V;obtain⟨rfl,cs,M,A5⟩:=GQ h Z;refine⟨cs,⟨λw'=>by simp[Builtin.lenOf],λn I w' hw=>?_,M⟩⟩;by_cases A0:A'=[]
   ·subst A0;have:cs=[]:=acp (by simpa using M.1);subst this;have O:n=0:=by simpa using I
    subst O;cases ao with
    |none=>simp[Builtin.firstCells]
    |some a=>simp[Builtin.firstCells,loadCells,loadCellsFrom]
   ·obtain⟨b,off,rfl,T,_,A6⟩:=A5 A0;exact run_firstCells_some (P:=P) w' sz n ⟨b,off,none⟩ A'.length cap _ (M.take n I |>.1.trans (by simp[I])) (λj u A=>by
     rw[eN,jx (hw b T)];rw[aaz]at A;split at A
     ·exact A6 j u A
     ·cases A)
 ·rename_i s;simp only[aax,ab3]at E;obtain⟨rfl,rfl⟩:=E;simp only[aam]at U;subst U;cases N with
  |d _ _ h=>
   cases h with
   |str b _ T=>
    subst T;have A7:b.size=b.data.toList.length:=by rw[abZ];rfl
    refine⟨b.data.toList.map λx=>Value.int .u8 x.toNat,⟨λw'=>by simp only[Builtin.lenOf,List.length_map,<-A7];rfl,λn I w' _=>?_,?_,?_,?_,?_⟩⟩
    ·simp only[Builtin.firstCells,Sem.run_pure];congr 1;apply Array.ext';simp
    ·simp
    ·intro v V;simp only[acb]at V;obtain⟨y,_,rfl⟩:=V;rfl
    ·exact Z
    ·intro i d A1;simp only[acj,aak]at A1;obtain⟨y,A8,rfl⟩:=A1;refine⟨.int .u8 y.toNat,.int _ _,λj c A=>?_⟩;cases j with
     |zero=>simp only[Value.cells]at A;simp at A;subst A;simp only[acj,akv,afA,A8];rfl
     |succ j=>simp[Value.cells]at A
 ·simp at E;obtain⟨_,rfl⟩:=E;cases N with
  |lit=>exact⟨[],⟨λw'=>by simp[Builtin.lenOf],λn _ w' _=>by simp[Builtin.firstCells],bY.nil ..⟩⟩
 ·simp at E;obtain⟨_,rfl⟩:=E;cases N with
  |nn a cap=>exact⟨[],⟨λw'=>by simp[Builtin.lenOf],λn I w' _=>by
   have O:n=0:=by simpa using I
   subst O;simp[Builtin.firstCells,loadCells,loadCellsFrom],bY.nil ..⟩⟩
 ·rename_i k ak off len;split at E
  ·rename_i key AK q ag A9;simp only[aax,ab3]at E;obtain⟨rfl,rfl⟩:=E;simp only[aam]at U;obtain⟨rfl,hle⟩:=U;obtain⟨AL,AM,L,AA,AB,A2⟩:=hm.get A9;have AC:((ag.drop off).take len).length=len:=by simp;omega
   cases N with
   |vec _ _ _ _ _ L' A3 _ h AD=>
    rw[AA]at A3;cases A3;obtain⟨ao,cap,rfl,AN,AE⟩:=h AB.symm;clear h AD;by_cases AF:len=0
    ·subst AF;refine⟨[],⟨λw'=>by simp[Builtin.lenOf],λn I w' _=>?_,by simpa using bY.nil ..⟩⟩;have O:n=0:=by simpa using I
     subst O;cases ao with
     |none=>simp[Builtin.firstCells]
     |some a=>simp[Builtin.firstCells,loadCells,loadCellsFrom]
    ·obtain⟨rfl,AO⟩:=AE (by omega);obtain⟨arr,elem,hh,AP,AQ,M⟩:=mL A2 (by omega);have AG:q=sz:=by
      have Y:0<((ag.drop off).take len).length:=by omega
      have AH:=Z (((ag.drop off).take len)[0]'Y) (acN Y)
      have AI:=M.2.2.1 (((ag.drop off).take len)[0]'Y) (ach (acf (acN Y)))
      rw[<-AH,<-AI]
     subst AG;have AJ:L.sz=q:=A2.1;have A4:=(M.drop off).take len (by simp;omega);refine⟨_,⟨λw'=>by simp[Builtin.lenOf,AC],λn I w' hw=>?_,A4⟩⟩;have T:L.cU<w.heap.size:=hh.lt;exact run_firstCells_some (P:=P) w' q n ⟨L.cU,L.base+off*L.sz,none⟩ len cap _ ((A4.take n I).1.trans (by rw[afn,agG I])) (λj u A=>by
      rw[eN,jx (hw L.cU T),fT hh,AJ];rw[aaz]at A;split at A
      ·rw[aaz]at A;split at A
       ·rw[acq,aaz]at A;split at A
        ·rw[acq]at A;rw[aci];simpa using A
        ·cases A
       ·cases A
      ·cases A)
  ·cases E
 ·cases E
section
variable {P:Program}
def eu(P:Program)(u:TypeId):Bool:=
 match P.underlying u with
 |some (.slice _)=>true
 |some .string=>true
 |_=>false
theorem yf{u:TypeId}(h:eu P u=true):(∃e,P.underlying u=some (.slice e))\/P.underlying u=some .string:=by
 unfold eu at h;split at h
 ·rename_i e T;exact .inl ⟨e,T⟩
 ·rename_i T;exact .inr T
 ·cases h
structure D4(P:Program)(w:World)(F:Nat->Prop)(u:TypeId)(sz:Nat)(z:Value)(A:List D)(x:Value)(I:List Value):Prop where
 ag:bY w F sz A I
 kind:(eu P u=true/\Gq P w F sz A x I)\/((∃k,P.underlying u=some (.int k))/\(∃AU,x=.int AU A.length)/\A.length<=4611686018427387904/\z.cells.size=sz/\I=(Builtin.zeroCells z.cells A.length).toList)
theorem GU{n:Nat}(h:n<=4611686018427387904):IntKind.i64.wrap (n:Int)=(n:Int):=IntWalk.i64_in _ (by omega)
theorem u5{z:Array Value}{n:Nat}(h:n*z.size=0):Builtin.zeroCells z n=#[]:=by
 apply Array.eq_empty_of_size_eq_zero;rw[size_zeroCells];exact h
theorem p9{w:World}{t u ty e:TypeId}{i:TypeInfo}{z:Value}(Z:P.underlying t=some (.slice e))(hi:P.info? e=some i)(O:i.zero=some z)
 {ao:Option Addr} {len cap:Nat} {F x I} (H:D4 P w F u i.size z [] x I) (hle:len<=cap):
 (Builtin.append_ #[t,u] ty #[.slice ao len cap,x]).run P w=.ok (.slice ao len cap) w:=by
 rcases H.kind with ⟨hu,H⟩|⟨⟨k,T⟩,⟨AU,rfl⟩,_,A8,rfl⟩
 ·have U:I=[]:=acp (by simpa using H.ag.1);subst U;have BG:=H.len w;have AW:=H.first w (λ_ _=>rfl);simp only[ae8]at BG AW;rcases yf hu with ⟨AX,T⟩|T<;>cases ao<;>
   simp[Builtin.append_,run_underlying Z,run_underlying T,sizeOf,typeInfo,hi,BG,AW,hle,storeCells]
 ·have w0:=GU (n:=0) (by omega);simp only[Int.ofNat_zero,Int.natCast_zero]at w0;cases ao<;>simp[Builtin.append_,run_underlying Z,run_underlying T,sizeOf,typeInfo,hi,w0,asInt,asIntOf,hle,storeCells]
theorem run_append_fits{w:World}{t u ty e:TypeId}{i:TypeInfo}{z:Value}(Z:P.underlying t=some (.slice e))(hi:P.info? e=some i)(O:i.zero=some z)
 {g b len cap:Nat} {F A x I} (H:D4 P w F u i.size z A x I) {cur:Array Value} {e':TypeId} (AL:en w g cur e')
 (A':len+A.length<=cap) (Av:b+len*i.size+I.length<=cur.size) (Bc:A.length*i.bytes<=140737488355328):
 (Builtin.append_ #[t,u] ty #[.slice (some ⟨g,b,none⟩) len cap,x]).run P w=.ok (.slice (some ⟨g,b,none⟩) (len+A.length) cap) (w.setRow g (bf cur.toList (b+len*i.size) I).toArray):=by
 obtain⟨Bd,AL,Be⟩:=AL;have AY:=ja (P:=P) g (b+len*i.size) e' Bd I 0 cur w AL Be (by simpa using Av) (λx AA=>nq (H.ag.2.1 x AA));simp only[afA]at AY;rw[cH _ _ _ (by simpa using Av)];rcases H.kind with ⟨hu,H⟩|⟨⟨k,T⟩,⟨AU,rfl⟩,Aw,A8,rfl⟩
 ·have AW:=H.first w (λ_ _=>rfl);rcases yf hu with ⟨AX,T⟩|T<;>simp[Builtin.append_,run_underlying Z,run_underlying T,sizeOf,typeInfo,hi,H.len,A',AW,eN,AY]
 ·have wn:=GU Aw;have A1:¬((A.length:Int)<0):=by omega
  have A5:¬(281474976710656<(A.length:Int)*(i.bytes:Int)):=by
   have:(A.length:Int)*(i.bytes:Int)=((A.length*i.bytes:Nat):Int):=by simp
   rw[this];omega
  by_cases A2:A.length*i.size=0
  ·have Ax:=u5 (z:=z.cells) (n:=A.length) (by rw[A8];exact A2);rw[Ax]at AY⊢;simp only[Array.toList_empty]at AY;simp[Builtin.append_,run_underlying Z,run_underlying T,sizeOf,typeInfo,hi,wn,asInt,asIntOf,A1,A5,A2,A',eN,AY]
  ·simp[Builtin.append_,run_underlying Z,run_underlying T,sizeOf,typeInfo,zeroValue,hi,O,wn,asInt,asIntOf,A1,A5,A2,A',eN,AY]
theorem sf{w:World}{t u ty e:TypeId}{i:TypeInfo}{z:Value}(Z:P.underlying t=some (.slice e))(hi:P.info? e=some i)(O:i.zero=some z)
 {ao:Option Addr} {len cap:Nat} {F A x I} (H:D4 P w F u i.size z A x I) (A3:List Value)
 (hold:∀w',w'.heap=w.heap->(Builtin.firstCells i.size len (.slice ao len cap)).run P w'=.ok A3.toArray w')
 (A':cap<len+A.length) (CE:len+A.length<=9223372036854775807) (Av:Builtin.nextslicecap (len+A.length) cap*i.bytes<=281474976710656) (Bc:A.length*i.bytes<=140737488355328):
 (Builtin.append_ #[t,u] ty #[.slice ao len cap,x]).run P w=
  .ok (.slice (some ⟨w.heap.size,0,none⟩) (len+A.length) (grownCap w (len+A.length) cap e))
   (w.drew.alloc (.cells (A3.toArray++I.toArray++Builtin.zeroCells z.cells (grownCap w (len+A.length) cap e-(len+A.length))) e)):=by
 have U:¬(len+A.length<=cap):=by omega
 have Ay:¬(9223372036854775807<((len:Int)+(A.length:Int))):=by omega
 have Az:¬(281474976710656<Builtin.nextslicecap (len+A.length) cap*i.bytes):=by omega
 have B':=hold w.drew rfl;rcases H.kind with ⟨hu,H⟩|⟨⟨k,T⟩,⟨AU,rfl⟩,Aw,A8,rfl⟩
 ·have AW:=H.first w.drew (λ_ _=>rfl);rcases yf hu with ⟨AX,T⟩|T<;>
   (simp[Builtin.append_,run_underlying Z,run_underlying T,sizeOf,typeInfo,zeroValue,hi,O,H.len,U,Ay,Az,Question.forced,AW,B',gH,grownCap]
    congr 2;apply Array.ext';simp[afI])
 ·have wn:=GU Aw;have A1:¬((A.length:Int)<0):=by omega
  have A5:¬(281474976710656<(A.length:Int)*(i.bytes:Int)):=by
   have:(A.length:Int)*(i.bytes:Int)=((A.length*i.bytes:Nat):Int):=by simp
   rw[this];omega
  by_cases A2:A.length*i.size=0
  ·have Ax:=u5 (z:=z.cells) (n:=A.length) (by rw[A8];exact A2);rw[Ax];simp[Builtin.append_,run_underlying Z,run_underlying T,sizeOf,typeInfo,zeroValue,hi,O,wn,asInt,asIntOf,A1,A5,A2,U,Ay,Az,Question.forced,B',gH,grownCap]
  ·simp[Builtin.append_,run_underlying Z,run_underlying T,sizeOf,typeInfo,zeroValue,hi,O,wn,asInt,asIntOf,A1,A5,A2,U,Ay,Az,Question.forced,B',gH,grownCap]
end
theorem qK{z:Array Value}{n:Nat}(h:∀v∈z,cd v=true):∀v∈Builtin.zeroCells z n,cd v=true:=by
 intro v V;simp only[Builtin.zeroCells,Array.mem_map,Array.mem_range]at V;obtain⟨i,hi,rfl⟩:=V;have BH:0<z.size:=by
  rcases akx z.size with A2|A2
  ·simp[A2]at hi
  ·exact A2
 have B0:i%z.size<z.size:=Nat.mod_lt _ BH;rw[getElem!_pos z _ B0];exact h _ (by simp)
theorem aaI{P:Program}{t:TypeId}{k}(h:tk P t=.int k):P.underlying t=some (.int k):=by
 unfold tk at h;split at h<;>simp_all
def Ot(M:D):AV->Option (Bool×List D)
 | .d (.int _ n)=>some (decide (0<=n)&&decide (n<=4611686018427387904),List.replicate n.toNat M)
 |_=>none
def Vm(b:Bool):Option (Bool×List D)->Option (Bool×List D)
 |some (c,A)=>some (c&&b,A)
 |none=>none
def yg(P:Program)(m:Mem)(sz:Nat)(M:D)(u:TypeId)(x:AV):Option (Bool×List D):=
 match tk P u with
 | .int _=>Ot M x
 |_=>Vm (eu P u) (gk m sz x)
theorem bY.ahh{w:World}{F:Nat->Prop}{z:Array Value}{sz:Nat}{M:D}(AK:∀v∈z,cd v=true)(A8:z.size=sz)(T:M.size=sz)(V:∃v,aJ w F M v/\v.cells=z)(n:Nat):
 bY w F sz (List.replicate n M) (Builtin.zeroCells z n).toList:=by
 refine⟨by simp[size_zeroCells,A8],λv V=>qK AK v (by simpa using V),λd Bf=>by rw[(List.mem_replicate.1 Bf).2];exact T,λi d hi=>?_⟩;obtain⟨BI,rfl⟩:=aaf.1 hi;obtain⟨v,A1,A5⟩:=V;refine⟨v,by simpa using A1,λj c N=>?_⟩;have B1:j<z.size:=by rw[<-A5];exact (acw.1 N).1
 simp at BI;have B0:i*sz+j<n*z.size:=by
  rw[A8];have:i*sz+sz<=n*sz:=by rw[<-afM];exact aaC _ BI
  omega
 simp only[Builtin.zeroCells,afw,Array.getElem?_map,Array.getElem?_range];rw[aap B0];simp only[afJ];have e:(i*sz+j)%z.size=j:=by rw[<-A8,Nat.mul_comm,Nat.mul_add_mod,Nat.mod_eq_of_lt B1]
 rw[e,getElem!_pos z j B1,<-N,A5];simp[B1]
theorem KA{P:Program}{S:St}{φ G w}(hm:a8 φ G S.mem w){u:TypeId}{i:TypeInfo}{z:Value}{M:D}(AK:∀v∈z.cells,cd v=true)(A8:z.cells.size=i.size)(Ao:M.size=i.size)(Bg:∃v,aJ w (Fo G φ S.mem) M v/\v.cells=z.cells)
 {x:AV} {v:Value} (AA:az φ w (Fo G φ S.mem) x v) {c A} (H:yg P S.mem i.size M u x=some (c,A)) (AC:c=true) (B2:∀d∈A,d.size=i.size):
 ∃I,D4 P w (Fo G φ S.mem) u i.size z A v I:=by
 unfold yg at H;split at H
 ·rename_i k AD;unfold Ot at H;split at H
  ·rename_i AU n;cases H;simp only[Ds,aam]at AC;cases AA with
   |d _ _ AA=>
    cases AA;have U:((List.replicate n.toNat M).length:Int)=n:=by simp;omega
    refine⟨_,bY.ahh AK A8 Ao Bg n.toNat,.inr ⟨⟨k,aaI AD⟩,⟨AU,by rw[U]⟩,by simp;omega,A8,by simp⟩⟩
  ·cases H
 ·rename_i AD;cases J:gk S.mem i.size x with
  |none=>rw[J]at H;cases H
  |some y=>
   obtain⟨CF,CG⟩:=y;rw[J]at H;cases H;simp only[Ds]at AC;obtain⟨I,U⟩:=GR (P:=P) hm AA J AC.1 B2;exact⟨I,U.ag,.inl ⟨AC.2,U⟩⟩
def vQ(P:Program)(m:Mem)(u:TypeId)(sz AM:Nat)(M:D)(s x:AV):cP:=
 match s,x with
 | .vec k ak off len,.vec BJ BK 0 1=>match Mem.get m k,Mem.get m BJ with
  |some ⟨_,v,.vv ag none⟩,some ⟨_,BL,.box [.lit (.slice none 0 0)]⟩=>
   .cG (eu P u=true/\BL=BK/\v=ak/\sz=1/\M.size=1/\off+len<=ag.length/\(len+1)*AM<=140737488355328/\len+1<=4611686018427387904) (.vec k (ak+1) 0 (len+1)) ⟨k,ak+1,.vv ((ag.drop off).take len++[[]]) none⟩
  |_,_=>.no
 |_,_=>.no
theorem GW{φ φ':bG}{w w':World}{F F':Nat->Prop}{L:Loc}{ag:List (List D)}(h:jO φ w F L ag none){off len:Nat}(hle:off+len<=ag.length)
 (L':Loc) (O:L'.sz=1) (H:L'.cC=(L.cC.drop off).take len++[none]) (B3:len+1<=L'.cap) (E:∀b,some b∈L.cC->b≠L'.cU) {AZ:Array Value} {BM:TypeId} (J:en w' L'.cU AZ BM) (B2:AZ.size=L'.base+L'.cap) (A1:∀v∈AZ,cd v=true)
 (hold:∀i,i<len->∃(arr:Array Value)(elem:TypeId),0<L.cap/\en w L.cU arr elem/\AZ[L'.base+i]?=arr[L.base+off+i]?) (Ae:AZ[L'.base+len]?=some (.slice none 0 0))
 (T:∀d u,aJ w F d u->aJ w' F' d u) (hw:∀b,some b∈L.cC->w'.heap[b]?=w.heap[b]?):jO φ' w' F' L' ((ag.drop off).take len++[[]]) none:=by
 obtain⟨⟨g1,g2,g3⟩,g4,g5,g6⟩:=h;have BN:((ag.drop off).take len).length=len:=by simp;omega
 have BO:((L.cC.drop off).take len).length=len:=by simp;omega
 have Bh:∀b,some b∈L'.cC->some b∈L.cC:=by
  intro b E;rw[H]at E;rcases abT.1 E with E|E
  ·exact ach (acf E)
  ·simp at E
 have BP:∀(i b:Nat),L'.cC[i]?=some (some b)->i<len/\L.cC[off+i]?=some (some b):=by
  intro i b E;rw[H]at E;by_cases hi:i<len
  ·rw[aaq (by omega),aaz,aap hi,acq]at E;exact⟨hi,E⟩
  ·rw[aaF (by omega),BO]at E;cases BQ:i-len with
   |zero=>rw[BQ]at E;simp at E
   |succ n=>rw[BQ]at E;simp at E
 refine⟨⟨O,by simp;omega,by rw[H];simp;omega⟩,λi j b hi N=>?_,λb Bi=>⟨by omega,E b (Bh b Bi)⟩,λ_=>?_⟩
 ·have A5:=g4 (off+i) (off+j) b (BP i b hi).2 (BP j b N).2;omega
 ·refine⟨AZ,BM,J,B2,A1,λi xs o hi A9=>?_,λx AA=>by cases AA⟩;by_cases B4:i<len
  ·rw[aaq (by omega),aaz,aap B4,acq]at hi;rw[H,aaq (by omega),aaz,aap B4,acq]at A9;obtain⟨arr,elem,A4,Bj,hold⟩:=hold i B4;obtain⟨Bk,CH,q1,q2,q3,Bl,_⟩:=g6 A4;have Bm:Bk=arr:=by
    obtain⟨f1,Bn,_⟩:=q1;obtain⟨f2,AX,_⟩:=Bj;rw[Bn]at AX;simp only[aax,Obj.cells.injEq]at AX;exact AX.1
   subst Bm;rw[hold,aci];exact (Bl (off+i) xs o hi A9).mono (λd u _ Bo=>T d u Bo) (λb e=>hw b (by subst e;exact aao A9))
  ·have Bp:i=len:=by
    have:=(aaf.1 hi).1;simp only[ab0,acY,BN]at this;omega
   subst Bp;rw[aaF (by omega),BN]at hi;rw[H,aaF (by omega),BO]at A9;simp at hi A9;subst hi;subst A9;exact⟨rfl,none,Ae⟩
theorem aaJ(P:Program)(S:St)(o:Oper)(s x:Operand)(t u:TypeId)(A9:o.op=.call {callee:=.builtin .append,args:=#[s,x],argTypes:=#[t,u]})
 (H:(S.aq s).1=true) (AA:(S.aq x).1=true) {e:TypeId} (Z:P.underlying t=some (.slice e)) {i:TypeInfo} {z:Value} (hi:P.info? e=some i) (O:i.zero=some z) {M:D} (A_:z.cells.size=M.size) (AK:∀v∈z.cells,cd v=true):
 aD P S o (vQ P S.mem u i.size i.bytes M (S.aq s).2 (S.aq x).2):=by
 have AE:∀(a:Act)(w w':World)(v:Value),(Builtin.append_ #[t,u] o.type #[a.eval s,a.eval x]).run P w=.ok v w'->(execOp a.eval o).run P w=.ok (.value v) w':=by
  intro a w w' v h;simp[execOp,A9,resolve,invoke,builtin,h]
 unfold vQ;split
 ·rename_i k ak off len BJ BK Af Ag;split
  ·rename_i key v ag CI BL AL Bq;refine aD.qI ?_;rintro ⟨Ap,rfl,rfl,Aa,A8,hle,E,AQ⟩ φ G a w J;obtain⟨hm,AD,L,A4,A0,A6⟩:=J.mem.get AL;simp only at AD A0 A6;subst AD;obtain⟨CJ,BR,B5,Br,BS,⟨Bs,Bt,CK⟩,Aq,CL,BT,Bu,_,Bv⟩:=J.mem.get Bq;simp only at BR BS;subst BR;have V:=J.aq s H;have B6:=J.aq x AA;rw[Af]at V;rw[Ag]at B6;have Bw:Aq[0]?=some (.slice none 0 0):=by
    have A2:0<Aq.size:=by rw[Bu];simp
    have:=Bv 0 _ Aq[0] rfl (by simp[A2]);generalize Y:Aq[0]=q at this;cases this;simp[A2,Y]
   generalize hex:a.eval x=CM at B6;cases B6 with
   |vec _ _ _ _ _ L' AN _ h _=>
    rw[Br]at AN;cases AN;obtain⟨CN,BU,rfl,CO,Bx⟩:=h BS.symm;clear h;obtain⟨rfl,_⟩:=Bx (by omega);have A7:D4 P w (Fo G φ S.mem) u i.size z [.list []] (.slice (some ⟨B5.cU,B5.base+0*B5.sz,none⟩) 1 BU) [.slice none 0 0]:=by
     have Ah:bY w (Fo G φ S.mem) i.size [.list []] [.slice none 0 0]:=by
      refine⟨by simp[Aa],by simp[cd],by simp[Aa,D.size],λn d U=>?_⟩;cases n with
      |zero=>simp at U;subst U;exact⟨.slice none 0 0,.nil none 0 (λ_=>rfl),λj c N=>by simpa [Value.cells]using N⟩
      |succ n=>simp at U
     refine⟨Ah,.inl ⟨Ap,λw'=>by simp[Builtin.lenOf],λn U w' Ab=>?_,Ah⟩⟩;refine run_firstCells_some (P:=P) w' i.size n _ 1 BU _ (by have:n<=1:=U;simp[Aa];omega) (λj c N=>?_);rw[eN,jx (Ab _ BT.lt),fT BT,Bs,Bt];rw[aaz]at N;split at N
     ·cases j with
      |zero=>simp at N;subst N;simpa using Bw
      |succ j=>simp at N
     ·cases N
    generalize AB:a.eval s=BV at V;cases V with
    |vec _ _ _ _ _ L' AN _ h _=>
     rw[A4]at AN;cases AN;obtain⟨ao,cap,rfl,BW,Ac⟩:=h A0.symm;clear h;have BX:∀b,some b∈L.cC->b<w.heap.size:=λb E=>J.mem.Cg ⟨_,hm,L,A4,.inr E⟩;have By:∀b,some b∈(L.cC.drop off).take len++[none]->some b∈L.cC:=by
      intro b E;rcases abT.1 E with E|E
      ·exact ach (acf E)
      ·simp at E
     have grow:∀(A3:List Value),A3.length=len->(∀q∈A3,cd q=true)->(∀n,n<len->∃(arr:Array Value)(elem:TypeId),0<L.cap/\en w L.cU arr elem/\A3[n]?=arr[L.base+off+n]?)->
      (∀w',w'.heap=w.heap->(Builtin.firstCells i.size len (.slice ao len cap)).run P w'=.ok A3.toArray w')->cap<len+1->
      ∃vv w' φ',Cj P o a w vv w'/\az φ' w' (Fo G φ' (Mem.set S.mem ⟨key,v+1,.vv ((ag.drop off).take len++[[]]) none⟩)) (.vec key (v+1) 0 (len+1)) vv/\
       a8 φ' G (Mem.set S.mem ⟨key,v+1,.vv ((ag.drop off).take len++[[]]) none⟩) w'/\aP φ S.mem w φ' (Mem.set S.mem ⟨key,v+1,.vv ((ag.drop off).take len++[[]]) none⟩) w'/\∀k,k≠key->φ' k=φ k:=by
      intro A3 Ai Bz hold C' A';have B7:=grownCap_ge w (len+1) cap e;have C0:z.cells.size=1:=by rw[A_];exact A8
      have Ar:=sf (P:=P) (ty:=o.type) Z hi O A7 A3 C' (by simpa using A') (by simp;omega) (growslice_fits (by simpa using A') (by simpa using E)) (by simp;have:=aaC i.bytes (akz 1 len);omega);simp only[acY]at Ar;obtain⟨φ',AF,AG,AH,AI⟩:=J.mem.Rk (e:=⟨key,v,.vv ag none⟩) hm A4 A0 w.drew rfl rfl rfl rfl
       (A3.toArray++[Value.slice none 0 0].toArray++Builtin.zeroCells z.cells (grownCap w (len+1) cap e-(len+1))) e (.vv ((ag.drop off).take len++[[]]) none)
       ⟨v+1,w.heap.size,1,grownCap w (len+1) cap e,0,(L.cC.drop off).take len++[none]⟩ rfl
       (λb E=>by
        rcases E with ⟨_,E⟩|E
        ·exact .inr E
        ·exact .inl (.inr (By b E))) (λφ' As B8 AR Ae C1=>by
       refine GW A6 hle _ rfl rfl (by simp only;omega) (λb E=>by have:=BX b E;simp only;omega) (.new Ae) ?_ ?_ ?_ ?_ AR (λb E=>C1 b (BX b E))
       ·simp only[Array.size_append,acK,Ai,acY,size_zeroCells,C0];omega
       ·intro q Y;simp only[Array.mem_append]at Y;rcases Y with (Y|Y)|Y
        ·exact Bz q (by simpa using Y)
        ·simp at Y;subst Y;rfl
        ·exact qK AK q Y
       ·intro n U;obtain⟨arr,elem,A1,A5,Aj⟩:=hold n U;refine⟨arr,elem,A1,A5,?_⟩;rw[<-Aj];simp only[ac3];rw[afG (by simp;omega),afG (by simp;omega),ac6]
       ·simp only[ac3];rw[afG (by simp;omega),Array.getElem?_append_right (by simp;omega)];simp[Ai])
      refine⟨_,_,φ',.inl (AE a w _ _ (by rw[AB,hex];exact Ar)),?_,AF,AG,AI⟩;exact .vec key (v+1) 0 _ _ _ AH (aai _) (λ_=>⟨_,_,rfl,B7,λ_=>⟨by simp,by simp⟩⟩) rfl
     by_cases Ak:0<L.cap
     ·obtain⟨arr,elem,hh,At,Ad,_,_⟩:=A6.2.2.2 Ak;have BY:∀b,some b∈L.cC->b≠L.cU:=λb E=>(A6.2.2.1 b E).2;have CP:∀b,some b∈L.cC->ay.cD L (.vv ag none) b:=λb E=>.inr E;have C2:∀b,some b∈(L.cC.drop off).take len++[none]->some b∈L.cC:=by
       intro b E;rcases abT.1 E with E|E
       ·exact ach (acf E)
       ·simp at E
      by_cases A':len+[D.list []].length<=cap
      ·simp only[acY]at A';obtain⟨rfl,B9⟩:=Ac (by omega);have AO:L.base+off*L.sz+len*i.size+[Value.slice none 0 0].length<=arr.size:=by rw[At,A6.1.1,Aa];simp;omega
       have AS:=run_append_fits (P:=P) (ty:=o.type) Z hi O A7 hh (by simpa using A') AO (by simp;have:=aaC i.bytes (akz 1 len);omega);have BZ:=AE a w _ _ (by rw[AB,hex];exact AS);rw[A6.1.1,Aa,akv,akv]at BZ AO;have Al:L.base+off+len+[Value.slice none 0 0].length<=arr.toList.length:=by simpa using AO
       obtain⟨φ',AF,AG,AH,AI⟩:=J.mem.GN (e:=⟨key,v,.vv ag none⟩) hm A4 A0 (b0:=L.cU) (.inl ⟨Ak,rfl⟩) (bf arr.toList (L.base+off+len) [Value.slice none 0 0]).toArray ⟨v+1,L.cU,1,L.cap-off,L.base+off,(L.cC.drop off).take len++[none]⟩ (akw _) (λhh=>by simp only at A0 hh;omega) (.vv ((ag.drop off).take len++[[]]) none)
        (λb E=>by
         rcases E with ⟨_,E⟩|E
         ·exact .inl ⟨Ak,E⟩
         ·exact .inr (C2 b E)) (λφ' As B8 AR=>by
        refine GW A6 hle _ rfl rfl (by simp only;omega) BY (hh.setRow _ (by rw[acK,bI _ _ _ Al];simp)) ?_ ?_ ?_ ?_ AR ?_
        ·rw[acK,bI _ _ _ Al];simp only[abZ,At];omega
        ·intro q Y;rcases jW Al (by simpa using Y)with Y|Y
         ·exact Ad q (by simpa using Y)
         ·simp at Y;subst Y;rfl
        ·intro n U;refine⟨arr,elem,Ak,hh,?_⟩;simp only
         rw[ac6,fU _ _ _ Al,aap (by omega)];simp
        ·simp only
         rw[ac6,fU _ _ _ Al,aah (by omega),aap (by simp)];simp
        ·intro b E;exact m6 w L.cU b _ (BY b E))
       refine⟨_,_,φ',.inl BZ,?_,AF,AG,AI⟩;exact .vec key (v+1) 0 _ _ _ AH (aai _) (λ_=>⟨_,_,rfl,by simpa using A',λ_=>⟨by simp,by simp only;omega⟩⟩) rfl
      ·have C3:cap<len+1:=by simpa using A'
       have BA:=A6.1.2.1;simp only[Option.toList_none,ae8,afA]at BA;refine grow ((arr.toList.drop (L.base+off)).take len) (by simp;omega) (λq Y=>Ad q (by simpa using ach (acf Y))) (λn U=>⟨arr,elem,Ak,hh,?_⟩) (λw' Ab=>?_) C3
       ·rw[aaz,aap U,acq];simp
       ·by_cases AT:len=0
        ·subst AT;cases ao with
         |none=>simp[Builtin.firstCells]
         |some a=>simp[Builtin.firstCells,loadCells,loadCellsFrom]
        ·obtain⟨rfl,B9⟩:=Ac (by omega);refine run_firstCells_some (P:=P) w' i.size len _ len cap _ (by simp[Aa];omega) (λj c N=>?_);rw[eN,jx (w:=w) (w':=w') (by rw[Ab]),fT hh,A6.1.1,akv];rw[aaz]at N;split at N
         ·rw[acq]at N;simpa using N
         ·cases N
     ·have BA:=A6.1.2.1;simp only[Option.toList_none,ae8,afA]at BA;have AT:len=0:=by omega
      have C4:cap=0:=by
       rcases akx cap with A2|A2
       ·exact A2
       ·have:=(Ac A2).2;omega
      subst AT;subst C4;refine grow [] rfl (by simp) (λn U=>by omega) (λw' Ab=>?_) (by omega);cases ao with
      |none=>simp[Builtin.firstCells]
      |some a=>simp[Builtin.firstCells,loadCells,loadCellsFrom]
  ·trivial
 ·trivial
def qL(P:Program)(m:Mem)(BB:Nat)(t:TypeId)(u:TypeId)(s x:AV):cP:=
 match tk P t with
 | .slice e=>match eM P e,yd P e,lD P e with
  |some sz,some AM,some M=>match yg P m sz M u x with
   |some (c,A)=>match s with
    | .vec k ak off len=>match Mem.get m k with
     |some ⟨_,v,.vec B_ ag⟩=>.cG (c/\M.size=sz/\v=ak/\off+len<=ag.length/\B_=sz/\(∀d∈A,d.size=sz)/\(len+A.length)*AM<=140737488355328/\len+A.length<=4611686018427387904)
      (.vec k (ak+1) 0 (len+A.length)) ⟨k,ak+1,.vec sz ((ag.drop off).take len++A)⟩
     |_=>.no
    | .lit (.slice none 0 0)=>match Mem.get m BB with
     |some ⟨_,v,_⟩=>.cG (c/\M.size=sz/\(∀d∈A,d.size=sz)/\A.length*AM<=140737488355328/\A.length<=4611686018427387904)
      (.vec BB (v+1) 0 A.length) ⟨BB,v+1,.vec sz A⟩
     |_=>.no
    |_=>.no
   |none=>vQ P m u sz AM M s x
  |_,_,_=>.no
 |_=>.no
theorem ff{P:Program}{t e:TypeId}(h:tk P t=.slice e):P.underlying t=some (.slice e):=by
 unfold tk at h;split at h<;>simp_all
theorem KB{P:Program}{e:TypeId}{sz AM:Nat}{M:D}(A1:eM P e=some sz)(A5:yd P e=some AM)(Aj:lD P e=some M):
 ∃i z,P.info? e=some i/\i.size=sz/\i.bytes=AM/\i.zero=some z/\z.cells.size=M.size/\(∀v∈z.cells,cd v=true)/\∀w' F,∃v,aJ w' F M v/\v.cells=z.cells:=by
 unfold eM at A1;unfold yd at A5;cases hi:P.info? e with
 |none=>simp[hi]at A1
 |some i=>
  simp[hi]at A1 A5;obtain⟨z,AE,C5,C6,C7⟩:=Cn Aj default;cases O:i.zero with
  |none=>simp[zeroValue,typeInfo,hi,O,unsupported]at AE
  |some C8=>
   simp[zeroValue,typeInfo,hi,O]at AE;subst AE;exact⟨i,C8,rfl,A1,A5,O,C5,C6,C7⟩
theorem ab9(P:Program)(S:St)(o:Oper)(s x:Operand)(t u:TypeId)(A9:o.op=.call {callee:=.builtin .append,args:=#[s,x],argTypes:=#[t,u]})
 (H:(S.aq s).1=true) (AA:(S.aq x).1=true):aD P S o (qL P S.mem (keyOf o) t u (S.aq s).2 (S.aq x).2):=by
 have AE:∀(a:Act)(w w':World)(v:Value),(Builtin.append_ #[t,u] o.type #[a.eval s,a.eval x]).run P w=.ok v w'->(execOp a.eval o).run P w=.ok (.value v) w':=by
  intro a w w' v h;simp[execOp,A9,resolve,invoke,builtin,h]
 unfold qL;split
 ·rename_i e C9;have Z:=ff C9;split
  ·rename_i sz AM M A1 A5 Aj;obtain⟨i,z,hi,rfl,rfl,O,A_,AK,Ao⟩:=KB A1 A5 Aj;split
   ·rename_i c A Ap
    --CQ CS a new block
    have grow:∀{φ G}{a:Act}{w:World}(J:Rel φ G S a w){I:List Value}(A7:D4 P w (Fo G φ S.mem) u i.size z A (a.eval x) I){key ak:Nat}{cont:ay}(hm:(⟨key,ak,cont⟩:cg)∈S.mem){L:Loc}(A4:φ key=some L)(A0:L.ak=ak)
     (ao:Option Addr) (len cap:Nat) (AB:a.eval s=.slice ao len cap) (A3:List Value) (AP:List D) (Ba:bY w (Fo G φ S.mem) i.size AP A3) (Ai:AP.length=len)
     (hold:∀w',w'.heap=w.heap->(Builtin.firstCells i.size len (.slice ao len cap)).run P w'=.ok A3.toArray w')
     (A':cap<len+A.length) (E:(len+A.length)*i.bytes<=140737488355328) (AQ:len+A.length<=4611686018427387904) (AJ:M.size=i.size),
     ∃v w' φ',Cj P o a w v w'/\az φ' w' (Fo G φ' (Mem.set S.mem ⟨key,ak+1,.vec i.size (AP++A)⟩)) (.vec key (ak+1) 0 (len+A.length)) v/\
      a8 φ' G (Mem.set S.mem ⟨key,ak+1,.vec i.size (AP++A)⟩) w'/\aP φ S.mem w φ' (Mem.set S.mem ⟨key,ak+1,.vec i.size (AP++A)⟩) w'/\∀k,k≠key->φ' k=φ k:=by
     intro φ G a w J I A7 key ak cont hm L A4 A0 ao len cap AB A3 AP Ba Ai hold A' E AQ AJ;have B7:=grownCap_ge w (len+A.length) cap e;have Ar:=sf (P:=P) (ty:=o.type) Z hi O A7 A3 hold A' (by omega) (growslice_fits A' E) (by have:=aaC i.bytes (akz A.length len);omega);have Ah:bY w (Fo G φ S.mem) i.size (AP++A) (A3++I):=Ba.append A7.ag;obtain⟨φ',AF,AG,AH,AI⟩:=J.mem.fresh (e:=⟨key,ak,cont⟩) hm A4 A0 w.drew rfl rfl rfl rfl
      (A3.toArray++I.toArray++Builtin.zeroCells z.cells (grownCap w (len+A.length) cap e-(len+A.length))) e i.size (grownCap w (len+A.length) cap e) (.vec i.size (AP++A)) (λ_ E=>E.2) (λφ' hle B8 AR Ae=>by
       refine um (cs:=A3++I) (rest:=(Builtin.zeroCells z.cells (grownCap w (len+A.length) cap e-(len+A.length))).toList) (elem:=e) rfl rfl (Ah.mono AR) ?_ (by simp;omega) ?_ (λ_=>?_)
       ·intro v V;exact qK AK v (by simpa using V)
       ·have A8:z.cells.size=i.size:=by
         rw[A_];exact AJ
        rw[ab0,Ah.1];simp only[abZ,size_zeroCells,A8,ab0,Ai,<-acU];congr 1;omega
       ·refine en.new ?_;rw[Ae];congr 2;apply Array.ext';simp)
     refine⟨_,_,φ',.inl (AE a w _ _ (by rw[AB];exact Ar)),?_,AF,AG,AI⟩;exact .vec key (ak+1) 0 _ _ _ AH (aai _) (λ_=>⟨_,_,rfl,B7,λ_=>⟨by simp,by simp⟩⟩) rfl
    split
    ·rename_i k ak off len Af;split
     ·rename_i key v B_ ag AL;refine aD.qI ?_;rintro ⟨AC,AJ,rfl,hle,rfl,BC,E,AQ⟩ φ G a w J;obtain⟨hm,AD,L,A4,A0,A6⟩:=J.mem.get AL;simp only at AD;subst AD;have V:=J.aq s H;have Ag:=J.aq x AA;rw[Af]at V;obtain⟨I,A7⟩:=KA (P:=P) J.mem AK (by rw[A_];exact AJ) AJ (Ao _ _) Ag Ap AC BC;generalize AB:a.eval s=BV at V;cases V with
      |vec _ _ _ _ _ L' AN _ h _=>
       rw[A4]at AN;cases AN;obtain⟨ao,cap,rfl,BW,Ac⟩:=h A0.symm;clear h;have BD:L.sz=i.size:=A6.1;have BE:((ag.drop off).take len).length=len:=by simp;omega
       by_cases A':len+A.length<=cap
       ·by_cases B3:cap=0
        · --nothing CT nothing
         have Au:A=[]:=acp (by omega);have AT:len=0:=by omega
         subst Au;subst AT;have AS:=p9 (P:=P) (ty:=o.type) (ao:=ao) Z hi O A7 BW;obtain⟨φ',AF,AG,AH,AI⟩:=J.mem.cG (e':=⟨key,v+1,.vec i.size ((ag.drop off).take 0++[])⟩) hm A4 rfl (L':={L with ak:=v+1}) (by simp only at A0;simp;omega) (λhh=>by simp only at A0 hh;omega) rfl
          (w':=w) (λ_ _ _=>rfl) (aai _) (λ_ A9=>.inl A9) rfl rfl rfl (λφ' CA As=>by
           obtain⟨g1,g2,g3,g4⟩:=A6;refine⟨g1,by simp,by simp,λAC=>?_⟩;obtain⟨arr,elem,f1,f2,f3,f4⟩:=g4 AC;exact⟨arr,elem,f1,f2,f3,by simp⟩)
         refine⟨_,w,φ',.inl (AE a w w _ (by rw[AB];exact AS)),?_,AF,AG,AI⟩;exact .vec key (v+1) 0 _ _ _ AH (aai _) (λ_=>⟨_,_,rfl,by simp,λh=>by omega⟩) rfl
        ·obtain⟨rfl,B9⟩:=Ac (by omega);obtain⟨arr,elem,hh,At,Ad,BF⟩:=mL A6 (by omega);obtain⟨B,Bb⟩:∃B,B=L.base+off*i.size:=⟨_,rfl⟩;have An:=((BF.drop off).take len (by simp;omega));have CB:(((arr.toList.drop L.base).take (ag.length*i.size)).drop (off*i.size)).take (len*i.size)=(arr.toList.drop B).take (len*i.size):=by
          have:off*i.size+len*i.size<=ag.length*i.size:=by rw[<-acU];exact aaC _ hle
          rw[List.drop_take,List.take_take,agG (by omega),akG,Bb]
         rw[CB]at An;have CC:=An.append A7.ag;have CD:=A7.ag.1;have CU:len*i.size+I.length<=(L.cap-off)*i.size:=by
          rw[CD,<-acU];exact aaC _ (by omega)
         have CV:off*i.size+(L.cap-off)*i.size=L.cap*i.size:=by rw[<-acU];congr 1;omega
         have AO:B+len*i.size+I.length<=arr.size:=by omega
         rw[BD,<-Bb]at AB;have AS:=run_append_fits (P:=P) (ty:=o.type) Z hi O A7 hh A' AO (by have:=aaC i.bytes (akz A.length len);omega);obtain⟨φ',AF,AG,AH,AI⟩:=J.mem.GN (e:=⟨key,v,.vec i.size ag⟩) hm A4 A0 (b0:=L.cU) ⟨by omega,rfl⟩ (bf arr.toList (B+len*i.size) I).toArray ⟨v+1,L.cU,L.sz,L.cap-off,B,[]⟩ (akw _) (λhh=>by simp only at A0 hh;omega) (.vec i.size ((ag.drop off).take len++A)) (λ_ E=>⟨by omega,E.2⟩) (λφ' As B8 AR=>by
          refine sd (pre:=arr.toList.take B) (cs:=(arr.toList.drop B).take (len*i.size)++I) (rest:=arr.toList.drop (B+len*i.size+I.length)) (elem:=elem) BD (CC.mono AR) ?_ ?_ ?_ (by rw[ab0,BE];simp only;omega) ?_ (λ_=>?_)
          ·simp only[afn,abZ];omega
          ·intro z O;exact Ad z (by simpa using acf O)
          ·intro z O;exact Ad z (by simpa using ach O)
          ·show _=(L.cap-off)*i.size;simp only[ab0,afn,acL,abZ];omega
          ·have e:=hh.setRow (bf arr.toList (B+len*i.size) I).toArray (by show (bf arr.toList _ _).length=_;rw[bI _ _ _ (by simpa using AO)];simp);rw[cH _ _ _ (by simpa using AO),List.take_add]at e;rw[cH _ _ _ (by simpa using AO),List.take_add];simpa [afI]using e)
         refine⟨_,_,φ',.inl (AE a w _ _ (by rw[AB];exact AS)),?_,AF,AG,AI⟩;exact .vec key (v+1) 0 _ _ _ AH (aai _) (λ_=>⟨_,_,rfl,A',λ_=>⟨by simp,by simp only;omega⟩⟩) rfl
       ·by_cases B3:cap=0
        ·subst B3;have AT:len=0:=by omega
         subst AT;have:=grow J A7 hm A4 A0 ao 0 0 AB [] [] (bY.nil ..) rfl (λw' _=>by cases ao<;>simp[Builtin.firstCells,loadCells,loadCellsFrom]) (by omega) E AQ AJ;simpa using this
        ·obtain⟨rfl,B9⟩:=Ac (by omega);obtain⟨arr,elem,hh,At,Ad,BF⟩:=mL A6 (by omega);have An:=((BF.drop off).take len (by simp;omega));exact grow J A7 hm A4 A0 _ len cap AB _ ((ag.drop off).take len) An BE (λw' Ab=>by
          refine run_firstCells_some (P:=P) w' i.size len _ len cap _ (by rw[An.1,BE]) (λj u N=>?_);rw[eN,show w'.cell? ⟨L.cU,L.base+off*L.sz+j,none⟩=w.cell? ⟨L.cU,L.base+off*L.sz+j,none⟩ by simp[World.cell?,Ab],fT hh,BD];rw[aaz]at N;split at N
          ·rw[acq,aaz]at N;split at N
           ·rw[acq]at N;rw[aci];simpa using N
           ·cases N
          ·cases N) (by omega) E AQ AJ
     ·trivial
    ·rename_i Af;split
     ·rename_i key v cont AL;refine aD.qI ?_;rintro ⟨AC,AJ,BC,E,AQ⟩ φ G a w J;obtain⟨hm,AD,L,A4,A0,A6⟩:=J.mem.get AL;simp only at AD A0;subst AD;have V:=J.aq s H;have Ag:=J.aq x AA;rw[Af]at V;obtain⟨I,A7⟩:=KA (P:=P) J.mem AK (by rw[A_];exact AJ) AJ (Ao _ _) Ag Ap AC BC;generalize AB:a.eval s=BV at V;cases V;by_cases Au:A=[]
      ·subst Au;have AS:=p9 (P:=P) (ty:=o.type) (ao:=none) (len:=0) (cap:=0) Z hi O A7 (aai _);obtain⟨φ',AF,AG,AH,AI⟩:=J.mem.cG (e':=⟨keyOf o,v+1,.vec i.size []⟩) hm A4 rfl (L':=⟨v+1,0,i.size,0,0,[]⟩) (by simp only;omega) (λhh=>by simp only at hh;omega) rfl
        (w':=w) (λ_ _ _=>rfl) (aai _) (λ_ A9=>absurd A9.1 (by simp)) rfl rfl rfl (λφ' CA As=>
         ⟨rfl,by simp,by simp,λAC=>by simp at AC⟩)
       refine⟨_,w,φ',.inl (AE a w w _ (by rw[AB];exact AS)),?_,AF,AG,AI⟩;exact .vec _ (v+1) 0 _ _ _ AH (aai _) (λ_=>⟨_,_,rfl,by simp,λh=>by omega⟩) rfl
      ·have BH:0<A.length:=List.length_pos_iff.2 Au;have:=grow J A7 hm A4 A0 none 0 0 AB [] [] (bY.nil ..) rfl (λw' _=>by simp[Builtin.firstCells]) (by omega) (by simpa using E) (by simpa using AQ) AJ;simpa using this
     ·trivial
    ·trivial
   ·exact aaJ P S o s x t u A9 H AA Z hi O A_ AK
  ·trivial
 ·trivial
def vU(P:Program)(m:Mem)(AI:Nat)(t:TypeId)(l c:AV):cP:=
 match tk P t with
 | .slice e=>match eM P e,yd P e,lD P e,l,c,Mem.get m AI with
  |some sz,some AT,some A3,.d (.int .i64 n),.d (.int .i64 AU),some ⟨_,v,_⟩=>
   .cG (n=AU/\0<=n/\n*AT<=140737488355328/\n<=4611686018427387904/\A3.size=sz) (.vec AI (v+1) 0 n.toNat) ⟨AI,v+1,.vec sz (List.replicate n.toNat A3)⟩
  |_,_,_,_,_,_=>.no
 |_=>.no
theorem wrap_small{n:Int}(T:0<=n)(h:n<=4611686018427387904):IntKind.i64.wrap n=n:=IntWalk.i64_in _ (by omega)
theorem Ox(z:Array Value)(n sz:Nat)(N:z.size=sz)(d:D)(A9:d.size=sz)(I:∀v∈z,cd v=true)(w:World)(F:Nat->Prop)(Ai:∃v,aJ w F d v/\v.cells=z):
 bY w F sz (List.replicate n d) ((Array.range (n*sz)).map (z[·%z.size]!)).toList:=by
 obtain⟨v,Y,Aj⟩:=Ai;refine⟨by simp,?_,?_,?_⟩
 ·intro x J;simp only[Array.toList_map,acb]at J;obtain⟨i,hi,rfl⟩:=J;have hi:i<n*sz:=by simpa using hi
  have Ak:0<z.size:=by
   rw[N];rcases akx sz with T|T
   ·simp[T]at hi
   ·exact T
  rw[getElem!_pos z _ (Nat.mod_lt _ Ak)];exact I _ (by simp)
 ·intro x J;rw[List.eq_of_mem_replicate J,A9]
 ·intro i x J;have hi:i<n:=by have:=(aaf.1 J).1;simpa using this
  have Al:x=d:=by rw[List.getElem?_replicate]at J;split at J<;>simp_all
  subst Al;refine⟨v,Y,λj c AJ=>?_⟩;have An:=u4 Y A9 AJ;have Ao:i*sz+j<n*sz:=by
   have:i*sz+sz<=n*sz:=by rw[<-afM];exact aaC _ hi
   omega
  rw[Aj]at AJ;have hm:(i*sz+j)%sz=j:=by rw[Nat.mul_comm,Nat.mul_add_mod];exact Nat.mod_eq_of_lt An
  simp only[Array.toList_map,acj,Array.toList_range,List.getElem?_range Ao,afJ,N,hm];rw[getElem!_pos z j (by omega)];rw[<-AJ];simp[show j<z.size by omega]
theorem run_makeSlice{P:Program}{w:World}{t e:TypeId}{i:TypeInfo}{z:Value}{n:Int}(O:P.underlying t=some (.slice e))(hi:P.info? e=some i)(N:i.zero=some z)
 (T:0<=n) (V:n*i.bytes<=140737488355328) (AA:n<=4611686018427387904):
 (Instr.makeSlice t (.int .i64 n) (.int .i64 n)).run P w=.ok (.slice (some ⟨w.heap.size,0,none⟩) n.toNat n.toNat) (w.alloc (.cells ((Array.range (n.toNat*i.size)).map (z.cells[·%z.cells.size]!)) e)):=by
 have hw:=wrap_small T AA;have I:¬n<0:=by omega
 have AB:¬((i.bytes:Int)*n>281474976710656):=by rw[Int.mul_comm];omega
 have AW:¬(n.toNat*i.bytes>roomBytes):=by
  unfold roomBytes;have:((n.toNat*i.bytes:Nat):Int)=n*i.bytes:=by rw[Int.natCast_mul,Int.toNat_of_nonneg T]
  omega
 by_cases AC:n.toNat*i.size=0
 ·have Ap:n.toNat=0\/i.size=0:=Nat.mul_eq_zero.1 AC;simp[Instr.makeSlice,run_underlying O,asInt,asIntOf,typeInfo,sizeOf,hi,hw,I,AB,askRoom,AC,gH,show Array.range 0=#[]from rfl]
 ·have Ap:¬(n.toNat=0\/i.size=0):=λh=>AC (Nat.mul_eq_zero.2 h);simp[Instr.makeSlice,run_underlying O,asInt,asIntOf,typeInfo,sizeOf,zeroValue,hi,N,hw,I,AB,askRoom,gH];exact λh=>absurd h AC
theorem aaK(P:Program)(S:St)(o:Oper)(t:TypeId)(l c:Operand)(Z:o.op=.makeSlice t l c)(Aq:(S.aq l).1=true)(AK:(S.aq c).1=true):aD P S o (vU P S.mem (keyOf o) t (S.aq l).2 (S.aq c).2):=by
 unfold vU;split
 ·rename_i e AL;have O:=ff AL;split
  ·rename_i sz AT A3 n AU key v cont I AB AW Ar As AM;refine aD.qI ?_;rintro ⟨rfl,T,V,AA,AX⟩ φ G a w M;obtain⟨i,z,hi,rfl,rfl,N,At,Au,Av⟩:=KB I AB AW;obtain⟨hm,A4,L,q,A',A0⟩:=M.mem.get AM;simp only at A4 A';subst A4;have A1:=M.aq l Aq;have AN:=M.aq c AK;rw[Ar]at A1;rw[As]at AN;have Aw:a.eval l=.int .i64 n:=by
    generalize a.eval l=x at A1;cases A1 with|d _ _ h=>cases h;rfl
   have AO:a.eval c=.int .i64 n:=by
    generalize a.eval c=x at AN;cases AN with|d _ _ h=>cases h;rfl
   have Ax:=run_makeSlice (P:=P) (w:=w) O hi N T V AA;obtain⟨φ',A5,A6,AP,A7⟩:=M.mem.fresh (e:=⟨keyOf o,v,cont⟩) hm q A' w rfl rfl rfl rfl
    ((Array.range (n.toNat*i.size)).map (z.cells[·%z.cells.size]!)) e i.size n.toNat (.vec i.size (List.replicate n.toNat A3)) (λ_ V=>V.2) (λφ' hle Ay AY Az=>by
     refine um (cs:=((Array.range (n.toNat*i.size)).map (z.cells[·%z.cells.size]!)).toList) (rest:=[]) (elem:=e) rfl rfl (Ox z.cells n.toNat i.size (by rw[At,AX]) A3 AX Au _ _ (Av _ _)) (by simp) (by simp) (by simp) (λ_=>?_);refine en.new ?_;rw[Az,afl,als])
   refine⟨.slice (some ⟨w.heap.size,0,none⟩) n.toNat n.toNat,_,φ',.inl ?_,?_,A5,A6,A7⟩
   ·simp[execOp,Z,Aw,AO,Ax]
   ·exact .vec _ (v+1) 0 _ _ _ AP (aai _) (λ_=>⟨_,_,rfl,aai _,λ_=>⟨by simp,by simp⟩⟩) rfl
  ·trivial
 ·trivial
def vW(P:Program)(m:Mem)(t:TypeId)(s x:AV):cP:=
 match tk P t with
 | .slice e=>match eM P e with
  |some sz=>match gk m sz x with
   |some (c,A)=>match s with
    | .vec k ak off len=>match Mem.get m k with
     |some ⟨_,v,.vec E ag⟩=>.cG (c/\v=ak/\off+len<=ag.length/\E=sz/\(∀d∈A,d.size=sz))
      (.d (.int .i64 (min A.length len:Nat))) ⟨k,ak,.vec sz (bf ag off (A.take len))⟩
     |_=>.no
    |_=>.no
   |none=>.no
  |none=>.no
 |_=>.no
theorem AG{w F sz}{ag A:List D}{cs H:List Value}{off:Nat}(h:bY w F sz ag cs)(AQ:bY w F sz A H)(hle:off+A.length<=ag.length):
 bY w F sz (bf ag off A) (bf cs (off*sz) H):=by
 have AD:off*sz+H.length<=cs.length:=by rw[h.1,AQ.1,<-acU];exact aaC _ hle
 rw[cH _ _ _ hle,cH _ _ _ AD];have:=((h.take off (by omega)).append AQ).append (h.drop (off+A.length));rw[acU,<-AQ.1]at this;exact this
theorem Gg{α:Type}{cs H:List α}{o n:Nat}(h:o+H.length<=n)(AA:n<=cs.length):bf (cs.take n) o H++cs.drop n=bf cs o H:=by
 rw[cH _ _ _ (by simp;omega),cH _ _ _ (by omega),List.take_take,agG (by omega),afI (List.take _ _++_)];congr 1;rw[List.drop_take];have AO:cs.drop n=(cs.drop (o+H.length)).drop (n-(o+H.length)):=by rw[akG];congr 1;omega
 rw[AO,akA]
theorem GZ{P:Program}{w w':World}{t u ty e:TypeId}{sz:Nat}(O:P.underlying t=some (.slice e))(I:eM P e=some sz){ao:Option Addr}{len cap:Nat}{x:Value}{m:Nat}{H:List Value}
 (AZ:(Builtin.lenOf x).run P w=.ok m w) (A2:(Builtin.firstCells sz (min m len) x).run P w=.ok H.toArray w)
 (U:(match ao with|some a=>storeCells a H|none=>pure ()).run P w=.ok () w'):
 (Builtin.copy_ #[t,u] ty #[.slice ao len cap,x]).run P w=.ok (.int .i64 (min m len:Nat)) w':=by
 have hm:Nat.min m len=min m len:=rfl;cases ao with
 |none=>
  simp only[Sem.run_pure,Result.ok.injEq,true_and]at U;subst U;simp[Builtin.copy_,run_underlying O,AZ,hm,run_sizeOf I,A2,goInt]
 |some a=>
  simp only at U;simp[Builtin.copy_,run_underlying O,AZ,hm,run_sizeOf I,A2,U,goInt]
theorem aaL(P:Program)(S:St)(o:Oper)(s x:Operand)(t u:TypeId)(Z:o.op=.call {callee:=.builtin .copy,args:=#[s,x],argTypes:=#[t,u]})
 (A9:(S.aq s).1=true) (J:(S.aq x).1=true):aD P S o (vW P S.mem t (S.aq s).2 (S.aq x).2):=by
 unfold vW;split
 ·rename_i e AL;have O:=ff AL;split
  ·rename_i sz I;split
   ·rename_i c A B';split
    ·rename_i k ak off len B0;split
     ·rename_i key v E ag AM;refine aD.qI ?_;rintro ⟨AK,rfl,hle,rfl,B1⟩ φ G a w M;obtain⟨hm,A4,L,q,A',A0⟩:=M.mem.get AM;simp only at A4;subst A4;have Y:=M.aq s A9;have B2:=M.aq x J;rw[B0]at Y;obtain⟨H,AE⟩:=GR (P:=P) M.mem B2 B' AK B1;generalize A1:a.eval s=BG at Y;cases Y with
      |vec _ _ _ _ _ L' A_ _ h _=>
       rw[q]at A_;cases A_;obtain⟨ao,cap,rfl,BH,B3⟩:=h A'.symm;clear h;have Aa:L.sz=E:=A0.1;have Ab:min A.length len<=A.length:=Nat.min_le_left _ _;have A2:=AE.Rq (min A.length len) Ab w (λ_ _=>rfl);have Ac:(A.take len).length=min A.length len:=by rw[afn,Nat.min_comm]
       by_cases B4:len=0
       ·subst B4;obtain⟨φ',A5,A6,AP,A7⟩:=M.mem.cG (e':=⟨key,v,.vec E (bf ag off (A.take 0))⟩) hm q rfl (L':=L) (aai _) (λ_=>rfl) A'
         (w':=w) (λ_ _ _=>rfl) (aai _) (λ_ Z=>.inl Z) rfl rfl rfl (λφ' Ad AD=>by
          have e:bf ag off (A.take 0)=ag:=by rw[cH _ _ _ (by simp;omega)];simp
          rw[e];refine A0.mono AD (λ_ _ _=>rfl) (aai _) (λb V=>?_) (λ_ _=>rfl);rintro (B5|⟨y,B6,B7,AF,Ae⟩)
          ·exact .inl B5
          ·right;rcases (Mem.mem_set M.mem.nodup).1 B6 with ⟨rfl,_⟩|⟨B8,Af⟩
           ·subst Ad;simp at AF;subst AF;exact⟨_,hm,L,q,Ae⟩
           ·subst Ad;simp at Af;simp[Af]at AF;exact⟨y,B8,B7,AF,Ae⟩)
        refine⟨_,w,φ',.inl ?_,.d _ _ (.int _ _),A5,A6,A7⟩;have B9:H.take (min A.length 0*E)=[]:=by simp
        rw[B9]at A2;have:=GZ (P:=P) (ty:=o.type) (u:=u) (ao:=ao) (len:=0) (cap:=cap) O I (AE.len w) A2 (w':=w) (by cases ao<;>simp[storeCells]);simp[execOp,Z,resolve,invoke,builtin,A1,this]
       ·obtain⟨rfl,BI⟩:=B3 (by omega);obtain⟨arr,elem,hh,BJ,Ag,BA⟩:=mL A0 (by omega);have AR:bY w (Fo G φ S.mem) E (A.take len) (H.take (min A.length len*E)):=by
         have:=AE.ag.take (min A.length len) Ab;have e:A.take (min A.length len)=A.take len:=by
          rcases Nat.le_total A.length len with h|h
          ·rw[agG h,acI (aai _),acI h]
          ·rw[Nat.min_eq_right h]
         rw[e]at this;exact this
        have Ah:off+(A.take len).length<=ag.length:=by rw[Ac];omega
        have BB:=AG BA AR Ah;have A8:=AR.1;rw[Ac]at A8;have AS:(off+min A.length len)*E<=ag.length*E:=aaC _ (by omega);have BK:ag.length*E<=L.cap*E:=aaC _ A0.2.1;have AH:L.base+off*E+(H.take (min A.length len*E)).length<=arr.toList.length:=by
         rw[acU]at AS;rw[A8];simp only[abZ];omega
        have ⟨BC,BD,BE⟩:=hh;have U:=ja (P:=P) L.cU (L.base+off*E) elem BC (H.take (min A.length len*E)) 0 arr w BD BE (by simpa using AH) (λx J=>nq (AR.2.1 x J));simp only[afA]at U;rw[<-cH _ _ _ AH]at U;have BF:arr.toList.take L.base++(bf ((arr.toList.drop L.base).take (ag.length*E)) (off*E) (H.take (min A.length len*E))++(arr.toList.drop L.base).drop (ag.length*E))=bf arr.toList (L.base+off*E) (H.take (min A.length len*E)):=by
         rw[Gg (by rw[A8,<-acU];exact AS) (by simp only[acL,abZ];omega)];rw[cH _ _ _ (by rw[A8];rw[acU]at AS;simp only[acL,abZ];omega),cH _ _ _ AH,akG,List.take_add];simp only[afI,aci]
        obtain⟨φ',A5,A6,AP,A7⟩:=M.mem.store (e:=⟨key,v,.vec E ag⟩) hm q A' (b0:=L.cU) ⟨by omega,rfl⟩ (bf arr.toList (L.base+off*E) (H.take (min A.length len*E))).toArray v (aai _) (.vec E (bf ag off (A.take len))) (λ_ V=>V) (λφ' AD Ay AY=>by
         refine sd (pre:=arr.toList.take L.base) (cs:=bf ((arr.toList.drop L.base).take (ag.length*E)) (off*E) (H.take (min A.length len*E))) (rest:=(arr.toList.drop L.base).drop (ag.length*E)) (elem:=elem) Aa (BB.mono AY) ?_ ?_ ?_ ?_ ?_ (λ_=>?_)
         ·simp only[afn,abZ];omega
         ·intro z N;exact Ag z (by simpa using acf N)
         ·intro z N;exact Ag z (by simpa using ach (ach N))
         ·rw[bI _ _ _ Ah];exact A0.2.1
         ·show _=L.cap*E;rw[ab0,bI _ _ _ (by rw[A8,<-acU];simp only[afn,acL,abZ];omega),<-ab0,akA];simp only[acL,abZ];omega
         ·rw[BF];exact hh.setRow _ (by show (bf arr.toList _ _).length=_;rw[bI _ _ _ AH];simp))
        refine⟨_,_,φ',.inl ?_,.d _ _ (.int _ _),A5,A6,A7⟩;have:=GZ (P:=P) (ty:=o.type) (u:=u) (ao:=some ⟨L.cU,L.base+off*L.sz,none⟩) (len:=len) (cap:=cap) O I (AE.len w) A2 (by rw[Aa];exact U);simp[execOp,Z,resolve,invoke,builtin,A1,this]
     ·trivial
    ·trivial
   ·trivial
  ·trivial
 ·trivial
theorem ur{P:Program}{s:TypeId}{f n b o:Nat}{w:World}(h:vN P s f=some n):(Instr.fieldAt s (.pointer (some ⟨b,o,none⟩)) f).run P w=.ok (.pointer (some ⟨b,o+n,none⟩)) w:=by
 unfold vN at h;split at h
 ·rename_i AN hu;split at h
  ·rename_i fl AC;split at h
   ·rename_i i hi;split at h
    ·cases h
    ·rename_i AD;simp at h;subst h;have U:(sizeOf fl.type).run P w=.ok i.size w:=run_sizeOf (by simp[eM,hi]);simp[Instr.fieldAt,run_underlying hu,AC,Instr.sureAddr,fieldPlace,U,AD,eN]
   ·cases h
  ·cases h
 ·cases h
def nD(P:Program)(m:Mem)(s:TypeId)(f:Nat)(p:AV):cP:=
 match vN P s f with
 |some n=>match p with
  | .ptr k ak off=>match Mem.get m k with
   |some ⟨_,v,_⟩=>.val (v=ak) (.ptr k ak (off+n))
   |none=>.no
  | .cn k ak i j=>match Mem.get m k with
   |some ⟨_,v,_⟩=>.val (v=ak) (.cn k ak i (j+n))
   |none=>.no
  | .dq x j=>.val True (.dq x (j+n))
  |_=>.no
 |none=>.no
theorem Vo(P:Program)(S:St)(o:Oper)(s:TypeId)(x:Operand)(f:Nat)(V:o.op=.fieldAddr s x f)(M:(S.aq x).1=true):aD P S o (nD P S.mem s f (S.aq x).2):=by
 unfold nD;split
 ·rename_i n A3;split
  ·rename_i k ak off J;split
   ·rename_i key v cont T;refine aD.pure ?_;rintro rfl φ G a w E;have A:=E.aq x M;rw[J]at A;obtain⟨hm,q,L,H,I,_⟩:=E.mem.get T;simp only at I;have e:=A.pY H I;refine⟨.pointer (some ⟨L.cU,off+n,none⟩),by simp[execOp,V,e,ur A3],.ptr k v _ _ L H (by omega) (λ_=>rfl) rfl⟩
   ·trivial
  ·rename_i k ak i j J;split
   ·rename_i key v cont T;refine aD.pure ?_;rintro rfl φ G a w E;have A:=E.aq x M;rw[J]at A;obtain⟨hm,q,L,H,I,_⟩:=E.mem.get T;simp only at I;have e:=A.jT H I;refine⟨.pointer (some ⟨L.cU,L.base+i*L.sz+j+n,none⟩),by simp[execOp,V,e,ur A3],.cn k v _ _ _ L H (by omega) (λ_=>by rw[aci]) rfl⟩
   ·trivial
  ·rename_i d j J;refine aD.pure ?_;rintro _ φ G a w E;have A:=E.aq x M;rw[J]at A;generalize Z:a.eval x=av at A;cases A with
   |dq _ _ b off A5 A' A0 A6 A1=>
    refine⟨.pointer (some ⟨b,off+(j+n),none⟩),by simp[execOp,V,Z,ur A3,aci],.dq d (j+n) b off A5 A' A0 A6 A1⟩
  ·trivial
 ·trivial
def iz(m:Mem)(p:AV):cP:=
 match p with
 | .ptr k ak off=>match Mem.get m k with
  |some ⟨_,v,_⟩=>.val (v=ak) (.ptr k ak off)
  |none=>.no
 | .cn k ak i j=>match Mem.get m k with
  |some ⟨_,v,_⟩=>.val (v=ak) (.cn k ak i j)
  |none=>.no
 | .dq x j=>.val True (.dq x j)
 |_=>.no
theorem JX(P:Program)(S:St)(o:Oper)(x:Operand)(V:o.op=.nilCheck x)(M:(S.aq x).1=true):aD P S o (iz S.mem (S.aq x).2):=by
 unfold iz;split
 ·rename_i k ak off J;split
  ·rename_i key v cont T;refine aD.pure ?_;rintro rfl φ G a w E;have A:=E.aq x M;rw[J]at A;obtain⟨hm,q,L,H,I,_⟩:=E.mem.get T;simp only at I;have e:=A.pY H I;exact⟨_,by simp only[execOp,V,e];rfl,.ptr k v _ _ L H (by omega) (λ_=>rfl) rfl⟩
  ·trivial
 ·rename_i k ak i j J;split
  ·rename_i key v cont T;refine aD.pure ?_;rintro rfl φ G a w E;have A:=E.aq x M;rw[J]at A;obtain⟨hm,q,L,H,I,_⟩:=E.mem.get T;simp only at I;have e:=A.jT H I;exact⟨_,by simp only[execOp,V,e];rfl,.cn k v _ _ _ L H (by omega) (λ_=>rfl) rfl⟩
  ·trivial
 ·rename_i d j J;refine aD.pure ?_;rintro _ φ G a w E;have A:=E.aq x M;rw[J]at A;generalize Z:a.eval x=av at A;cases A with
  |dq _ _ b off A5 A' A0 A6 A1=>
   exact⟨.pointer (some ⟨b,off+j,none⟩),by simp only[execOp,V,Z];rfl,.dq d j b off A5 A' A0 A6 A1⟩
 ·trivial
theorem jd{φ w F k n v}(h:az φ w F (.d (.int k n)) v):v=.int k n:=by cases h with|d _ _ h=>cases h;rfl
theorem rR{φ w F b v}(h:az φ w F (.d (.bool b)) v):v=.bool b:=by cases h with|d _ _ h=>cases h;rfl
theorem sh{φ w F s v}(h:az φ w F (.d (.str s)) v):∃b:ByteArray,v=.string b/\b.data.toList=s:=by cases h with|d _ _ h=>cases h with|str b _ h=>exact⟨b,rfl,h⟩
theorem si{P:Program}{t:TypeId}{n e}(h:tk P t=.arr n e):P.underlying t=some (.array n e):=by
 unfold tk at h;split at h<;>simp_all
theorem mO{P:Program}{t:TypeId}(h:tk P t=.str):P.underlying t=some .string:=by
 unfold tk at h;split at h<;>simp_all
theorem D5{P:Program}{t:TypeId}(h:tk P t=.bool):P.underlying t=some .bool:=by
 unfold tk at h;split at h<;>simp_all
theorem u7{P:Program}{t:TypeId}{k}(h:tk P t=.int k):P.underlying t=some (.int k):=by
 unfold tk at h;split at h<;>simp_all
def lE(P:Program)(m:Mem)(t:TypeId)(p i:AV):cP:=
 match i with
 | .d (.int _ n)=>match tk P t with
  | .slice e=>match eM P e with
   |some sz=>match p with
    | .d (.list xs)=>.val (0<=n/\n.toNat<xs.length/\(D.at xs n.toNat).size=sz) (.dq (D.at xs n.toNat) 0)
    | .vec k ak off len=>match Mem.get m k with
     |some ⟨_,v,.vec A4 _⟩=>.val (v=ak/\0<=n/\n.toNat<len/\A4=sz) (.cn k ak (off+n.toNat) 0)
     |some ⟨_,v,.vv _ _⟩=>.val (v=ak/\0<=n/\n.toNat<len/\sz=1) (.cn k ak (off+n.toNat) 0)
     |_=>.no
    |_=>.no
   |none=>.no
  | .arr len e=>match eM P e with
   |some sz=>match p with
    | .ptr k ak off=>match Mem.get m k with
     |some ⟨_,v,_⟩=>.val (v=ak/\0<=n/\n.toNat<len) (.ptr k ak (off+n.toNat*sz))
     |none=>.no
    | .cn k ak i j=>match Mem.get m k with
     |some ⟨_,v,.vec A4 _⟩=>if A4=1/\sz=1/\j=0 then .val (v=ak/\0<=n/\n.toNat<len) (.cn k ak (i+n.toNat) 0)else .val (v=ak/\0<=n/\n.toNat<len) (.cn k ak i (j+n.toNat*sz))
     |some ⟨_,v,_⟩=>.val (v=ak/\0<=n/\n.toNat<len) (.cn k ak i (j+n.toNat*sz))
     |none=>.no
    | .dq x j=>.val (0<=n/\n.toNat<len) (.dq x (j+n.toNat*sz))
    |_=>.no
   |none=>.no
  |_=>.no
 |_=>.no
theorem o7{P:Program}{t e:TypeId}{sz b o len cap:Nat}{k:IntKind}{n:Int}{w:World}(Y:P.underlying t=some (.slice e))(U:eM P e=some sz)(N:0<=n)(O:n.toNat<len):
 (Instr.indexAt t (.slice (some ⟨b,o,none⟩) len cap) (.int k n)).run P w=.ok (.pointer (some ⟨b,o+n.toNat*sz,none⟩)) w:=by
 have A3:n<(len:Int):=by omega
 simp[Instr.indexAt,asIntOf,run_underlying Y,run_sizeOf U,N,A3,eN]
theorem lF{P:Program}{t e:TypeId}{sz b o len:Nat}{k:IntKind}{n:Int}{w:World}(Y:P.underlying t=some (.array len e))(U:eM P e=some sz)(N:0<=n)(O:n.toNat<len):
 (Instr.indexAt t (.pointer (some ⟨b,o,none⟩)) (.int k n)).run P w=.ok (.pointer (some ⟨b,o+n.toNat*sz,none⟩)) w:=by
 have A3:n<(len:Int):=by omega
 simp[Instr.indexAt,Instr.sureAddr,asIntOf,run_underlying Y,run_sizeOf U,N,A3,eN]
theorem aaM{w F xs b off cap len}(h:aJ w F (.list xs) (.slice (some ⟨b,off,none⟩) len cap)){i sz:Nat}(hi:i<xs.length)(U:(D.at xs i).size=sz):
 len=xs.length/\b<w.heap.size/\¬F b/\∃v,aJ w F (D.at xs i) v/\∀(j:Nat) c,v.cells[j]?=some c->w.cell? ⟨b,off+i*sz+j,none⟩=some c:=by
 generalize M:D.list xs=x at h;generalize A:Value.slice (some ⟨b,off,none⟩) len cap=v at h;cases h with
 |nil a c=>simp at M;subst M;simp at hi
 |list AO AP AQ AR A4 vs AS A' A0 A9 AE A1=>
  simp at M A;obtain⟨⟨rfl,rfl⟩,rfl,rfl⟩:=A;subst M;have:A4=sz:=by rw[<-U,A9 _ (aao (iY hi))]
  subst this;exact⟨rfl,A',A0,vs i,AE i _ (iY hi),λj c AF=>A1 i j c hi AF⟩
 |_=>simp at M
theorem Rx{w F xs v}(h:aJ w F (.list xs) v)(AG:xs≠[]):∃b off cap,v=.slice (some ⟨b,off,none⟩) xs.length cap:=by
 cases h with
 |nil a c=>exact absurd rfl AG
 |list b off cap sz vs=>exact⟨_,_,_,rfl⟩
theorem Vp(P:Program)(S:St)(o:Oper)(t:TypeId)(x i:Operand)(V:o.op=.indexAddr t x i)(M:(S.aq x).1=true)(hi:(S.aq i).1=true):aD P S o (lE P S.mem t (S.aq x).2 (S.aq i).2):=by
 unfold lE;split
 ·rename_i AH n AI;have A2:∀{φ G a w},Rel φ G S a w->a.eval i=.int AH n:=λE=>by
   have:=E.aq i hi;rw[AI]at this;exact jd this
  split
  ·rename_i e AA;have Y:=ff AA;split
   ·rename_i sz U;split
    ·rename_i xs J;refine aD.pure ?_;rintro ⟨N,O,A9⟩ φ G a w E;have A:=E.aq x M;rw[J]at A;generalize Z:a.eval x=av at A;cases A with
     |d _ _ h=>
      obtain⟨b,off,cap,rfl⟩:=Rx h (by intro hh;subst hh;simp at O);obtain⟨_,A',A0,v,A,A1⟩:=aaM h O A9;refine⟨_,by simp only[execOp,V,Z,A2 E,Sem.run_bind,o7 Y U N O];rfl,?_⟩;exact .dq (D.at xs n.toNat) 0 b (off+n.toNat*sz) v A' A0 A A1
    ·rename_i k ak off len J;split
     ·rename_i key v A4 ag T;refine aD.pure ?_;rintro ⟨rfl,N,O,rfl⟩ φ G a w E;have A:=E.aq x M;rw[J]at A;obtain⟨hm,q,L,H,I,A7⟩:=E.mem.get T;simp only at I;generalize Z:a.eval x=av at A;cases A with
      |vec _ _ _ _ _ L' A8 _ h _=>
       rw[H]at A8;cases A8;obtain⟨ao,cap,rfl,AJ,AB⟩:=h I.symm;clear h;obtain⟨rfl,AK⟩:=AB (by omega);refine⟨_,by simp only[execOp,V,Z,A2 E,Sem.run_bind,o7 Y U N O];rfl,?_⟩;exact .cn k v _ 0 _ L H (by omega) (λ_=>by rw[A7.1,acU,afA,aci]) rfl
     ·rename_i key v ag y T;refine aD.pure ?_;rintro ⟨rfl,N,O,rfl⟩ φ G a w E;have A:=E.aq x M;rw[J]at A;obtain⟨hm,q,L,H,I,A7⟩:=E.mem.get T;simp only at I;generalize Z:a.eval x=av at A;cases A with
      |vec _ _ _ _ _ L' A8 _ h _=>
       rw[H]at A8;cases A8;obtain⟨ao,cap,rfl,AJ,AB⟩:=h I.symm;clear h;obtain⟨rfl,AK⟩:=AB (by omega);refine⟨_,by simp only[execOp,V,Z,A2 E,Sem.run_bind,o7 Y U N O];rfl,?_⟩;exact .cn k v _ 0 _ L H (by omega) (λ_=>by rw[A7.1.1,acU,afA,aci]) rfl
     ·trivial
    ·trivial
   ·trivial
  ·rename_i len e AA;have Y:=si AA;split
   ·rename_i sz U;split
    ·rename_i k ak off J;split
     ·rename_i key v cont T;refine aD.pure ?_;rintro ⟨rfl,N,O⟩ φ G a w E;have A:=E.aq x M;rw[J]at A;obtain⟨hm,q,L,H,I,_⟩:=E.mem.get T;simp only at I;have e:=A.pY H I;refine⟨_,by simp only[execOp,V,e,A2 E,Sem.run_bind,lF Y U N O];rfl,.ptr k v _ _ L H (by omega) (λ_=>rfl) rfl⟩
     ·trivial
    ·rename_i k ak AT j J;split
     ·rename_i key v A4 ag T;split
      ·rename_i AL;obtain⟨rfl,rfl,rfl⟩:=AL;refine aD.pure ?_;rintro ⟨rfl,N,O⟩ φ G a w E;have A:=E.aq x M;rw[J]at A;obtain⟨hm,q,L,H,I,A7⟩:=E.mem.get T;simp only at I;have e:=A.jT H I;have AM:L.sz=1:=A7.1;refine⟨_,by simp only[execOp,V,e,A2 E,Sem.run_bind,lF Y U N O];rfl,.cn k v _ _ _ L H (by omega) (λ_=>by rw[AM];simp[aci]) rfl⟩
      ·refine aD.pure ?_;rintro ⟨rfl,N,O⟩ φ G a w E;have A:=E.aq x M;rw[J]at A;obtain⟨hm,q,L,H,I,_⟩:=E.mem.get T;simp only at I;have e:=A.jT H I;refine⟨_,by simp only[execOp,V,e,A2 E,Sem.run_bind,lF Y U N O];rfl,.cn k v _ _ _ L H (by omega) (λ_=>by rw[aci]) rfl⟩
     ·rename_i key v cont _ T;refine aD.pure ?_;rintro ⟨rfl,N,O⟩ φ G a w E;have A:=E.aq x M;rw[J]at A;obtain⟨hm,q,L,H,I,_⟩:=E.mem.get T;simp only at I;have e:=A.jT H I;refine⟨_,by simp only[execOp,V,e,A2 E,Sem.run_bind,lF Y U N O];rfl,.cn k v _ _ _ L H (by omega) (λ_=>by rw[aci]) rfl⟩
     ·trivial
    ·rename_i d j J;refine aD.pure ?_;rintro ⟨N,O⟩ φ G a w E;have A:=E.aq x M;rw[J]at A;generalize Z:a.eval x=av at A;cases A with
     |dq _ _ b off A5 A' A0 A6 A1=>
      refine⟨.pointer (some ⟨b,off+(j+n.toNat*sz),none⟩),by simp[execOp,V,Z,A2 E,lF Y U N O,aci],.dq d _ b off A5 A' A0 A6 A1⟩
    ·trivial
   ·trivial
  ·trivial
 ·trivial
def ew(op:BinOp)(k:IntKind)(a b:Int):Option (Bool×D):=
 match op with
 | .add=>some (true,.int k (k.wrap (a+b)))
 | .sub=>some (true,.int k (k.wrap (a-b)))
 | .mul=>some (true,.int k (k.wrap (a*b)))
 | .quo=>some (b≠0,.int k (k.wrap (a.tdiv b)))
 | .rem=>some (b≠0,.int k (a.tmod b))
 | .and=>some (true,.int k (k.wrap (BitVec.ofInt k.bits a &&& BitVec.ofInt k.bits b).toNat))
 | .or=>some (true,.int k (k.wrap (BitVec.ofInt k.bits a ||| BitVec.ofInt k.bits b).toNat))
 | .xor=>some (true,.int k (k.wrap (BitVec.ofInt k.bits a ^^^ BitVec.ofInt k.bits b).toNat))
 | .andNot=>some (true,.int k (k.wrap (BitVec.ofInt k.bits a &&& ~~~BitVec.ofInt k.bits b).toNat))
 | .eql=>some (true,.bool (a == b))
 | .neq=>some (true,.bool (a != b))
 | .lss=>some (true,.bool (decide (a<b)))
 | .leq=>some (true,.bool (decide (a<=b)))
 | .gtr=>some (true,.bool (decide (b<a)))
 | .geq=>some (true,.bool (decide (b<=a)))
 |_=>none
def Bq(op:BinOp)(k:IntKind)(a b:Int):Option (Bool×D):=
 match op with
 | .shl=>some (0<=b,.int k (k.wrap (a*2^(min b.toNat k.bits))))
 | .shr=>some (0<=b,.int k (a.fdiv (2^(min b.toNat k.bits))))
 |_=>none
def lG(op:BinOp)(s t:List UInt8):Option (Bool×D):=
 match op with
 | .add=>some (s.length+t.length<=4611686018427387904,.str (s++t))
 | .eql=>some (true,.bool (s == t))
 | .neq=>some (true,.bool (!(s == t)))
 | .lss=>some (true,.bool (Op.bytesLess s t))
 | .leq=>some (true,.bool (Op.bytesLess s t||s == t))
 | .gtr=>some (true,.bool (!(Op.bytesLess s t||s == t)))
 | .geq=>some (true,.bool (!Op.bytesLess s t))
 |_=>none
def sj:TK->D->D->Option Bool
 | .int _,.int k a,.int A5 b=>if k=A5 then some (a == b)else none
 | .bool,.bool a,.bool b=>some (a == b)
 | .str,.str a,.str b=>some (a == b)
 |_,_,_=>none
def dK:List TK->List D->List D->Option Bool
 |[],[],[]=>some true
 |k::ks,x::xs,y::N=>match sj k x y,dK ks xs N with
  |some a,some b=>some (a&&b)
  |_,_=>none
 |_,_,_=>none
def yk(rec:TypeId->Option (List TK)):List Field->Nat->Option (List TK)
 |[],_=>some []
 |f::Z,o=>if f.name≠ "_" /\f.offset=o then (match rec f.type with
  |some ks=>match yk rec Z (o+ks.length)with
   |some r=>some (ks++r)
   |none=>none
  |none=>none)else none
def Co(P:Program):Nat->TypeId->Option (List TK)
 |0,_=>none
 |n+1,t=>match tk P t with
  | .int k=>some [.int k]
  | .bool=>some [.bool]
  | .str=>some [.str]
  | .struct=>match P.underlying t with
   |some (.struct Z)=>if P.stoodInHeld t=false then (match yk (Co P n) Z.toList 0 with
    |some ks=>if eM P t=some ks.length then some ks else none
    |none=>none)else none
   |_=>none
  |_=>none
def bU(P:Program)(t:TypeId):Option (List TK):=
 match P.underlying t with
 |some (.struct _)=>if P.eqGuardType P.depth t=false then Co P 8 t else none
 |_=>none
def o8(P:Program)(op:BinOp)(t:TypeId)(x y:AV):cP:=
 match x,y with
 | .d (.int k a),.d (.int A5 b)=>match op with
  | .shl=>.val (0<=b) (.d (.int k (k.wrap (a*2^(min b.toNat k.bits)))))
  | .shr=>.val (0<=b) (.d (.int k (a.fdiv (2^(min b.toNat k.bits)))))
  |op=>match ew op k a b with
   |some (c,d)=>.val (k=A5/\c) (.d d)
   |none=>.no
 | .d (.str a),.d (.str b)=>match lG op a b with
  |some (c,d)=>.val c (.d d)
  |none=>.no
 | .d (.bool a),.d (.bool b)=>match op with
  | .eql=>.val (tk P t=.bool) (.d (.bool (a == b)))
  | .neq=>.val (tk P t=.bool) (.d (.bool (a != b)))
  |_=>.no
 | .d (.agg a),.d (.agg b)=>match bU P t with
  |some ks=>match dK ks a b with
   |some r=>match op with
    | .eql=>.val True (.d (.bool r))
    | .neq=>.val True (.d (.bool (!r)))
    |_=>.no
   |none=>.no
  |none=>.no
 |_,_=>.no
theorem G4(P:Program)(w:World)(op:BinOp)(t:TypeId)(x y:Operand)(a b:Value)(h:(∀c,a≠.agg c)/\a≠.nilIface):(eqGuard op t x y a b).run P w=.ok () w:=by
 unfold eqGuard;cases a<;>first|exact absurd rfl (h.1 _)|exact absurd rfl h.2|(cases op<;>simp)
theorem Oy(P:Program)(w:World)(op:BinOp)(t:TypeId)(k:IntKind)(a b:Int)(c d)(h:ew op k a b=some (c,d))(I:c=true):∃v,(binOp op t (.int k a) (.int k b)).run P w=.ok v w/\∀F,aJ w F d v:=by
 cases op<;>simp only[ew,aax,ab3,reduceCtorEq]at h<;>(try exact h.elim)<;>obtain⟨rfl,rfl⟩:=h<;>(try simp only[aam]at I)<;>
  refine⟨_,by simp only[binOp,Op.intArith,Op.intDiv,Op.intBits,Op.intCmp,ne_eq,not_true_eq_false,acF,I,Sem.run_pure,gt_iff_lt,ge_iff_le];rfl,λF=>by first|exact .int _ _|exact .bool _⟩
theorem yl(P:Program)(w:World)(op:BinOp)(t:TypeId)(k A5:IntKind)(a b:Int)(c d)(h:Bq op k a b=some (c,d))(I:c=true):∃v,(binOp op t (.int k a) (.int A5 b)).run P w=.ok v w/\∀F,aJ w F d v:=by
 cases op<;>simp only[Bq,aax,ab3,reduceCtorEq]at h<;>(try exact h.elim)<;>obtain⟨rfl,rfl⟩:=h<;>(try simp only[aam]at I)<;>
  refine⟨_,by simp[binOp,Op.shift,show ¬b<0 by omega];rfl,λF=>by first|exact .int _ _|exact .bool _⟩
theorem Oz(P:Program)(w:World)(op:BinOp)(t:TypeId)(a b:ByteArray)(c d)(h:lG op a.data.toList b.data.toList=some (c,d))(I:c=true):∃v,(binOp op t (.string a) (.string b)).run P w=.ok v w/\∀F,aJ w F d v:=by
 have Ae:a.size=a.data.toList.length:=by rw[abZ];rfl
 have Af:b.size=b.data.toList.length:=by rw[abZ];rfl
 cases op<;>simp only[lG,aax,ab3,reduceCtorEq]at h<;>(try exact h.elim)<;>obtain⟨rfl,rfl⟩:=h
 case add=>
  simp only[aam]at I;have B2:¬(9223372036854775807<((a.size:Int)+(b.size:Int))):=by omega
  refine⟨.string (a++b),?_,λF=>.str _ _ (by simp)⟩;have Ap:IntKind.i64.max=9223372036854775807:=by decide
  have:¬(((a.size+b.size:Nat):Int)>IntKind.i64.max):=by rw[Ap];push_cast;omega
  simp only[binOp,Op.stringOp,this,acF,Sem.run_pure]
 all_goals
  refine⟨_,by simp only[binOp,Op.stringOp,ByteArray.toList_eq,Sem.run_pure],λF=>.bool _⟩
theorem OA{P:Program}{w:World}{F:Nat->Prop}{x y:D}{a b:Value}{r:Bool}{t:TypeId}(d:Nat)(h:sj (tk P t) x y=some r)(Y:aJ w F x a)(A':aJ w F y b):
 (Op.equalIn (d+1) t a b).run P w=.ok r w:=by
 unfold sj at h;split at h
 ·rename_i A5 k n Ag m A8;split at h
  ·rename_i he;subst he;simp at h;subst h;cases Y;cases A';exact run_equalIn_int w d t k _ n m (u7 A8)
  ·cases h
 ·rename_i n m A8;simp at h;subst h;cases Y;cases A';exact run_equalIn_bool' w d t n m (D5 A8)
 ·rename_i n m A8;simp at h;subst h;cases Y with|str n _ Aq=>cases A' with|str m _ hm=>
  subst Aq;subst hm;rw[run_equalIn_string w d t n m (mO A8),ByteArray.toList_eq,ByteArray.toList_eq]
 ·cases h
theorem sk{P:Program}{w:World}{t:TypeId}{cs:Array Value}{off:Nat}{v:Value}(h:(tk P t).agg=false)(A6:tk P t≠.other)(E:cs[off]?=some v):(part t cs off).run P w=.ok v w:=by
 simp[part,pX A6,h,E]
theorem pI:∀{ks:List TK}{xs N:List D}{r:Bool},dK ks xs N=some r->xs.length=ks.length/\N.length=ks.length
 |[],[],[],_,_=>⟨rfl,rfl⟩
 |k::ks,x::xs,y::N,r,h=>by
  simp only[dK]at h;split at h
  ·rename_i J;obtain⟨a,b⟩:=pI J;simp[a,b]
  ·cases h
 |[],[],_::_,_,h=>by simp[dK]at h
 |[],_::_,_,_,h=>by simp[dK]at h
 |_::_,[],_,_,h=>by simp[dK]at h
 |_::_,_::_,[],_,h=>by simp[dK]at h
theorem AP:∀{a b:List TK}{xs N:List D}{r:Bool},dK (a++b) xs N=some r->∃p q,dK a (xs.take a.length) (N.take a.length)=some p/\dK b (xs.drop a.length) (N.drop a.length)=some q/\r=(p&&q)
 |[],b,xs,N,r,h=>⟨true,r,by simp[dK],by simpa using h,by simp⟩
 |k::a,b,x::xs,y::N,r,h=>by
  simp only[afK,dK]at h;split at h
  ·rename_i u v M J;obtain⟨p,q,A2,A3,Ar⟩:=AP J;cases h;refine⟨u&&p,q,?_,by simpa using A3,by rw[Ar,Bool.and_assoc]⟩;simp only[ab1,List.take_succ_cons,dK,M,A2]
  ·cases h
 |_::_,_,[],_,_,h=>by simp[dK]at h
 |_::_,_,_::_,[],_,h=>by simp[dK]at h
theorem vX{P:Program}{w:World}{F:Nat->Prop}{rec:TypeId->Option (List TK)}{Ah:Nat}{T U:Array Value}
 (ih:∀(t:TypeId)(ks:List TK),rec t=some ks->∀(o:Nat)(xs N:List D)(r:Bool),dK ks xs N=some r->(∀(i:Nat) c v,xs[i]?=some c->T[o+i]?=some v->aJ w F c v)->(∀(i:Nat) c v,N[i]?=some c->U[o+i]?=some v->aJ w F c v)->
  o+xs.length<=T.size->o+N.length<=U.size->∃a b,(part t T o).run P w=.ok a w/\(part t U o).run P w=.ok b w/\(Op.equalIn Ah t a b).run P w=.ok r w):
 ∀(Z:List Field)(o:Nat)(ks:List TK),yk rec Z o=some ks->∀(xs N:List D)(r:Bool),dK ks xs N=some r->(∀(i:Nat) c v,xs[i]?=some c->T[o+i]?=some v->aJ w F c v)->(∀(i:Nat) c v,N[i]?=some c->U[o+i]?=some v->aJ w F c v)->
  o+xs.length<=T.size->o+N.length<=U.size->(Op.eqFields Ah T U Z).run P w=.ok r w
 |[],o,ks,O,xs,N,r,h,_,_,_,_=>by
  simp only[yk,aax]at O;subst O;cases xs<;>cases N<;>simp[dK]at h;subst h;simp[Op.eqFields]
 |f::Z,o,ks,O,xs,N,r,h,Y,A',AJ,AK=>by
  simp only[yk]at O;split at O
  ·rename_i A9;obtain⟨As,At⟩:=A9;split at O
   ·rename_i AF M;split at O
    ·rename_i Ag J;cases O;obtain⟨p,q,A2,A3,rfl⟩:=AP h;obtain⟨AG,AH⟩:=pI h;simp only[ab0]at AG AH;obtain⟨a,b,g1,g2,g3⟩:=ih f.type AF M o _ _ p A2 (λi c v I E=>Y i c v (by rw[aaz]at I;split at I;exact I;cases I) E) (λi c v I E=>A' i c v (by rw[aaz]at I;split at I;exact I;cases I) E) (by simp;omega) (by simp;omega);have g4:=vX ih Z (o+AF.length) Ag J _ _ q A3 (λi c v I E=>Y (AF.length+i) c v (by rw[acq]at I;exact I) (by rw[<-aci];exact E)) (λi c v I E=>A' (AF.length+i) c v (by rw[acq]at I;exact I) (by rw[<-aci];exact E)) (by simp;omega) (by simp;omega);rw[<-At]at g1 g2;simp only[Op.eqFields,As,ne_eq,not_false_eq_true,adI,Sem.run_bind,g1,g2,g3,Result.andThen_ok,Sem.run_ite,Sem.run_pure,g4];cases p<;>simp
    ·cases O
   ·cases O
  ·cases O
theorem G6{P:Program}{w:World}{F:Nat->Prop}(d:Nat):∀(n:Nat)(T U:Array Value)(t:TypeId)(ks:List TK),Co P n t=some ks->∀(o:Nat)(xs N:List D)(r:Bool),dK ks xs N=some r->
 (∀(i:Nat) c v,xs[i]?=some c->T[o+i]?=some v->aJ w F c v)->(∀(i:Nat) c v,N[i]?=some c->U[o+i]?=some v->aJ w F c v)->o+xs.length<=T.size->o+N.length<=U.size->
 ∃a b,(part t T o).run P w=.ok a w/\(part t U o).run P w=.ok b w/\(Op.equalIn (d+n) t a b).run P w=.ok r w
 |0,_,_,_,_,O,_,_,_,_,_,_,_,_,_=>by cases O
 |n+1,T,U,t,ks,O,o,xs,N,r,h,Y,A',AJ,AK=>by
  have one:∀k:TK,tk P t=k->k.agg=false->k≠.other->ks=[k]->∃a b,(part t T o).run P w=.ok a w/\(part t U o).run P w=.ok b w/\(Op.equalIn (d+(n+1)) t a b).run P w=.ok r w:=by
   rintro k A0 Ai Aj rfl;obtain⟨AG,AH⟩:=pI h;match xs,N,AG,AH with
   |[x],[y],_,_=>
    simp only[dK]at h;split at h
    ·rename_i u v M J;cases h;have E:v=true:=by simpa using J.symm
     subst E;simp only[Bool.and_true];simp only[ab1,ae8]at AJ AK;have A2:=sk (P:=P) (w:=w) (t:=t) (by rw[A0];exact Ai) (by rw[A0];exact Aj) (show T[o]?=some T[o] by simp[show o<T.size by omega]);have A3:=sk (P:=P) (w:=w) (t:=t) (by rw[A0];exact Ai) (by rw[A0];exact Aj) (show U[o]?=some U[o] by simp[show o<U.size by omega]);exact⟨_,_,A2,A3,OA (d+n) (by rw[A0];exact M) (Y 0 x _ rfl (by simp[show o<T.size by omega])) (A' 0 y _ rfl (by simp[show o<U.size by omega]))⟩
    ·cases h
  unfold Co at O;split at O
  ·rename_i k A0;exact one _ A0 rfl (by simp) (by cases O;rfl)
  ·rename_i A0;exact one _ A0 rfl (by simp) (by cases O;rfl)
  ·rename_i A0;exact one _ A0 rfl (by simp) (by cases O;rfl)
  ·rename_i A0;split at O
   ·rename_i Z hu;split at O
    ·rename_i AL;split at O
     ·rename_i AC AM;split at O
      ·rename_i Au;cases O;obtain⟨AG,AH⟩:=pI h;have Ak:∀cs:Array Value,(part t cs o).run P w=.ok (.agg (cs.extract o (o+ks.length))) w:=by
        intro cs;have Ae:=pX (P:=P) (t:=t) (w:=w) (by rw[A0];simp);simp[part,Ae,A0,TK.agg,run_sizeOf Au]
       refine⟨_,_,Ak T,Ak U,?_⟩;have A9:P.fieldsOf t=Z:=by simp[Program.fieldsOf,hu]
       show (Op.equalIn (d+n+1) t _ _).run P w=_;rw[run_equalIn_struct w (d+n) t _ _ (by rw[A9];exact hu) AL,A9];have hex:∀(cs:Array Value)(i:Nat)(v:Value),i<ks.length->(cs.extract o (o+ks.length))[0+i]?=some v->cs[o+i]?=some v:=by
        intro cs i v hi E;rw[ac3,Array.getElem?_extract]at E;split at E
        ·exact E
        ·cases E
       refine vX (F:=F) (λA7 AC AN AO AR AS AT AU AW AX AY AZ=>G6 d n _ _ A7 AC AN AO AR AS AT AU AW AX AY AZ) Z.toList 0 ks AM xs N r h (λi c v I E=>?_) (λi c v I E=>?_) ?_ ?_
       ·have hi:=(aaf.1 I).1;exact Y i c v I (hex T i v (by omega) E)
       ·have hi:=(aaf.1 I).1;exact A' i c v I (hex U i v (by omega) E)
       ·simp;omega
       ·simp;omega
      ·cases O
     ·cases O
    ·cases O
   ·cases O
  ·cases O
theorem KD(P:Program)(S:St)(o:Oper)(op:BinOp)(t A7:TypeId)(x y:Operand)(A6:o.op=.binOp op t x y A7)(Y:(S.aq x).1=true)(A':(S.aq y).1=true):aD P S o (o8 P op t (S.aq x).2 (S.aq y).2):=by
 have AB:∀(a:Act)(w:World)(v:Value),(∀c,a.eval x≠.agg c)->a.eval x≠.nilIface->(binOp op t (a.eval x) (a.eval y)).run P w=.ok v w->(execOp a.eval o).run P w=.ok (.value v) w:=by
  intro a w v M J h;simp[execOp,A6,G4 P w op t x y _ (a.eval y) ⟨M,J⟩,h]
 unfold o8;split
 ·rename_i k n A5 m V AA;have H:∀{φ G a w},Rel φ G S a w->a.eval x=.int k n/\a.eval y=.int A5 m:=λA=>by
   have M:=A.aq x Y;have J:=A.aq y A';rw[V]at M;rw[AA]at J;exact⟨jd M,jd J⟩
  split
  ·refine aD.pure λI φ G a w A=>?_;obtain⟨v,M,J⟩:=yl P w .shl t k A5 n m _ _ rfl (akt I);exact⟨v,AB a w v (by simp[(H A).1]) (by simp[(H A).1]) (by rw[(H A).1,(H A).2];exact M),.d _ _ (J _)⟩
  ·refine aD.pure λI φ G a w A=>?_;obtain⟨v,M,J⟩:=yl P w .shr t k A5 n m _ _ rfl (akt I);exact⟨v,AB a w v (by simp[(H A).1]) (by simp[(H A).1]) (by rw[(H A).1,(H A).2];exact M),.d _ _ (J _)⟩
  ·split
   ·rename_i c d h;refine aD.pure ?_;rintro ⟨rfl,I⟩ φ G a w A;obtain⟨v,M,J⟩:=Oy P w op t k n m c d h I;exact⟨v,AB a w v (by simp[(H A).1]) (by simp[(H A).1]) (by rw[(H A).1,(H A).2];exact M),.d _ _ (J _)⟩
   ·trivial
 ·rename_i s u V AA;split
  ·rename_i c d h;refine aD.pH λI φ G a w A=>?_;have M:=A.aq x Y;have J:=A.aq y A';rw[V]at M;rw[AA]at J;obtain⟨Av,A2,rfl⟩:=sh M;obtain⟨Aw,A3,rfl⟩:=sh J;obtain⟨v,A_,Aa⟩:=Oz P w op t Av Aw c d h I;exact⟨v,AB a w v (by simp[A2]) (by simp[A2]) (by rw[A2,A3];exact A_),.d _ _ (Aa _)⟩
  ·trivial
 ·rename_i n m V AA;have H:∀{φ G a w},Rel φ G S a w->a.eval x=.bool n/\a.eval y=.bool m:=λA=>by
   have M:=A.aq x Y;have J:=A.aq y A';rw[V]at M;rw[AA]at J;exact⟨rR M,rR J⟩
  split
  ·refine aD.pure λI φ G a w A=>⟨.bool (n == m),AB a w _ (by simp[(H A).1]) (by simp[(H A).1]) ?_,.d _ _ (.bool _)⟩;rw[(H A).1,(H A).2];simp[binOp,Op.equal,Op.maxDepth,run_equalIn_bool' w 9999 t n m (D5 I)]
  ·refine aD.pure λI φ G a w A=>⟨.bool (n != m),AB a w _ (by simp[(H A).1]) (by simp[(H A).1]) ?_,.d _ _ (.bool _)⟩;rw[(H A).1,(H A).2];simp[binOp,Op.equal,Op.maxDepth,run_equalIn_bool' w 9999 t n m (D5 I),bne]
  ·trivial
 ·rename_i xs N V AA;split
  ·rename_i ks A1;split
   ·rename_i r Ax;have key:∀{φ G a w},Rel φ G S a w->∃T U,a.eval x=.agg T/\a.eval y=.agg U/\(Op.equal t (.agg T) (.agg U)).run P w=.ok r w/\(eqGuard op t x y (.agg T) (.agg U)).run P w=.ok () w:=by
     intro φ G a w A;have M:=A.aq x Y;have J:=A.aq y A';rw[V]at M;rw[AA]at J;generalize a.eval x=B3 at M;generalize a.eval y=B4 at J;cases M with|d _ _ M=>
     cases J with|d _ _ J=>
     cases M with|agg _ T AJ B5 Ay=>
     cases J with|agg _ U AK B6 Az=>
     unfold bU at A1;split at A1
     ·rename_i Z hu;split at A1
      ·rename_i Cm;have A9:P.fieldsOf t=Z:=by simp[Program.fieldsOf,hu]
       have A8:tk P t=.struct:=by simp[tk,hu]
       unfold Co at A1;simp only[A8,hu]at A1;split at A1
       ·rename_i AL;split at A1
        ·rename_i AC AM;split at A1
         ·cases A1;refine⟨T,U,rfl,rfl,?_,?_⟩
          ·unfold Op.equal Op.maxDepth;rw[run_equalIn_struct w 9999 t T U (by rw[A9];exact hu) AL,A9];exact vX (F:=Fo G φ S.mem) (λA7 AC AN AO AR AS AT AU AW AX AY AZ=>G6 9992 7 _ _ A7 AC AN AO AR AS AT AU AW AX AY AZ) Z.toList 0 ks AM xs N r Ax (λi c v I E=>Ay i c v I (by simpa using E)) (λi c v I E=>Az i c v I (by simpa using E)) (by omega) (by omega)
          ·cases op<;>simp[eqGuard,Cm]
         ·cases A1
        ·cases A1
       ·cases A1
      ·cases A1
     ·cases A1
    split
    ·refine aD.pure λ_ φ G a w A=>?_;obtain⟨T,U,A2,A3,M,J⟩:=key A;exact⟨.bool r,by simp[execOp,A6,A2,A3,J,binOp,M],.d _ _ (.bool _)⟩
    ·refine aD.pure λ_ φ G a w A=>?_;obtain⟨T,U,A2,A3,M,J⟩:=key A;exact⟨.bool (!r),by simp[execOp,A6,A2,A3,J,binOp,M],.d _ _ (.bool _)⟩
    ·trivial
   ·trivial
  ·trivial
 ·trivial
def iX(P:Program)(m:Mem)(neg:Bool)(t:TypeId)(x:AV):Value->cP
 | .slice none 0 0=>match tk P t with
  | .slice _=>match x with
   | .d (.list (_::_))=>.val true (.d (.bool neg))
   | .lit (.slice none 0 0)=>.val true (.d (.bool (!neg)))
   | .nn=>.val true (.d (.bool neg))
   | .vec k ak _ len=>match Mem.get m k with
    |some ⟨_,v,.vec _ _⟩=>.val (v=ak/\0<len) (.d (.bool neg))
    |_=>.no
   |_=>.no
  |_=>.no
 | .pointer none=>match tk P t with
  | .ptr _=>match x with
   | .lit (.pointer none)=>.val true (.d (.bool (!neg)))
   | .ptr k ak _=>match Mem.get m k with
    |some ⟨_,v,_⟩=>.val (v=ak) (.d (.bool neg))
    |_=>.no
   |_=>.no
  |_=>.no
 | .nilIface=>match tk P t with
  | .iface=>match x with
   | .fR _ _=>.val true (.d (.bool neg))
   | .err=>.val true (.d (.bool neg))
   | .lit .nilIface=>.val true (.d (.bool (!neg)))
   |_=>.no
  |_=>.no
 |_=>.no
theorem OB{φ w F d Ab v}(h:az φ w F (.d (.list (d::Ab))) v):∃b off cap,v=.slice (some ⟨b,off,none⟩) (Ab.length+1) cap:=by
 cases h with|d _ _ h=>
 cases h with|list _ b off cap sz vs=>exact⟨b,off,cap,rfl⟩
theorem acd{P:Program}{t e:TypeId}(h:tk P t=.ptr e):P.underlying t=some (.pointer e):=by
 unfold tk at h;split at h<;>simp_all
theorem Vq{P:Program}{t:TypeId}(h:tk P t=.iface):∃ms,P.underlying t=some (.interface ms):=by
 unfold tk at h;split at h<;>simp_all
theorem pJ{P:Program}(w:World)(d:Nat){t e:TypeId}(a:Option Addr)(n c:Nat)(h:P.underlying t=some (.slice e)):
 (Op.equalIn (d+1) t (.slice a n c) (.slice none 0 0)).run P w=.ok a.isNone w:=by
 cases a<;>simp[Op.equalIn,run_underlying h]
theorem E1{P:Program}(w:World)(d:Nat){t e:TypeId}(a:Option Addr)(h:P.underlying t=some (.pointer e)):
 (Op.equalIn (d+1) t (.pointer a) (.pointer none)).run P w=.ok a.isNone w:=by
 cases a<;>simp[Op.equalIn,run_underlying h]
theorem AQ{P:Program}(w:World)(d:Nat){t:TypeId}{ms}(B':TypeId)(v:Value)(h:P.underlying t=some (.interface ms)):
 (Op.equalIn (d+1) t (.iface B' v) .nilIface).run P w=.ok false w:=by
 simp[Op.equalIn,run_underlying h]
theorem G8{P:Program}(w:World)(d:Nat){t:TypeId}{ms}(h:P.underlying t=some (.interface ms)):
 (Op.equalIn (d+1) t .nilIface .nilIface).run P w=.ok true w:=by
 simp[Op.equalIn,run_underlying h]
theorem aaN{P:Program}{o:Oper}{neg:Bool}{t A7:TypeId}{x:Operand}{v:Value}(A6:o.op=.binOp (if neg then .neq else .eql) t x (.const v) A7){a:Act}{w:World}{b:Bool}
 (M:∀c,a.eval x≠.agg c) (Al:v=.slice none 0 0\/v=.pointer none\/v=.nilIface) (An:(∀k n,a.eval x≠.int k n)/\(∀k n,a.eval x≠.float k n)/\(∀k n m,a.eval x≠.complex k n m)/\(∀s,a.eval x≠.string s))
 (h:(Op.equalIn 10000 t (a.eval x) v).run P w=.ok b w):(execOp a.eval o).run P w=.ok (.value (.bool (if neg then !b else b))) w:=by
 have e:a.eval (.const v)=v:=rfl;have AD:(eqGuard (if neg then .neq else .eql) t x (.const v) (a.eval x) v).run P w=.ok () w:=by
  unfold eqGuard;generalize a.eval x=u at M⊢;rcases Al with rfl|rfl|rfl<;>cases u<;>cases neg<;>simp
 have Af:(binOp (if neg then .neq else .eql) t (a.eval x) v).run P w=.ok (.bool (if neg then !b else b)) w:=by
  generalize a.eval x=u at h An⊢;obtain⟨g1,g2,g3,g4⟩:=An;rcases Al with rfl|rfl|rfl<;>cases u<;>cases neg<;>simp_all [binOp,Op.equal,Op.maxDepth]
 simp only[execOp,A6,e,Sem.run_bind,AD,Result.andThen_ok,Af,Sem.run_pure]
theorem KE(P:Program)(S:St)(o:Oper)(neg:Bool)(t A7:TypeId)(x:Operand)(v:Value)(A6:o.op=.binOp (if neg then .neq else .eql) t x (.const v) A7)(Y:(S.aq x).1=true):aD P S o (iX P S.mem neg t (S.aq x).2 v):=by
 have go:∀{φ G a w}{b:Bool},Rel φ G S a w->(∀c,a.eval x≠.agg c)->(v=.slice none 0 0\/v=.pointer none\/v=.nilIface)->((∀k n,a.eval x≠.int k n)/\(∀k n,a.eval x≠.float k n)/\(∀k n m,a.eval x≠.complex k n m)/\(∀s,a.eval x≠.string s))->
  (Op.equalIn 10000 t (a.eval x) v).run P w=.ok b w->∃AI,(execOp a.eval o).run P w=.ok (.value AI) w/\az φ w (Fo G φ S.mem) (.d (.bool (if neg then !b else b))) AI:=by
  intro φ G a w b A M J A_ Aa;exact⟨_,aaN A6 M J A_ Aa,.d _ _ (.bool _)⟩
 have B7:∀{b:Bool},(if neg=true then !b else b)=(if neg=true then !b else b):=rfl;unfold iX;split
 ·split
  ·rename_i e AE;have A4:=ff AE;split
   ·rename_i d Ab V;refine aD.pH λ_ φ G a w A=>?_;have E:=A.aq x Y;rw[V]at E;obtain⟨b,off,cap,H⟩:=OB E;have:=go (b:=false) A (by simp[H]) (.inl rfl) (by simp[H]) (by rw[H];exact pJ w 9999 _ _ _ A4);cases neg<;>simpa using this
   ·rename_i V;refine aD.pH λ_ φ G a w A=>?_;have E:=A.aq x Y;rw[V]at E;generalize H:a.eval x=u at E;cases E;have:=go (b:=true) A (by simp[H]) (.inl rfl) (by simp[H]) (by rw[H];exact pJ w 9999 _ _ _ A4);cases neg<;>simpa using this
   ·rename_i V;refine aD.pH λ_ φ G a w A=>?_;have E:=A.aq x Y;rw[V]at E;generalize H:a.eval x=u at E;cases E;have:=go (b:=false) A (by simp[H]) (.inl rfl) (by simp[H]) (by rw[H];exact pJ w 9999 _ _ _ A4);cases neg<;>simpa using this
   ·rename_i k ak off len V;split
    ·rename_i key AI sz ag AD;refine aD.pure ?_;rintro ⟨rfl,B8⟩ φ G a w A;have E:=A.aq x Y;rw[V]at E;obtain⟨hm,O,L,Ac,Ad,B0⟩:=A.mem.get AD;generalize H:a.eval x=u at E;cases E with
     |vec _ _ _ _ _ L' Ao _ h _=>
      rw[Ac]at Ao;cases Ao;obtain⟨ao,cap,rfl,B9,B1⟩:=h Ad.symm;obtain⟨rfl,_⟩:=B1 (by omega);have:=go (b:=false) A (by simp[H]) (.inl rfl) (by simp[H]) (by rw[H];exact pJ w 9999 _ _ _ A4);cases neg<;>simpa using this
    ·trivial
   ·trivial
  ·trivial
 ·split
  ·rename_i e AE;have A4:=acd AE;split
   ·rename_i V;refine aD.pH λ_ φ G a w A=>?_;have E:=A.aq x Y;rw[V]at E;generalize H:a.eval x=u at E;cases E;have:=go (b:=true) A (by simp[H]) (.inr (.inl rfl)) (by simp[H]) (by rw[H];exact E1 w 9999 _ A4);cases neg<;>simpa using this
   ·rename_i k ak off V;split
    ·rename_i key AI c AD;refine aD.pure ?_;rintro rfl φ G a w A;have E:=A.aq x Y;rw[V]at E;obtain⟨hm,O,L,Ac,Ad,B0⟩:=A.mem.get AD;have H:=E.pY Ac Ad;have:=go (b:=false) A (by simp[H]) (.inr (.inl rfl)) (by simp[H]) (by rw[H];exact E1 w 9999 _ A4);cases neg<;>simpa using this
    ·trivial
   ·trivial
  ·trivial
 ·split
  ·rename_i AE;obtain⟨ms,A4⟩:=Vq AE;split
   ·rename_i BA BB V;refine aD.pH λ_ φ G a w A=>?_;have E:=A.aq x Y;rw[V]at E;generalize H:a.eval x=u at E;cases E;have:=go (b:=false) A (by simp[H]) (.inr (.inr rfl)) (by simp[H]) (by rw[H];exact AQ w 9999 _ _ A4);cases neg<;>simpa using this
   ·rename_i V;refine aD.pH λ_ φ G a w A=>?_;have E:=A.aq x Y;rw[V]at E;generalize H:a.eval x=u at E;cases E;have:=go (b:=false) A (by simp[H]) (.inr (.inr rfl)) (by simp[H]) (by rw[H];exact AQ w 9999 _ _ A4);cases neg<;>simpa using this
   ·rename_i V;refine aD.pH λ_ φ G a w A=>?_;have E:=A.aq x Y;rw[V]at E;generalize H:a.eval x=u at E;cases E;have:=go (b:=true) A (by simp[H]) (.inr (.inr rfl)) (by simp[H]) (by rw[H];exact G8 w 9999 A4);cases neg<;>simpa using this
   ·trivial
  ·trivial
 ·trivial
def im(s:List UInt8)(i:Nat):UInt8:=s[i]?.getD 0
def o9(P:Program)(t:TypeId)(x i:AV):cP:=
 match i with
 | .d (.int _ n)=>match x with
  | .d (.str s)=>.val (tk P t=.str/\0<=n/\n.toNat<s.length) (.d (.int .u8 (im s n.toNat).toNat))
  | .d (.agg cs)=>match tk P t with
   | .arr len e=>match (tk P e).agg,eM P e with
    |false,some 1=>.val (0<=n/\n.toNat<len/\len<=cs.length/\tk P e≠.other) (.d (D.at cs n.toNat))
    |true,some sz=>.val (0<=n/\n.toNat<len/\len*sz<=cs.length) (.d (.agg ((cs.drop (n.toNat*sz)).take sz)))
    |_,_=>.no
   |_=>.no
  |_=>.no
 |_=>.no
theorem RB(b:ByteArray)(i:Nat):b[i]?=b.data.toList[i]?:=by
 by_cases h:i<b.size
 ·have AI:i<b.data.size:=h;rw[getElem?_pos b i h,afw,getElem?_pos b.data i AI];rfl
 ·have AI:¬i<b.data.size:=h;rw[getElem?_neg b i h,afw,getElem?_neg b.data i AI]
theorem G9{P:Program}{w:World}{t:TypeId}{b:ByteArray}{k:IntKind}{n:Int}(AA:tk P t=.str)(T:0<=n)(I:n.toNat<b.data.toList.length):
 (Instr.index t (.string b) (.int k n)).run P w=.ok (.int .u8 (im b.data.toList n.toNat).toNat) w:=by
 have e:b[n.toNat]?=some (im b.data.toList n.toNat):=by rw[RB];simp only[im];rw[acB I];rfl
 simp only[Instr.index,asIntOf,Sem.run_bind,Sem.run_pure,Result.andThen_ok,run_underlying (mO AA),T,adI,e]
theorem E2{P:Program}{w:World}{t:TypeId}{cs:Array Value}{off n:Nat}(h:(tk P t).agg=true)(Y:eM P t=some n):(part t cs off).run P w=.ok (.agg (cs.extract off (off+n))) w:=by
 have J:tk P t≠.other:=by intro AI;rw[AI]at h;cases h
 simp[part,pX J,h,run_sizeOf Y]
theorem xI{w F}{cs:List D}{a:Array Value}(h:aJ w F (.agg cs) (.agg a))(o n:Nat)(hle:o+n<=cs.length):aJ w F (.agg ((cs.drop o).take n)) (.agg (a.extract o (o+n))):=by
 have U:=h.cells;cases h with|agg _ _ I Ab E=>
 have M:=aJ.nz (w:=w) (F:=F) (cs:=(cs.drop o).take n) (vs:=(a.toList.drop o).take n) (by simp;omega)
  (λv AF=>U.2.1 v (by simpa [Value.cells]using ach (acf AF)))
  (λi c v A M=>by
   rw[aaz]at A M;split at A
   ·rename_i hi;simp only[hi,adI]at M;exact E (o+i) c v (by simpa using A) (by simpa using M)
   ·cases A)
 have e:((a.toList.drop o).take n).toArray=a.extract o (o+n):=by
  apply Array.ext';simp
 rwa [e]at M
theorem RC(P:Program)(S:St)(o:Oper)(t:TypeId)(x i:Operand)(J:o.op=.index t x i)(H:(S.aq x).1=true)(hi:(S.aq i).1=true):aD P S o (o9 P t (S.aq x).2 (S.aq i).2):=by
 unfold o9;split
 ·rename_i k n AW;split
  ·rename_i s N;refine aD.pure ?_;rintro ⟨AA,T,I⟩ φ G a w E;have A:=E.aq x H;have M:=E.aq i hi;rw[N]at A;rw[AW]at M;obtain⟨b,A1,rfl⟩:=sh A;exact⟨_,by simp only[execOp,J,A1,jd M,Sem.run_bind,G9 AA T I];rfl,.d _ _ (.int _ _)⟩
  ·rename_i cs N;split
   ·rename_i len e O;split
    ·rename_i AX Y;refine aD.pure ?_;rintro ⟨T,I,hle,AY⟩ φ G a w E;have A:=E.aq x H;have M:=E.aq i hi;rw[N]at A;rw[AW]at M;generalize V:a.eval x=av at A;cases A with|d _ _ A=>
     cases A with|agg _ A4 Ap Aq Ac=>
     have AB:n<(len:Int):=by omega
     have Ad:n.toNat<A4.size:=by omega
     refine⟨A4[n.toNat],?_,.d _ _ (Ac n.toNat _ _ (iY (by omega)) (by simp[Ad]))⟩;have AC:=sk (P:=P) (w:=w) (t:=e) (cs:=A4) (off:=n.toNat*1) AX AY (v:=A4[n.toNat]) (by simp[Ad]);simp only[akv]at AC;simp[execOp,J,V,jd M,Instr.index,asIntOf,run_underlying (si O),T,AB,run_sizeOf Y,AC]
    ·rename_i sz AX Y;refine aD.pure ?_;rintro ⟨T,I,hle⟩ φ G a w E;have A:=E.aq x H;have M:=E.aq i hi;rw[N]at A;rw[AW]at M;generalize V:a.eval x=av at A;cases A with|d _ _ A=>
     have Ar:=A;cases A with|agg _ A4 Ap Aq Ac=>
     have AB:n<(len:Int):=by omega
     have As:n.toNat*sz+sz<=cs.length:=by
      have:(n.toNat+1)*sz<=len*sz:=aaC _ I;rw[acU]at this;omega
     refine⟨_,?_,.d _ _ (xI Ar (n.toNat*sz) sz As)⟩;have AC:=E2 (P:=P) (w:=w) (t:=e) (cs:=A4) (off:=n.toNat*sz) AX Y;simp[execOp,J,V,jd M,Instr.index,asIntOf,run_underlying (si O),T,AB,run_sizeOf Y,AC]
    ·trivial
   ·trivial
  ·trivial
 ·trivial
def bound(m:Option AV)(AN:Int):Option Int:=
 match m with
 |none=>some AN
 |some (.d (.int _ n))=>some n
 |some _=>none
def jY(P:Program)(m:Mem)(t:TypeId)(x:AV)(lo hi:Option AV):cP:=
 match x with
 | .d (.str s)=>match bound lo 0,bound hi s.length with
  |some l,some h=>.val (tk P t=.str/\0<=l/\l<=h/\h.toNat<=s.length) (.d (.str ((s.take h.toNat).drop l.toNat)))
  |_,_=>.no
 | .d (.list xs)=>match tk P t with
  | .slice e=>match eM P e,bound lo 0,bound hi xs.length with
   |some sz,some l,some h=>.val (0<=l/\l<=h/\h.toNat<=xs.length/\(∀d∈xs,d.size=sz)) (.d (.list ((xs.take h.toNat).drop l.toNat)))
   |_,_,_=>.no
  |_=>.no
 | .vec k ak off len=>match tk P t,Mem.get m k with
  | .slice e,some ⟨_,v,.vec A2 _⟩=>match eM P e,bound lo 0,bound hi len with
   |some sz,some l,some h=>.val (v=ak/\A2=sz/\0<=l/\l<=h/\h.toNat<=len) (.vec k ak (off+l.toNat) (h.toNat-l.toNat))
   |_,_,_=>.no
  | .slice e,some ⟨_,v,.vv _ _⟩=>match eM P e,bound lo 0,bound hi len with
   |some sz,some l,some h=>.val (v=ak/\sz=1/\0<=l/\l<=h/\h.toNat<=len) (.vec k ak (off+l.toNat) (h.toNat-l.toNat))
   |_,_,_=>.no
  |_,_=>.no
 | .cn k ak i j=>match tk P t,Mem.get m k with
  | .arr n e,some ⟨_,v,.vec A2 ag⟩=>match eM P e,bound lo 0,bound hi n with
   |some sz,some l,some h=>.val (v=ak/\A2=sz/\i=0/\j=0/\n<=ag.length/\0<=l/\l<=h/\h.toNat<=n) (.vec k ak l.toNat (h.toNat-l.toNat))
   |_,_,_=>.no
  |_,_=>.no
 | .ptr k ak off=>match tk P t,Mem.get m k with
  | .arr n e,some ⟨_,v,.box cs⟩=>match eM P e,bound lo 0,bound hi n with
   |some sz,some l,some h=>.val (v=ak/\sz=1/\off+n<=cs.length/\0<=l/\l<=h/\h.toNat<=n) (.vec k ak (off+l.toNat) (h.toNat-l.toNat))
   |_,_,_=>.no
  |_,_=>.no
 |_=>.no
theorem gV{P:Program}{w:World}{isS:Bool}{len cap:Nat}{lo hi:Option Value}{l h:Int}
 (A6:(lo=none/\l=0)\/∃k,lo=some (.int k l)) (A7:(hi=none/\h=len)\/∃k,hi=some (.int k h)) (T:0<=l) (hle:l<=h) (A0:h.toNat<=cap):
 (Instr.sliceBounds isS len cap lo hi none).run P w=.ok (l.toNat,h.toNat,cap) w:=by
 have A:h<=(cap:Int):=by omega
 have M:0<=h:=by omega
 have AJ:l<=(h.toNat:Int):=by omega
 rcases A6 with ⟨rfl,rfl⟩|⟨k,rfl⟩<;>rcases A7 with ⟨rfl,rfl⟩|⟨B6,rfl⟩<;>
  simp_all [Instr.sliceBounds,Instr.sliceBound,asIntOf]
theorem gn{S:St}{φ G a w}(E:Rel φ G S a w){x:Option Operand}{AN n:Int}(H:∀y,x=some y->(S.aq y).1=true)(h:bound (x.map λy=>(S.aq y).2) AN=some n):
 (x.map a.eval=none/\n=AN)\/∃k,x.map a.eval=some (.int k n):=by
 cases x with
 |none=>simp[bound]at h;exact .inl ⟨rfl,h.symm⟩
 |some y=>
  right;simp only[afJ]at h⊢;unfold bound at h;split at h
  ·rename_i heq;cases heq
  ·rename_i k m heq;simp at h heq;subst h;have:=E.aq y (H y rfl);rw[heq]at this;exact⟨k,by rw[jd this]⟩
  ·cases h
theorem OD{w F xs v sz}(h:aJ w F (.list xs) v)(Y:∀d∈xs,d.size=sz){l hh:Nat}(hle:l<=hh)(At:hh<=xs.length):
 ∃ao cap,v=.slice ao xs.length cap/\xs.length<=cap/\(ao=none->cap=0)/\∀AG AK,(AK=none->AG=0)->hh-l<=AG->(AK=ao.map (·.add (l*sz))\/(hh-l=0))->aJ w F (.list ((xs.take hh).drop l)) (.slice AK (hh-l) AG):=by
 have I:((xs.take hh).drop l).length=hh-l:=by simp;omega
 generalize H:D.list xs=x at h;cases h with
 |nil a c AZ=>
  simp at H;subst H;refine⟨a,c,rfl,by simp,AZ,λAG AK A_ _ _=>?_⟩;have A:hh-l=0:=by simp at At;omega
  rw[A];simp;exact .nil _ _ A_
 |list AL b off cap A2 vs A0 Au Av AO AF U=>
  simp at H;subst H;refine⟨_,cap,rfl,A0,by simp,λAG AK A_ AP AQ=>?_⟩;by_cases Ae:hh-l=0
  ·have e:(xs.take hh).drop l=[]:=acp (by omega);rw[e,Ae];exact .nil _ _ A_
  ·have AQ:=AQ.resolve_right Ae;have Aw:A2=sz:=by
    have Af:0<xs.length:=by omega
    rw[<-AO xs[0] (acN Af),Y xs[0] (acN Af)]
   subst Aw;simp only[afJ,eN]at AQ;rw[AQ,<-I];refine .list _ b (off+l*A2) AG A2 (λi=>vs (l+i)) (by rw[I];exact AP) Au Av (λd A8=>AO d (acf (ach A8))) (λi d A8=>?_) (λi j c hi Ax=>?_)
   ·rw[acq,aaz]at A8;split at A8
    ·exact AF _ d A8
    ·cases A8
   ·have:=U (l+i) j c (by rw[I]at hi;omega) Ax;rw[acU,<-aci]at this;exact this
 |_=>simp at H
theorem Vs(P:Program)(S:St)(o:Oper)(t:TypeId)(x:Operand)(lo hi:Option Operand)(J:o.op=.slice t x lo hi none)(H:(S.aq x).1=true)(A6:∀y,lo=some y->(S.aq y).1=true)(A7:∀y,hi=some y->(S.aq y).1=true):
 aD P S o (jY P S.mem t (S.aq x).2 (lo.map λy=>(S.aq y).2) (hi.map λy=>(S.aq y).2)):=by
 unfold jY;split
 ·rename_i s N;split
  ·rename_i l h I hh;refine aD.pure ?_;rintro ⟨AA,T,hle,A0⟩ φ G a w E;have A:=E.aq x H;rw[N]at A;obtain⟨b,A1,rfl⟩:=sh A;have AR:b.size=b.data.toList.length:=by rw[abZ];rfl
   have A3:=gV (P:=P) (w:=w) (isS:=false) (len:=b.size) (cap:=b.size) (gn E A6 I) (by have:=gn E A7 hh;rw[<-AR]at this;exact this) T hle (by rw[AR];exact A0);refine⟨.string (b.extract l.toNat h.toNat),?_,.d _ _ (.str _ _ ?_)⟩
   ·simp[execOp,J,A1,Instr.sliceAt,Instr.slice,run_underlying (mO AA),A3]
   ·simp[ByteArray.data_extract,List.drop_take]
  ·trivial
 ·rename_i xs N;split
  ·rename_i e O;split
   ·rename_i sz l h Y I hh;refine aD.pure ?_;rintro ⟨T,hle,A0,AO⟩ φ G a w E;have A:=E.aq x H;rw[N]at A;generalize V:a.eval x=av at A;cases A with|d _ _ A=>
    obtain⟨ao,cap,rfl,B7,AZ,Ay⟩:=OD A AO (l:=l.toNat) (hh:=h.toNat) (by omega) A0;have U:h.toNat<=cap:=by omega
    have A3:=gV (P:=P) (w:=w) (isS:=true) (len:=xs.length) (cap:=cap) (gn E A6 I) (gn E A7 hh) T hle U;refine⟨.slice (if cap=l.toNat then ao else ao.map (·.add (l.toNat*sz))) (h.toNat-l.toNat) (cap-l.toNat),?_,.d _ _ (Ay _ _ (λAB=>?_) (by omega) ?_)⟩
    ·simp[execOp,J,V,Instr.sliceAt,Instr.slice,run_underlying (ff O),A3,run_sizeOf Y]
    ·have:ao=none:=by split at AB<;>simp_all
     have:=AZ this;omega
    ·by_cases Az:cap=l.toNat
     ·exact .inr (by omega)
     ·exact .inl (by simp[Az])
   ·trivial
  ·trivial
 ·rename_i k ak off len N;split
  ·rename_i e key v A2 ag O A5;split
   ·rename_i sz l h Y I hh;refine aD.pure ?_;rintro ⟨rfl,rfl,T,hle,A0⟩ φ G a w E;have A:=E.aq x H;rw[N]at A;obtain⟨hm,AS,L,A',Z,AD⟩:=E.mem.get A5;simp only at Z;generalize V:a.eval x=av at A;cases A with
    |vec _ _ _ _ _ L' A9 _ AE _=>
     rw[A']at A9;cases A9;obtain⟨ao,cap,rfl,Ag,AT⟩:=AE Z.symm;clear AE;have A3:=gV (P:=P) (w:=w) (isS:=true) (len:=len) (cap:=cap) (gn E A6 I) (gn E A7 hh) T hle (by omega);refine⟨.slice (if cap=l.toNat then ao else ao.map (·.add (l.toNat*A2))) (h.toNat-l.toNat) (cap-l.toNat),?_,?_⟩
     ·simp[execOp,J,V,Instr.sliceAt,Instr.slice,run_underlying (ff O),A3,run_sizeOf Y]
     ·refine .vec k v _ _ _ L A' (by omega) (λ_=>⟨_,_,rfl,by omega,λU=>?_⟩) rfl;obtain⟨rfl,B'⟩:=AT (by omega);refine⟨?_,by omega⟩;rw[aah (by omega)];simp only[afJ,eN,AD.1,acU,aci]
   ·trivial
  ·rename_i e key v ag y O A5;split
   ·rename_i sz l h Y I hh;refine aD.pure ?_;rintro ⟨rfl,rfl,T,hle,A0⟩ φ G a w E;have A:=E.aq x H;rw[N]at A;obtain⟨hm,AS,L,A',Z,AD⟩:=E.mem.get A5;simp only at Z;generalize V:a.eval x=av at A;cases A with
    |vec _ _ _ _ _ L' A9 _ AE _=>
     rw[A']at A9;cases A9;obtain⟨ao,cap,rfl,Ag,AT⟩:=AE Z.symm;clear AE;have A3:=gV (P:=P) (w:=w) (isS:=true) (len:=len) (cap:=cap) (gn E A6 I) (gn E A7 hh) T hle (by omega);refine⟨.slice (if cap=l.toNat then ao else ao.map (·.add (l.toNat*1))) (h.toNat-l.toNat) (cap-l.toNat),?_,?_⟩
     ·simp[execOp,J,V,Instr.sliceAt,Instr.slice,run_underlying (ff O),A3,run_sizeOf Y]
     ·refine .vec k v _ _ _ L A' (by omega) (λ_=>⟨_,_,rfl,by omega,λU=>?_⟩) rfl;obtain⟨rfl,B'⟩:=AT (by omega);refine⟨?_,by omega⟩;rw[aah (by omega)];simp only[afJ,eN,AD.1.1,acU,aci]
   ·trivial
  ·trivial
 ·rename_i k ak i j N;split
  ·rename_i n e key v A2 ag O A5;split
   ·rename_i sz l h Y I hh;refine aD.pure ?_;rintro ⟨rfl,rfl,rfl,rfl,AB,T,hle,A0⟩ φ G a w E;have A:=E.aq x H;rw[N]at A;obtain⟨hm,AS,L,A',Z,AD⟩:=E.mem.get A5;simp only at Z;have A1:=A.jT A' Z;have A3:=gV (P:=P) (w:=w) (isS:=false) (len:=n) (cap:=n) (gn E A6 I) (gn E A7 hh) T hle A0;refine⟨.slice (some (if n=l.toNat then ⟨L.cU,L.base,none⟩else ⟨L.cU,L.base+l.toNat*A2,none⟩)) (h.toNat-l.toNat) (n-l.toNat),?_,?_⟩
    ·simp[execOp,J,A1,Instr.sliceAt,Instr.sureAddr,run_underlying (si O),A3,run_sizeOf Y,eN]
    ·refine .vec k v _ _ _ L A' (by omega) (λ_=>⟨_,_,rfl,by omega,λU=>⟨?_,by have:=AD.2.1;omega⟩⟩) rfl;rw[aah (by omega),AD.1]
   ·trivial
  ·trivial
 ·rename_i k ak off N;split
  ·rename_i n e key v cs O A5;split
   ·rename_i sz l h Y I hh;refine aD.pure ?_;rintro ⟨rfl,rfl,AB,T,hle,A0⟩ φ G a w E;have A:=E.aq x H;rw[N]at A;obtain⟨hm,AS,L,A',Z,⟨B0,z2,z3⟩,_⟩:=E.mem.get A5;simp only at Z;have A1:=A.pY A' Z;have A3:=gV (P:=P) (w:=w) (isS:=false) (len:=n) (cap:=n) (gn E A6 I) (gn E A7 hh) T hle A0;refine⟨.slice (some (if n=l.toNat then ⟨L.cU,off,none⟩else ⟨L.cU,off+l.toNat,none⟩)) (h.toNat-l.toNat) (n-l.toNat),?_,?_⟩
    ·simp[execOp,J,A1,Instr.sliceAt,Instr.sureAddr,run_underlying (si O),A3,run_sizeOf Y,eN]
    ·refine .vec k v _ _ _ L A' (by omega) (λ_=>⟨_,_,rfl,by omega,λU=>⟨?_,by omega⟩⟩) rfl;rw[aah (by omega),B0,z2];simp
   ·trivial
  ·trivial
 ·trivial
def Cs(t:Bool)(x y:D):D:=
 match x,y with
 | .bool a,.bool b=>.bool (bif t then a else b)
 |x,y=>bif t then x else y
def sm(t:Bool)(x y:AV):AV:=
 match x,y with
 | .d x,.d y=>.d (Cs t x y)
 |x,y=>bif t then x else y
def Gs(c a b:Bool×AV):cP:=
 match c.2 with
 | .d (.bool t)=>.val (c.1=true/\(t=true->a.1=true)/\(t=false->b.1=true)) (sm t a.2 b.2)
 |_=>.no
theorem aaO(P:Program)(S:St)(o:Oper)(c x y:Operand)(J:o.op=.pick c x y):aD P S o (Gs (S.aq c) (S.aq x) (S.aq y)):=by
 unfold Gs;split
 ·rename_i t U;refine aD.pure ?_;rintro ⟨A,M,AJ⟩ φ G a w E;have Ah:=E.aq c A;rw[U]at Ah;have e:=rR Ah;cases t
  ·have AU:=E.aq y (AJ rfl);refine⟨a.eval y,by simp[execOp,J,e,asBool],?_⟩;have AM:sm false (S.aq x).2 (S.aq y).2=(S.aq y).2:=by
    unfold sm;split
    ·rename_i u v Ai Aj;rw[Aj];congr 1;unfold Cs;split<;>rfl
    ·rfl
   rw[AM];exact AU
  ·have H:=E.aq x (M rfl);refine⟨a.eval x,by simp[execOp,J,e,asBool],?_⟩;have AM:sm true (S.aq x).2 (S.aq y).2=(S.aq x).2:=by
    unfold sm;split
    ·rename_i u v Ai Aj;rw[Ai];congr 1;unfold Cs;split<;>rfl
    ·rfl
   rw[AM];exact H
 ·trivial
theorem aaP(P:Program)(S:St)(o:Oper)(x:Operand)(J:o.op=.move x\/o.op=.assign x)(H:(S.aq x).1=true):aD P S o (.val True (S.aq x).2):=by
 refine aD.pure λ_ φ G a w E=>⟨a.eval x,?_,E.aq x H⟩;rcases J with J|J<;>simp[execOp,J]
def Ha(op:UnOp)(x:AV):cP:=
 match op,x with
 | .not,.d (.bool b)=>.val True (.d (.bool (!b)))
 | .neg,.d (.int k n)=>.val True (.d (.int k (k.wrap (0-n))))
 | .xor,.d (.int k n)=>.val True (.d (.int k (k.wrap (BitVec.ofInt k.bits (if k.signed then-1 else k.max) ^^^ BitVec.ofInt k.bits n).toNat)))
 |_,_=>.no
theorem ahl(P:Program)(S:St)(o:Oper)(op:UnOp)(t:TypeId)(x:Operand)(J:o.op=.unOp op t x)(H:(S.aq x).1=true):aD P S o (Ha op (S.aq x).2):=by
 unfold Ha;split
 ·rename_i b N;refine aD.pure λ_ φ G a w E=>?_;have A:=E.aq x H;rw[N]at A;exact⟨.bool (!b),by simp[execOp,J,rR A,Op.unary],.d _ _ (.bool _)⟩
 ·rename_i k n N;refine aD.pure λ_ φ G a w E=>?_;have A:=E.aq x H;rw[N]at A;exact⟨.int k (k.wrap (0-n)),by simp only[execOp,J,jd A,Op.unary,Op.intArith,Sem.run_bind,Sem.run_pure,Result.andThen_ok],.d _ _ (.int _ _)⟩
 ·rename_i k n N;refine aD.pure λ_ φ G a w E=>?_;have A:=E.aq x H;rw[N]at A;exact⟨_,by simp only[execOp,J,jd A,Op.unary,Op.intBits,Sem.run_bind,Sem.run_pure,Result.andThen_ok],.d _ _ (.int _ _)⟩
 ·trivial
def sn(i:Nat)(x:AV):cP:=
 match x with
 | .bM vs=>match vs[i]? with
  |some v=>.val True v
  |none=>.no
 |_=>.no
theorem OE(P:Program)(S:St)(o:Oper)(x:Operand)(i:Nat)(J:o.op=.extract x i)(H:(S.aq x).1=true):aD P S o (sn i (S.aq x).2):=by
 unfold sn;split
 ·rename_i vs N;split
  ·rename_i v AF;refine aD.pure λ_ φ G a w E=>?_;have A:=E.aq x H;rw[N]at A;generalize V:a.eval x=av at A;cases A with|bM _ A4 I U=>
   have hi:i<A4.size:=by rw[<-I];exact (aaf.1 AF).1
   exact⟨A4[i],by simp[execOp,J,V,Instr.extract,hi],U i v _ AF (by simp[hi])⟩
  ·trivial
 ·trivial
def nG(f:Fn)(first cap:List AV):cP:=
 match f,first with
 | .func f,[]=>.val (f<qV) (.fn f cap)
 | .func f,x::r=>match cap with
  |[]=>.val True (.fn (f+qV) (x::r))
  |_=>.no
 |_,_=>.no
theorem JY(P:Program)(S:St)(o:Oper)(f:Fn)(first cap:Array Operand)(J:o.op=.makeFunc f first cap)(Ab:∀x∈first.toList,(S.aq x).1=true)(U:∀x∈cap.toList,(S.aq x).1=true):aD P S o (nG f (first.toList.map λx=>(S.aq x).2) (cap.toList.map λx=>(S.aq x).2)):=by
 have key:∀(l:Array Operand),(∀x∈l.toList,(S.aq x).1=true)->∀φ G a w,Rel φ G S a w->∀(i:Nat)(c:AV)(v:Value),(l.toList.map λx=>(S.aq x).2)[i]?=some c->(l.map a.eval)[i]?=some v->az φ w (Fo G φ S.mem) c v:=by
  intro l I φ G a w E i c v A M;simp only[acj,afw,aak]at A;simp only[Array.getElem?_map,aak]at M;obtain⟨x,H,rfl⟩:=A;obtain⟨y,AU,rfl⟩:=M;rw[H]at AU;cases AU;exact E.aq x (I x (by simpa using Array.mem_of_getElem? H))
 generalize Ak:(first.toList.map λx=>(S.aq x).2)=B8;generalize Al:(cap.toList.map λx=>(S.aq x).2)=cs;unfold nG;split
 ·rename_i f;refine aD.pure λB1 φ G a w E=>?_;have B2:first=#[]:=by cases first;simp_all
  refine⟨.func (.func f) #[] (cap.map a.eval),by simp[execOp,J,Instr.makeFunc,B2],.fn f _ _ B1 (by simp[<-Al]) (λi c v A M=>?_)⟩;rw[<-Al]at A;exact key cap U φ G a w E i c v A M
 ·rename_i f x r;split
  ·refine aD.pure λ_ φ G a w E=>?_;have B3:cap=#[]:=by cases cap;simp_all
   refine⟨.func (.func f) (first.map a.eval) #[],by simp[execOp,J,Instr.makeFunc,B3],.qW f _ _ (by rw[<-Ak];simp) (λi c v A M=>?_)⟩;rw[<-Ak]at A;exact key first Ab φ G a w E i c v A M
  ·trivial
 ·trivial
def rr(P:Program)(t:TypeId)(x:AV):cP:=
 match x.norm with
 | .d d=>.val (tk P t≠.iface/\tk P t≠.other) (.fR t d)
 |_=>.no
theorem Br{P:Program}{t:TypeId}(h:tk P t≠.other):∃d,P.underlying t=some d:=by
 unfold tk at h;cases hu:P.underlying t with
 |none=>simp[hu]at h
 |some d=>exact⟨d,rfl⟩
theorem Hb(P:Program)(S:St)(o:Oper)(t:TypeId)(x:Operand)(J:o.op=.makeInterface t x)(H:(S.aq x).1=true):aD P S o (rr P t (S.aq x).2):=by
 unfold rr;split
 ·rename_i d N;refine aD.pure ?_;rintro ⟨A,M⟩ φ G a w E;have AJ:=(E.aq x H).norm;rw[N]at AJ;obtain⟨An,hu⟩:=Br M;refine⟨.iface t (a.eval x),?_,?_⟩
  ·have AY:∀ms,An≠.interface ms:=by rintro ms rfl;simp[tk,hu]at A
   simp only[execOp,J,Instr.makeInterface,Sem.run_bind,run_underlying hu,Result.andThen_ok];cases An<;>first|rfl|exact absurd rfl (AY _)
  ·cases AJ with|d _ _ h=>exact .fR t d _ h
 ·trivial
def m7(P:Program)(m:Mem)(t:TypeId)(x:AV):cP:=
 match x with
 | .d (.str s)=>.val (tk P t=.str) (.d (.int .i64 s.length))
 | .d (.list xs)=>match tk P t with
  | .slice _=>.val True (.d (.int .i64 xs.length))
  |_=>.no
 | .vec k ak _ len=>match tk P t,Mem.get m k with
  | .slice _,some ⟨_,v,_⟩=>.val (v=ak) (.d (.int .i64 len))
  |_,_=>.no
 | .lit (.slice none 0 0)=>match tk P t with
  | .slice _=>.val True (.d (.int .i64 0))
  |_=>.no
 | .nn=>match tk P t with
  | .slice _=>.val True (.d (.int .i64 0))
  |_=>.no
 |_=>match tk P t with
  | .arr n _=>.val True (.d (.int .i64 n))
  |_=>.no
theorem run_len_slice{P:Program}{w:World}{t ty e:TypeId}{ao len cap}(h:tk P t=.slice e):(Builtin.len_ #[t] ty #[.slice ao len cap]).run P w=.ok (.int .i64 len) w:=by
 simp[Builtin.len_,run_underlying (ff h),goInt]
theorem ace(P:Program)(S:St)(o:Oper)(x:Operand)(t:TypeId)(J:o.op=.call {callee:=.builtin .len,args:=#[x],argTypes:=#[t]})(H:(S.aq x).1=true):aD P S o (m7 P S.mem t (S.aq x).2):=by
 have AH:∀(a:Act)(w:World)(v:Value),(Builtin.len_ #[t] o.type #[a.eval x]).run P w=.ok v w->(execOp a.eval o).run P w=.ok (.value v) w:=by
  intro a w v h;simp[execOp,J,resolve,invoke,builtin,h]
 unfold m7;split
 ·rename_i s N;refine aD.pure λAA φ G a w E=>?_;have A:=E.aq x H;rw[N]at A;obtain⟨b,A1,rfl⟩:=sh A;have AR:b.size=b.data.toList.length:=by rw[abZ];rfl
  refine⟨.int .i64 b.data.toList.length,AH a w _ ?_,.d _ _ (.int _ _)⟩;simp only[Builtin.len_,A1,ac6,List.getElem?_cons_zero,Sem.run_bind,run_underlying (mO AA),Result.andThen_ok,Sem.run_pure,goInt,<-AR]
 ·rename_i xs N;split
  ·rename_i e O;refine aD.pure λ_ φ G a w E=>?_;have A:=E.aq x H;rw[N]at A;generalize V:a.eval x=av at A;cases A with|d _ _ h=>
   have I:∃ao cap,av=.slice ao xs.length cap:=by cases h<;>exact⟨_,_,rfl⟩
   obtain⟨ao,cap,rfl⟩:=I;exact⟨_,AH a w _ (by rw[V];exact run_len_slice O),.d _ _ (.int _ _)⟩
  ·trivial
 ·rename_i k ak off len N;split
  ·rename_i e key v cont O A5;refine aD.pure ?_;rintro rfl φ G a w E;have A:=E.aq x H;rw[N]at A;obtain⟨hm,AS,L,A',Z,AD⟩:=E.mem.get A5;simp only at Z;generalize V:a.eval x=av at A;cases A with
   |vec _ _ _ _ _ L' A9 _ AE _=>
    rw[A']at A9;cases A9;obtain⟨ao,cap,rfl,Ag,AT⟩:=AE Z.symm;exact⟨_,AH a w _ (by rw[V];exact run_len_slice O),.d _ _ (.int _ _)⟩
  ·trivial
 ·rename_i N;split
  ·rename_i e O;refine aD.pure λ_ φ G a w E=>?_;have A:=E.aq x H;rw[N]at A;generalize V:a.eval x=av at A;cases A;exact⟨_,AH a w _ (by rw[V];exact run_len_slice O),.d _ _ (.int _ _)⟩
  ·trivial
 ·rename_i N;split
  ·rename_i e O;refine aD.pure λ_ φ G a w E=>?_;have A:=E.aq x H;rw[N]at A;generalize V:a.eval x=av at A;cases A;exact⟨_,AH a w _ (by rw[V];exact run_len_slice O),.d _ _ (.int _ _)⟩
  ·trivial
 ·split
  ·rename_i n e O;refine aD.pure λ_ φ G a w E=>?_;refine⟨.int .i64 n,AH a w _ ?_,.d _ _ (.int _ _)⟩;simp[Builtin.len_,run_underlying (si O),goInt]
  ·trivial
def l5(isMax:Bool):AV->List AV->Option D
 | .d (.int k a),[]=>some (.int k a)
 | .d (.int k a),y::r=>match y with
  | .d (.int _ b)=>l5 isMax (.d (.int k (if isMax then (if b>a then b else a)else (if b<a then b else a)))) r
  |_=>none
 |_,_=>none
def D7(isMax:Bool)(xs:List AV):cP:=
 match xs with
 |x::r=>match l5 isMax x r with
  |some d=>.val True (.d d)
  |none=>.no
 |[]=>.no
theorem JZ{P:Program}{φ w F}(isMax:Bool):∀(xs:List AV)(x:AV)(vs:List Value)(v:Value)(d:D),l5 isMax x xs=some d->az φ w F x v->xs.length=vs.length->
 (∀(i:Nat) c u,xs[i]?=some c->vs[i]?=some u->az φ w F c u)->
 ∃u,(vs.foldlM (if isMax then Builtin.max2 else Builtin.min2) v).run P w=.ok u w/\aJ w F d u:=by
 intro xs;induction xs with
 |nil=>
  intro x vs v d h H I U;have:vs=[]:=acp (by simpa using I.symm);subst this;unfold l5 at h;split at h<;>simp_all;subst h;rw[jd H];exact .int _ _
 |cons y AL ih=>
  intro x vs v d h H I U;cases vs with
  |nil=>simp at I
  |cons u us=>
   unfold l5 at h;split at h
   ·simp_all
   ·rename_i k a B9 r heq;simp at heq;obtain⟨rfl,rfl⟩:=heq;split at h
    ·rename_i B4 b;have A1:=jd H;have AM:=jd (U 0 (.d (.int B4 b)) u (by simp) (by simp));subst A1;subst AM;have AP:∀(i:Nat) c u,AL[i]?=some c->us[i]?=some u->az φ w F c u:=λi c u A M=>U (i+1) c u (by simpa using A) (by simpa using M);cases isMax
     ·obtain⟨Aa,A,M⟩:=ih _ us (.int k (if b<a then b else a)) d h (.d _ _ (.int _ _)) (by simpa using I) AP;refine⟨Aa,?_,M⟩;simp only[aky,acF]at A⊢;simp only[List.foldlM_cons,Builtin.min2,pure_bind];exact A
     ·obtain⟨Aa,A,M⟩:=ih _ us (.int k (if b>a then b else a)) d h (.d _ _ (.int _ _)) (by simpa using I) AP;refine⟨Aa,?_,M⟩;simp only[adI]at A⊢;simp only[List.foldlM_cons,Builtin.max2,pure_bind];exact A
    ·cases h
   ·cases h
theorem RG(P:Program)(S:St)(o:Oper)(isMax:Bool)(args:Array Operand)(B5:Array TypeId)(J:o.op=.call {callee:=.builtin (if isMax then .max else .min),args,argTypes:=B5})(H:∀x∈args.toList,(S.aq x).1=true):aD P S o (D7 isMax (args.toList.map λx=>(S.aq x).2)):=by
 unfold D7;split
 ·rename_i x r heq;split
  ·rename_i d A8;refine aD.pure λ_ φ G a w E=>?_;obtain⟨l,I⟩:∃l,args.toList=l:=⟨_,rfl⟩;rw[I]at heq H;cases l with
   |nil=>simp at heq
   |cons y AL=>
    simp at heq;obtain⟨rfl,rfl⟩:=heq;obtain⟨u,A,M⟩:=JZ (P:=P) (φ:=φ) (w:=w) (F:=Fo G φ S.mem) isMax _ _ (AL.map a.eval) (a.eval y) d A8 (E.aq y (H y (by simp))) (by simp) (λi c u A M=>by
     simp only[acj,aak]at A M;obtain⟨p,AC,rfl⟩:=A;obtain⟨q,Ao,rfl⟩:=M;rw[AC]at Ao;cases Ao;exact E.aq p (H p (by simp[aao AC])))
    refine⟨u,?_,.d _ _ M⟩;have BA:(args.map a.eval).toList=a.eval y::AL.map a.eval:=by simp[I]
    cases isMax
    ·simp only[aky,acF]at A J;simp[execOp,J,resolve,invoke,builtin,Builtin.min_,I,A]
    ·simp only[adI]at A J;simp[execOp,J,resolve,invoke,builtin,Builtin.max_,I,A]
  ·trivial
 ·trivial
theorem E3(off:Nat):∀(l:List Value)(k:Nat)(cs:Array Value),off+k+l.length<=cs.size->
 ((l.zipIdx k).foldl (λcs x=>cs.setIfInBounds (off+x.2) x.1) cs).toList=cs.toList.take (off+k)++l++cs.toList.drop (off+k+l.length)
 |[],k,cs,_=>by simp
 |v::l,k,cs,h=>by
  simp only[List.zipIdx_cons,afH,ab1]at h⊢;rw[E3 off l (k+1) _ (by simp;omega),Array.toList_setIfInBounds];have:=list_seg_step cs.toList (off+k) v l (by simp;omega);rw[show off+(k+1)=off+k+1 by omega,show off+k+(l.length+1)=off+k+1+l.length by omega];simpa [ab1,aci,Nat.add_comm 1]using this
theorem Hc(cs v:Array Value)(off:Nat)(h:off+v.size<=cs.size):
 (v.zipIdx.foldl (λcs (x:Value×Nat)=>cs.setIfInBounds (off+x.2) x.1) cs).toList=bf cs.toList off v.toList:=by
 rw[<-Array.foldl_toList,Array.toList_zipIdx,E3 off v.toList 0 cs (by simpa using h),cH _ _ _ (by simpa using h)];simp
def pK(place:Nat->Option (Nat×Nat)):List (Nat×AV)->Bool->List AV->Option (Bool×List AV)
 |[],c,cs=>some (c,cs)
 |(i,x)::r,c,cs=>match place i with
  |some (off,n)=>pK place r (c/\x.kr=true/\x.cells.length=n/\off+n<=cs.length) (bf cs off x.cells)
  |none=>none
theorem yo{φ w F}(place:Nat->Option (Nat×Nat)):∀(ps:List (Nat×AV))(U c:Bool)(cs O:List AV)(vs:List (Nat×Value))(E:Array Value),
 pK place ps U cs=some (c,O)->c=true->cs.length=E.size->(∀v∈E,cd v=true)->(∀(i:Nat) x v,cs[i]?=some x->E[i]?=some v->az φ w F x v)->
 ps.length=vs.length->(∀(i:Nat) p v,ps[i]?=some p->vs[i]?=some v->p.1=v.1/\az φ w F p.2 v.2)->
 ∃D,Instr.fill place E vs=some D/\U=true/\O.length=D.size/\(∀v∈D,cd v=true)/\∀(i:Nat) x v,O[i]?=some x->D[i]?=some v->az φ w F x v
 |[],U,c,cs,O,vs,E,h,N,I,H,J,V,Z=>by
  have:vs=[]:=acp (by simpa using V.symm);subst this;simp only[pK,aax,ab3]at h;obtain⟨rfl,rfl⟩:=h;exact⟨E,rfl,N,I,H,J⟩
 |(i,x)::ps,U,c,cs,O,vs,E,h,N,I,H,J,V,Z=>by
  cases vs with
  |nil=>simp at V
  |cons v vs=>
   obtain⟨j,v⟩:=v;obtain⟨AD,A'⟩:=Z 0 (i,x) (j,v) (by simp) (by simp);simp only at AD A';subst AD;simp only[pK]at h;split at h
   ·rename_i off n AP
    --AE condition of AE rest holds AE condition of this part
    obtain⟨q,A2⟩:∃q:Bool,q=decide (U=true/\x.kr=true/\x.cells.length=n/\off+n<=cs.length):=⟨_,rfl⟩;have AQ:c=true->q=true:=by
     rw[<-A2]at h;clear A2;revert h
     generalize bf cs off x.cells=AS;clear Z V J H I A' N;induction ps generalizing q AS with
     |nil=>intro h;simp only[pK,aax,ab3]at h;obtain⟨rfl,_⟩:=h;exact id
     |cons p ps ih=>
      intro h AF;simp only[pK]at h;split at h
      ·exact (acE (ih _ _ h AF)).1
      ·cases h
    have A0:=AQ N;rw[A2]at A0;replace A0:=acE A0;obtain⟨AT,AU,Ad,hle⟩:=A0;obtain⟨AG,AH⟩:=A'.kr AU;have AI:off+v.cells.size<=E.size:=by omega
    have A1:=Hc E v.cells off AI;obtain⟨A3,AJ⟩:∃A3,A3=v.cells.zipIdx.foldl (λcs (x:Value×Nat)=>cs.setIfInBounds (off+x.2) x.1) E:=⟨_,rfl⟩;rw[<-AJ]at A1;have AK:off+v.cells.toList.length<=E.toList.length:=by simpa using AI
    obtain⟨D,Y,AF,AW,AX,AY⟩:=yo (φ:=φ) (w:=w) (F:=F) place ps _ c _ O vs A3 h N
     (by rw[bI _ _ _ (by omega),<-abZ,A1,bI _ _ _ AK];simpa using I)
     (λu hu=>by
      rw[<-Array.mem_toList_iff,A1]at hu;rcases jW AK hu with hu|hu
      ·exact H u (by simpa using hu)
      ·exact AH u (by simpa using hu))
     (λi y u AZ hu=>by
      rw[<-afw,A1]at hu;exact r7 (R:=λx v=>az φ w F x v) (by simpa using I) (by simpa using AG.symm) (by omega) (λi c v h A=>J i c v h (by simpa using A)) (λi c v h A=>A'.cells AH AG i c v h (by simpa using A)) i y u AZ hu)
     (by simpa using V) (λi p v h A=>Z (i+1) p v (by simpa using h) (by simpa using A))
    refine⟨D,?_,AT,AW,AX,AY⟩;simp only[Instr.fill,AP];rw[aah (by simp;omega)];rw[<-Y,AJ]
   ·cases h
def bh(P:Program)(t:TypeId):Option (List (Nat×Nat)):=
 match P.underlying t with
 |some (.struct M)=>M.toList.mapM λf=>(P.info? f.type).map λi=>(f.offset,i.size)
 |_=>none
theorem AR{P:Program}{w:World}:∀(M:List Field)(l:List (Nat×Nat)),(M.mapM λf=>(P.info? f.type).map λi=>(f.offset,i.size))=some l->
 (M.mapM λf=>(do pure (f.offset,<-sizeOf f.type):Sem (Nat×Nat))).run P w=.ok l w
 |[],l,h=>by simp at h;subst h;simp
 |f::M,l,h=>by
  simp only[List.mapM_cons]at h⊢;cases hi:P.info? f.type with
  |none=>simp[hi]at h
  |some i=>
   simp only[hi,afJ,Option.pure_def,Option.bind_eq_bind,ac1]at h;cases hm:(M.mapM λf=>(P.info? f.type).map λi=>(f.offset,i.size))with
   |none=>simp[hm]at h
   |some A_=>
    simp[hm]at h;subst h;have A4:(sizeOf f.type).run P w=.ok i.size w:=run_sizeOf (by simp[eM,hi]);have ih:=AR (P:=P) (w:=w) M A_ hm;simp only[Sem.run_bind,A4,Result.andThen_ok,Sem.run_pure,ih]
def Cu(P:Program)(t:TypeId)(ps:List (Nat×AV)):cP:=
 match rq P t with
 |some zs=>match bh P t with
  |some l=>match pK (λi=>l[i]?) ps true zs with
   |some (c,cs)=>.val c (zY cs)
   |none=>.no
  |none=>match tk P t with
   | .arr _ e=>match eM P e with
    |some sz=>match pK (λi=>some (i*sz,sz)) ps true zs with
     |some (c,cs)=>.val c (zY cs)
     |none=>.no
    |none=>.no
   |_=>.no
 |none=>.no
theorem Vt(P:Program)(S:St)(o:Oper)(t:TypeId)(ps:Array (Nat×Operand))(AL:o.op=.build t ps)(Aa:∀x∈ps.toList,(S.aq x.2).1=true):
 aD P S o (Cu P t (ps.toList.map λx=>(x.1,(S.aq x.2).2))):=by
 have parts:∀{φ G a w},Rel φ G S a w->∀(i:Nat)(p:Nat×AV)(v:Nat×Value),(ps.toList.map λx=>(x.1,(S.aq x.2).2))[i]?=some p->(ps.toList.map λx=>(x.1,a.eval x.2))[i]?=some v->p.1=v.1/\az φ w (Fo G φ S.mem) p.2 v.2:=by
  intro φ G a w J i p v H T;simp only[acj,aak]at H T;obtain⟨x,AM,rfl⟩:=H;obtain⟨y,AN,rfl⟩:=T;rw[AM]at AN;cases AN;exact⟨rfl,J.aq _ (Aa x (aao AM))⟩
 unfold Cu;split
 ·rename_i zs AO;split
  ·rename_i l I;split
   ·rename_i c cs Y;refine aD.pH λN φ G a w J=>?_;obtain⟨z,A5,A6,H,A7⟩:=nA AO w;obtain⟨D,T,_,A8,A9,AA⟩:=yo (φ:=φ) (w:=w) (F:=Fo G φ S.mem) _ _ _ _ _ _ (ps.toList.map λx=>(x.1,a.eval x.2)) z.cells Y N A6.symm H (λi x v h A=>A7 _ _ _ i x v h A) (by simp) (parts J);unfold bh at I;split at I
    ·rename_i M hu;have hm:=AR (P:=P) (w:=w) M.toList l I;refine⟨.agg D,?_,?_⟩
     ·have Ab:(M.mapM λf=>(do pure (f.offset,<-sizeOf f.type):Sem (Nat×Nat))).run P w=.ok l.toArray w:=by
       rw[Array.mapM_eq_mapM_toList];simp only[Sem.run_map,hm,Result.andThen_ok]
      simp only[execOp,AL,Instr.build,Sem.run_bind,A5,Result.andThen_ok,run_underlying hu,Ab];have e:(λ(i:Nat)=>l.toArray[i]?)=λ(i:Nat)=>l[i]?:=by funext i;simp
      have AB:(Array.map (λx=>(x.1,a.eval x.2)) ps).toList=ps.toList.map λx=>(x.1,a.eval x.2):=by simp
      rw[e,AB,T];rfl
     ·have:=yb (φ:=φ) (w:=w) (F:=Fo G φ S.mem) (cs:=cs) (vs:=D.toList) (by simpa using A8) (λv AC=>A9 v (by simpa using AC)) (λi c v h A=>AA i c v h (by simpa using A));simpa using this
    ·cases I
   ·trivial
  ·split
   ·rename_i n e Ac;split
    ·rename_i sz A4;split
     ·rename_i c cs Y;refine aD.pH λN φ G a w J=>?_;obtain⟨z,A5,A6,H,A7⟩:=nA AO w;obtain⟨D,T,_,A8,A9,AA⟩:=yo (φ:=φ) (w:=w) (F:=Fo G φ S.mem) _ _ _ _ _ _ (ps.toList.map λx=>(x.1,a.eval x.2)) z.cells Y N A6.symm H (λi x v h A=>A7 _ _ _ i x v h A) (by simp) (parts J);refine⟨.agg D,?_,?_⟩
      ·simp only[execOp,AL,Instr.build,Sem.run_bind,A5,Result.andThen_ok,run_underlying (si Ac),run_sizeOf A4];have AB:(Array.map (λx=>(x.1,a.eval x.2)) ps).toList=ps.toList.map λx=>(x.1,a.eval x.2):=by simp
       rw[AB,T];rfl
      ·have:=yb (φ:=φ) (w:=w) (F:=Fo G φ S.mem) (cs:=cs) (vs:=D.toList) (by simpa using A8) (λv AC=>A9 v (by simpa using AC)) (λi c v h A=>AA i c v h (by simpa using A));simpa using this
     ·trivial
    ·trivial
   ·trivial
 ·trivial
theorem Bs(sz:Nat):∀(vs:List (Nat×Value))(k:Nat)(cells:Array Value),vs.map (·.1)=List.range' k vs.length->(∀v∈vs,v.2.cells.size=sz)->(k+vs.length)*sz=cells.size->
 ∃out,Instr.fill (λi=>some (i*sz,sz)) cells vs=some out/\out.toList=cells.toList.take (k*sz)++vs.flatMap (λv=>v.2.cells.toList)
 |[],k,cells,_,_,O=>by
  refine⟨cells,rfl,?_⟩;simp only[ae8,afA]at O;simp only[O,List.flatMap_nil,afl];rw[<-abZ,List.take_length]
 |(i,v)::vs,k,cells,hi,T,O=>by
  simp only[acZ,ab1,afZ,List.cons.injEq]at hi;obtain⟨rfl,hi⟩:=hi;have M:=T (i,v) (by simp);simp only at M;simp only[ab1]at O;have Aa:i*sz+v.cells.size<=cells.size:=by
   rw[M,<-O,<-afM];exact aaC _ (by omega)
  have H:=Hc cells v.cells (i*sz) Aa;obtain⟨AP,Ap⟩:∃AP,AP=v.cells.zipIdx.foldl (λcs (x:Value×Nat)=>cs.setIfInBounds (i*sz+x.2) x.1) cells:=⟨_,rfl⟩;rw[<-Ap]at H;have Aq:i*sz+v.cells.toList.length<=cells.toList.length:=by simpa using Aa
  have A4:AP.size=cells.size:=by rw[<-abZ,H,bI _ _ _ Aq];simp
  obtain⟨out,U,AQ⟩:=Bs sz vs (i+1) AP hi (λx J=>T x (by simp[J])) (by rw[A4,<-O];congr 1;omega);refine⟨out,?_,?_⟩
  ·simp only[Instr.fill];rw[aah (by simp;omega),<-U,Ap]
  ·rw[AQ,H,cH _ _ _ Aq];have BN:v.cells.toList.length=sz:=by simpa using M
   rw[afM,alq (by simp;omega),acI (by simp;omega)];simp
theorem Cv{φ w F}{sz:Nat}:∀(A:List D)(vs:List Value),A.length=vs.length->(∀d∈A,d.size=sz)->(∀(i:Nat) d v,A[i]?=some d->vs[i]?=some v->az φ w F (.d d) v)->
 bY w F sz A (vs.flatMap λv=>v.cells.toList)
 |[],vs,O,_,_=>by
  have:vs=[]:=acp (by simpa using O.symm);subst this;exact bY.nil ..
 |d::A,vs,O,T,E=>by
  cases vs with
  |nil=>simp at O
  |cons v vs=>
   have ih:=Cv (φ:=φ) (w:=w) (F:=F) A vs (by simpa using O) (λx J=>T x (by simp[J])) (λi d v h A7=>E (i+1) d v (by simpa using h) (by simpa using A7));have A8:=E 0 d v (by simp) (by simp);cases A8 with|d _ _ A8=>
   have A9:=T d (by simp);have AR:v.cells.size=sz:=by rw[A8.size,A9]
   have one:bY w F sz [d] v.cells.toList:=by
    refine⟨by simp[AR],λu hu=>A8.cells.2.1 u (by simpa using hu),λx J=>by simp at J;subst J;exact A9,λi x J=>?_⟩;cases i with
    |zero=>simp at J;subst J;exact⟨v,A8,λj c AC=>by simpa using AC⟩
    |succ i=>simp at J
   simpa using one.append ih
theorem He{w:World}{F F':Nat->Prop}{sz:Nat}{A:List D}{cs rest:List Value}{elem:TypeId}{fr}{N:World}{arr:Array Value}(E:bY w F sz A cs)(hh:N.heap[w.heap.size]?=some (.cells arr elem fr))(AD:arr.toList=cs++rest)
 (hm:∀x v,aJ w F x v->aJ N F' x v) (Ay:¬F' w.heap.size) (cap:Nat) (AI:A.length<=cap):aJ N F' (.list A) (.slice (some ⟨w.heap.size,0,none⟩) A.length cap):=by
 obtain⟨BO,a2,a3,a4⟩:=E;have Ab:∀i,∃v,∀d,A[i]?=some d->aJ w F d v/\∀(j:Nat) c,v.cells[j]?=some c->cs[i*sz+j]?=some c:=by
  intro i;cases I:A[i]? with
  |none=>exact⟨undef,λd h=>by cases h⟩
  |some d=>obtain⟨v,H,U⟩:=a4 i d I;exact⟨v,λAr h=>by cases h;exact⟨H,U⟩⟩
 obtain⟨vs,AR⟩:=Classical.axiomOfChoice Ab;refine .list A w.heap.size 0 cap sz vs AI ?_ Ay a3 (λi d I=>hm _ _ (AR i d I).1) (λi j c hi AC=>?_)
 ·exact (acw.1 hh).1
 ·obtain⟨H,U⟩:=AR i A[i] (by simp[hi]);have AQ:=U j c AC;rw[EV hh,<-afw,AD,ac3,aaq (aaf.1 AQ).1];exact AQ
theorem Hf{φ:bG}{G:Fr}{m:Mem}{w N:World}(hold:∀b,b<w.heap.size->N.heap[b]?=w.heap[b]?)(T:w.heap.size<=N.heap.size)(x v)(J:aJ w (Fo G φ m) x v):aJ N (Fo G φ m) x v:=
 J.mono (λb Z _=>hold b Z) T (λ_ _ h=>h)
def qd:List (Nat×AV)->Option (List D)
 |[]=>some []
 |(_,x)::r=>match x.norm,qd r with
  | .d d,some A=>some (d::A)
  |_,_=>none
theorem Cw{φ w F}:∀(ps:List (Nat×AV))(A:List D)(vs:List Value),qd ps=some A->ps.length=vs.length->(∀(i:Nat) p v,ps[i]?=some p->vs[i]?=some v->az φ w F p.2 v)->
 A.length=vs.length/\∀(i:Nat) d v,A[i]?=some d->vs[i]?=some v->az φ w F (.d d) v
 |[],A,vs,h,O,_=>by
  simp[qd]at h;subst h;exact⟨by simpa using O,λi d v A7=>by simp at A7⟩
 |(i,x)::ps,A,vs,h,O,E=>by
  simp only[qd]at h;split at h<;>simp at h;rename_i d Az J A9;subst h;cases vs with
  |nil=>simp at O
  |cons v vs=>
   have ih:=Cw (φ:=φ) (w:=w) (F:=F) ps Az vs A9 (by simpa using O) (λi p v h A7=>E (i+1) p v (by simpa using h) (by simpa using A7));refine⟨by simp[ih.1],λj Ar As h A7=>?_⟩;cases j with
   |zero=>
    simp at h A7;subst h;subst A7;have:=(E 0 (i,x) v (by simp) (by simp)).norm;simp only[J]at this;exact this
   |succ j=>exact ih.2 j Ar As (by simpa using h) (by simpa using A7)
def fW(P:Program)(t:TypeId)(A1:Nat)(len:Nat):List (Nat×AV)->Option cg->Option cP
 |[(0,.lit (.slice none 0 0))],some ⟨_,v,_⟩=>match tk P t with
  | .slice e=>match eM P e,lD P e with
   |some sz,some _=>some (.cG (sz=1/\len=1) (.vec A1 (v+1) 0 1) ⟨A1,v+1,.box [.lit (.slice none 0 0)]⟩)
   |_,_=>none
  |_=>none
 |_,_=>none
def pL(P:Program)(m:Mem)(A1:Nat)(t:TypeId)(len:Nat)(ps:List (Nat×AV)):cP:=
 match tk P t with
 | .slice e=>match eM P e,lD P e,qd ps with
  |some sz,some A5,some A=>match Mem.get m A1 with
   |some ⟨_,v,_⟩=>.cG (A5.size=sz/\len*sz<=2^24/\ps.map (·.1)=List.range' 0 len/\(∀d∈A,d.size=sz)) (.vec A1 (v+1) 0 len) ⟨A1,v+1,.vec sz A⟩
   |none=>.val (A5.size=sz/\len*sz<=2^24/\ps.map (·.1)=List.range' 0 len/\(∀d∈A,d.size=sz)) (.d (.list A))
  |_,_,_=>.no
 |_=>.no
def jA(P:Program)(m:Mem)(A1:Nat)(t:TypeId)(len:Nat)(ps:List (Nat×AV)):cP:=
 match fW P t A1 len ps (Mem.get m A1)with
 |some r=>r
 |none=>pL P m A1 t len ps
theorem u9{P:Program}{w:World}{t e:TypeId}{sz len:Nat}{A5:D}(AS:tk P t=.slice e)(T:eM P e=some sz)(AE:lD P e=some A5)(Z:len*sz<=2^24)
 {vs:List (Nat×Value)} (hi:vs.map (·.1)=List.range' 0 len) (M:∀v∈vs,v.2.cells.size=sz):
 ∃arr:Array Value,arr.toList=vs.flatMap (λv=>v.2.cells.toList)/\(Instr.buildSlice t len vs.toArray).run P w=.ok (.slice (some ⟨w.heap.size,0,none⟩) len len) (w.alloc (.cells arr e)):=by
 obtain⟨z,A',BP,BQ,_⟩:=Cn AE w;have V:vs.length=len:=by
  have:=ac8 List.length hi;simpa using this
 have B':¬(len*sz>2^24):=by omega
 by_cases A8:len*sz=0
 ·obtain⟨out,H,U⟩:=Bs sz vs 0 #[] (by rw[V];exact hi) M (by rw[V];simp[A8]);refine⟨out,by simpa using U,?_⟩;simp only[Instr.buildSlice,Sem.run_bind,run_underlying (ff AS),Result.andThen_ok,run_sizeOf T,A8,adI,show Array.range 0=#[]from rfl,Array.map_empty,H,show ¬(0>2^24) by decide,acF,Sem.run_bind,Sem.run_pure,gH]
 ·obtain⟨out,H,U⟩:=Bs sz vs 0 ((Array.range (len*sz)).map (z.cells[·%z.cells.size]!)) (by rw[V];exact hi) M (by rw[V];simp);refine⟨out,by simpa using U,?_⟩;simp only[Instr.buildSlice,Sem.run_bind,run_underlying (ff AS),Result.andThen_ok,run_sizeOf T,B',acF,A8,A',Sem.run_pure,H,gH]
theorem Gi(P:Program)(S:St)(o:Oper)(t:TypeId)(len:Nat)(ps:Array (Nat×Operand))(AT:o.op=.buildSlice t len ps)(J:∀x∈ps.toList,(S.aq x.2).1=true):
 aD P S o (jA P S.mem (keyOf o) t len (ps.toList.map λx=>(x.1,(S.aq x.2).2))):=by
 have parts:∀{φ G a w},Rel φ G S a w->∀(i:Nat)(p:Nat×AV)(v:Value),(ps.toList.map λx=>(x.1,(S.aq x.2).2))[i]?=some p->(ps.toList.map λx=>a.eval x.2)[i]?=some v->az φ w (Fo G φ S.mem) p.2 v:=by
  intro φ G a w E i p v H U;simp only[acj,aak]at H U;obtain⟨x,At,rfl⟩:=H;obtain⟨y,Au,rfl⟩:=U;rw[At]at Au;cases Au;exact E.aq _ (J x (aao At))
 have main:∀{e sz A5 A},tk P t=.slice e->eM P e=some sz->lD P e=some A5->qd (ps.toList.map λx=>(x.1,(S.aq x.2).2))=some A->A5.size=sz->len*sz<=2^24->
  (ps.toList.map λx=>(x.1,(S.aq x.2).2)).map (·.1)=List.range' 0 len->(∀d∈A,d.size=sz)->∀{φ G a w},Rel φ G S a w->
  A.length=len/\∃arr:Array Value,bY w (Fo G φ S.mem) sz A arr.toList/\(execOp a.eval o).run P w=.ok (.value (.slice (some ⟨w.heap.size,0,none⟩) len len)) (w.alloc (.cells arr e)):=by
  intro e sz A5 A AS T AE A9 AU Z hi A4 φ G a w E;obtain⟨H,U⟩:=Cw (φ:=φ) (w:=w) (F:=Fo G φ S.mem) _ A (ps.toList.map λx=>a.eval x.2) A9 (by simp) (parts E);have AF:=Cv A _ H A4 U;have B0:(ps.toList.map λx=>(x.1,a.eval x.2)).map (·.1)=List.range' 0 len:=by rw[<-hi];simp
  have M:∀v∈(ps.toList.map λx=>(x.1,a.eval x.2)),v.2.cells.size=sz:=by
   intro v M;simp only[acb]at M;obtain⟨x,B1,rfl⟩:=M;obtain⟨i,Av,B2⟩:=alr.1 B1;have hid:i<A.length:=by rw[H];simpa using Av
   have:=U i A[i] (a.eval x.2) (by simp[hid]) (by simp[acB Av,B2]);cases this with|d _ _ h=>rw[h.size];exact A4 _ (acN hid)
  obtain⟨arr,Ac,A'⟩:=u9 (P:=P) (w:=w) AS T AE Z B0 M;refine⟨?_,arr,?_,?_⟩
  ·have:=ac8 List.length hi;simp at this;rw[H];simp;exact this
  ·rw[Ac];have e:(ps.toList.map λx=>(x.1,a.eval x.2)).flatMap (λv=>v.2.cells.toList)=(ps.toList.map λx=>a.eval x.2).flatMap (λv=>v.cells.toList):=by simp[List.flatMap_map]
   rw[e];exact AF
  ·have B3:(ps.map λx=>(x.1,a.eval x.2))=(ps.toList.map λx=>(x.1,a.eval x.2)).toArray:=by apply Array.ext';simp
   simp only[execOp,AT,Sem.run_bind];have Ad:(ps.map λ(i,x)=>(i,a.eval x))=(ps.toList.map λx=>(x.1,a.eval x.2)).toArray:=B3;rw[Ad,A'];rfl
 have nil:∀r,fW P t (keyOf o) len (ps.toList.map λx=>(x.1,(S.aq x.2).2)) (Mem.get S.mem (keyOf o))=some r->aD P S o r:=by
  intro r A2;unfold fW at A2;split at A2
  ·rename_i key v cont AL AJ;split at A2
   ·rename_i e AW;split at A2
    ·rename_i sz A5 T AE;cases A2;refine aD.qI ?_;rintro ⟨rfl,rfl⟩ φ G a w E;have B4:ps.toList.length=1:=by have:=ac8 List.length AL;simpa using this
     obtain⟨q,Ae⟩:∃q,ps.toList=[q]:=by
      match BR:ps.toList,B4 with
      |[q],_=>exact⟨q,rfl⟩
     have Af:=parts E 0 (0,.lit (.slice none 0 0)) (a.eval q.2) (by rw[AL];rfl) (by rw[Ae];rfl);simp only at Af;have Ag:a.eval q.2=.slice none 0 0:=by
      generalize a.eval q.2=u at Af;cases Af;rfl
     have B5:q.1=0:=by
      rw[Ae]at AL;simp only[acZ,List.map_nil,List.cons.injEq,ab3]at AL;exact AL.1.1
     obtain⟨arr,Ac,A'⟩:=u9 (P:=P) (w:=w) (len:=1) AW T AE (by decide) (vs:=[(0,.slice none 0 0)]) rfl (by simp[Value.cells]);have AD:arr=#[.slice none 0 0]:=by apply Array.ext';rw[Ac];simp[Value.cells]
     subst AD;obtain⟨hm,AG,L,AM,AH,_⟩:=E.mem.get AJ;simp only at AG AH;subst AG;obtain⟨φ',Ah,Ai,Aj,Ak⟩:=E.mem.fresh (e:=⟨keyOf o,v,cont⟩) hm AM AH w rfl rfl rfl rfl #[.slice none 0 0] e 1 1 (.box [.lit (.slice none 0 0)]) (λ_ Z=>Z) (λφ' hle B6 Aw AA=>by
      refine⟨⟨rfl,rfl,rfl⟩,#[.slice none 0 0],e,.new AA,rfl,by simp[cd],λn c u A3 hu=>?_⟩;cases n with
      |zero=>simp at A3 hu;subst A3;subst hu;exact .lit _ rfl
      |succ n=>simp at A3)
     refine⟨.slice (some ⟨w.heap.size,0,none⟩) 1 1,_,φ',.inl ?_,.vec _ (v+1) 0 _ _ _ Aj (aai _) (λ_=>⟨_,_,rfl,aai _,λ_=>⟨by simp,by simp⟩⟩) rfl,Ah,Ai,Ak⟩;have Ad:(ps.map λ(i,x)=>(i,a.eval x))=#[(0,.slice none 0 0)]:=by
      apply Array.ext';simp[Ae,B5,Ag]
     simp only[execOp,AT,Sem.run_bind];rw[Ad];have B7:(Instr.buildSlice t 1 #[(0,Value.slice none 0 0)]).run P w=_:=A';rw[B7];rfl
    ·cases A2
   ·cases A2
  ·cases A2
 unfold jA;split
 ·rename_i r A2;exact nil r A2
 rename_i A2;clear A2 nil;unfold pL;split
 ·rename_i e AW;split
  ·rename_i sz A5 A T AE A9;split
   ·rename_i key v cont AJ;refine aD.qI ?_;rintro ⟨AU,Z,hi,A4⟩ φ G a w E;obtain⟨V,arr,AF,A'⟩:=main AW T AE A9 AU Z hi A4 E;obtain⟨hm,AG,L,AM,AH,_⟩:=E.mem.get AJ;simp only at AG AH;subst AG;obtain⟨φ',Ah,Ai,Aj,Ak⟩:=E.mem.fresh (e:=⟨keyOf o,v,cont⟩) hm AM AH w rfl rfl rfl rfl arr e sz len (.vec sz A) (λ_ Z=>Z.2) (λφ' hle B6 Aw AA=>by
     refine um (cs:=arr.toList) (rest:=[]) (elem:=e) rfl rfl (AF.mono Aw) (by simp) (by simpa using Nat.le_of_eq V) (by rw[afl,AF.1,V]) (λ_=>?_);refine en.new ?_;rw[AA,afl,als])
    exact⟨_,_,φ',.inl A',.vec _ (v+1) 0 _ _ _ Aj (aai _) (λ_=>⟨_,_,rfl,aai _,λ_=>⟨by simp,by simp⟩⟩) rfl,Ah,Ai,Ak⟩
   ·refine aD.alX ?_;rintro ⟨AU,Z,hi,A4⟩ φ G a w E;obtain⟨V,arr,AF,A'⟩:=main AW T AE A9 AU Z hi A4 E;have hold:∀b,b<w.heap.size->(w.alloc (.cells arr e)).heap[b]?=w.heap[b]?:=λb Z=>RowKit.Below.heap_alloc w _ b Z;have AA:=heap_alloc_new w (.cells arr e);refine⟨_,_,.inl A',.d _ _ ?_,hold,by simp,rfl,rfl,rfl⟩;have:=He (cap:=len) AF AA (rest:=[]) (by simp) (λx v h=>Hf hold (by simp) x v h) (λh=>absurd (Bp E.mem _ h) (Nat.lt_irrefl _)) (Nat.le_of_eq V);rw[V]at this;exact this
  ·trivial
 ·trivial
def qe(s:List UInt8):List D:=s.map λb=>.int .u8 b.toNat
def byteOf:D->UInt8
 | .int _ n=>UInt8.ofNat n.toNat
 |_=>0
def D.isByte:D->Bool
 | .int .u8 _=>true
 |_=>false
theorem D.RJ{d:D}(h:d.isByte=true):∃n,d=.int .u8 n:=by
 unfold D.isByte at h;split at h<;>simp_all
def lu(P:Program)(m:Mem)(A1:Nat)(src dst:TypeId)(x:AV):cP:=
 match tk P dst,x with
 | .int k,.d (.int _ n)=>.val (tk P src≠.other) (.d (.int k (k.wrap n)))
 | .str,.d (.int _ n)=>.val (tk P src≠.other) (.d (.str (Utf8.encode n).data.toList))
 | .str,.d (.str s)=>.val (tk P src=.str) (.d (.str s))
 | .str,x=>match tk P src with
  | .slice e=>match gk m 1 x with
   |some (c,A6)=>.val (c/\tk P e=.int .u8/\eM P e=some 1/\∀d∈A6,d.isByte=true) (.d (.str (A6.map byteOf)))
   |none=>.no
  |_=>.no
 | .slice e,.d (.str s)=>match tk P src,tk P e,Mem.get m A1 with
  | .str,.int .u8,none=>.val True (.d (.list (qe s)))
  |_,_,_=>.no
 |_,_=>.no
theorem Cx{P:Program}{w:World}:∀(cs:List Value)(s0:ByteArray)(Y:List Int),cs=Y.map (Value.int .u8)->
 (forIn cs s0 (λc s=>(match c with| .int .u8 n=>pure (ForInStep.yield (s.push (UInt8.ofNat n.toNat)))|_=>(do stuck "bytesToString: byte expected";pure (ForInStep.yield s)):Sem (ForInStep ByteArray)))).run P w=.ok ⟨(s0.data.toList++Y.map λn=>UInt8.ofNat n.toNat).toArray⟩ w
 |[],s0,Y,h=>by
  have:Y=[]:=by simpa using h.symm
  subst this;simp
 |c::cs,s0,Y,h=>by
  cases Y with
  |nil=>simp at h
  |cons n Y=>
   simp at h;obtain⟨rfl,rfl⟩:=h;simp only[List.forIn_cons,Sem.run_bind,Sem.run_pure,Result.andThen_ok];rw[Cx (Y.map (Value.int .u8)) (s0.push (UInt8.ofNat n.toNat)) Y rfl];simp
theorem J0{P:Program}{w:World}{e:TypeId}{b:ByteArray}:∃(arr:Array Value)(fr:Nat×Nat)(w':World)(cap:Nat)(rest:List Value),b.size<=cap/\(Conv.stringToBytes e b).run P w=.ok (.slice (some ⟨w.heap.size,0,none⟩) b.size cap) w'/\
 arr.toList=(b.data.toList.map λx=>Value.int .u8 x.toNat)++rest/\w'.heap[w.heap.size]?=some (.cells arr e fr)/\(∀k,k<w.heap.size->w'.heap[k]?=w.heap[k]?)/\w.heap.size<=w'.heap.size/\w'.os=w.os/\w'.tape=w.tape/\w'.output=w.output:=by
 obtain⟨cap,AI⟩:∃cap,cap=(Question.appendCap b.size 0 e).cut (w.tape w.drawn (.appendCap b.size 0 e)):=⟨_,rfl⟩;obtain⟨arr,AD⟩:∃arr:Array Value,arr=(b.data.map λx=>Value.int .u8 x.toNat)++Array.replicate (cap-b.size) (.int .u8 0):=⟨_,rfl⟩;obtain⟨N,AK⟩:∃N,N=w.drew.alloc (.cells arr e):=⟨_,rfl⟩;have AA:N.heap[w.heap.size]?=some (.cells arr e (0,0)):=by
  have:=heap_alloc_new w.drew (.cells arr e);rw[<-AK]at this;exact this
 have Aa:w.heap.size<N.heap.size:=(acw.1 AA).1;have B8:N.shape? w.heap.size=some (e,arr.size):=by simp[World.shape?,AA]
 refine⟨arr,(arr.size,arr.size+1),N.freeze ⟨w.heap.size,arr.size,none⟩ 1,cap,List.replicate (cap-b.size) (.int .u8 0),?_,?_,?_,?_,?_,?_,?_,?_,?_⟩
 ·rw[AI];simp[Question.cut]
 ·have Ab:(choose (.appendCap b.size 0 e)).run P w=.ok cap w.drew:=by
   rw[AI];rfl
  have B9:(newRow e arr).run P w.drew=.ok ⟨w.heap.size,0,none⟩ N:=by rw[AK];rfl
  have BA:(markStringish ⟨w.heap.size,0,none⟩).run P N=.ok () (N.freeze ⟨w.heap.size,arr.size,none⟩ 1):=by
   simp only[markStringish,shape,Sem.run_bind,Sem.run,B8,Result.andThen_ok,freeze]
  simp only[Conv.stringToBytes,Sem.run_bind,Ab,Result.andThen_ok,<-AD,B9,BA,Sem.run_pure]
 ·rw[AD];simp
 ·simp[World.freeze,agE,AA]
 ·intro k AG;have H:(N.freeze ⟨w.heap.size,arr.size,none⟩ 1).heap[k]?=N.heap[k]?:=by
   simp only[World.freeze,Nat.one_ne_zero,acF,agE];rw[aah (by omega)]
  rw[H,AK];exact RowKit.Below.heap_alloc w.drew _ k AG
 ·simp[World.freeze];omega
 ·simp[World.freeze,AK];rfl
 ·simp[World.freeze,AK]
 ·simp[World.freeze,AK];rfl
theorem OF(n:Int):byteOf (.int .u8 n)=UInt8.ofNat n.toNat:=rfl
theorem KH(P:Program)(S:St)(o:Oper)(src dst:TypeId)(x:Operand)(AT:o.op=.convert src dst x)(J:(S.aq x).1=true):aD P S o (lu P S.mem (keyOf o) src dst (S.aq x).2):=by
 have A':∀(a:Act)(w w':World)(v:Value),(convert src dst (a.eval x)).run P w=.ok v w'->(execOp a.eval o).run P w=.ok (.value v) w':=by
  intro a w w' v h;simp[execOp,AT,h]
 unfold lu;split
 ·rename_i k BS n I A0;refine aD.pure λA3 φ G a w E=>?_;have H:=E.aq x J;rw[A0]at H;obtain⟨BB,hu⟩:=Br A3;refine⟨.int k (k.wrap n),A' a w w _ ?_,.d _ _ (.int _ _)⟩;rw[jd H];simp[convert,run_underlying hu,run_underlying (u7 I),Conv.intToInt]
 ·rename_i k n I A0;refine aD.pure λA3 φ G a w E=>?_;have H:=E.aq x J;rw[A0]at H;obtain⟨BB,hu⟩:=Br A3;refine⟨.string (Utf8.encode n),A' a w w _ ?_,.d _ _ (.str _ _ rfl)⟩;rw[jd H];simp[convert,run_underlying hu,run_underlying (mO I),Conv.intToString]
 ·rename_i s I A0;refine aD.pure λA3 φ G a w E=>?_;have H:=E.aq x J;rw[A0]at H;obtain⟨b,Al,rfl⟩:=sh H;refine⟨.string b,A' a w w _ ?_,.d _ _ (.str _ _ rfl)⟩;rw[Al];simp[convert,run_underlying (mO A3),run_underlying (mO I)]
 ·rename_i I _ _;split
  ·rename_i e AX;split
   ·rename_i c A6 AB;refine aD.pure ?_;rintro ⟨A3,AY,BT,AN⟩ φ G a w E;replace AN:=λd I=>D.RJ (AN d I);have A0:=E.aq x J;obtain⟨BC,An⟩:=GR (P:=P) E.mem A0 AB A3 (λd I=>by obtain⟨n,rfl⟩:=AN d I;rfl);have V:=An.len w;have AO:=An.first w (λ_ _=>rfl);obtain⟨BD,BU,BV,BE⟩:=An.ag
    --BW cells as numbers
    have AZ:∃Y:List Int,BC=Y.map (Value.int .u8)/\A6=Y.map (D.int .u8):=by
     refine⟨A6.map λd=>(match d with| .int _ n=>n|_=>0),?_,?_⟩
     ·apply List.ext_getElem?;intro i;by_cases hi:i<A6.length
      ·obtain⟨v,M,BF⟩:=BE i A6[i] (by simp[hi]);obtain⟨n,A_⟩:=AN A6[i] (acN hi);rw[A_]at M;cases M;have:=BF 0 (.int .u8 n) rfl;simp only[akv,afA]at this;rw[this];simp[hi,A_]
      ·rw[afq (by rw[BD];omega),afq (by simp;omega)]
     ·apply List.ext_getElem?;intro i;by_cases hi:i<A6.length
      ·obtain⟨n,A_⟩:=AN A6[i] (acN hi);simp[hi,A_]
      ·rw[afq (by omega),afq (by simp;omega)]
    obtain⟨Y,rfl,rfl⟩:=AZ;generalize Ag:a.eval x=Ao at V AO A0;have M:(∃ao m cap,Ao=.slice ao m cap)\/(∃b,Ao=.string b):=by
     cases Ao<;>first|exact .inl ⟨_,_,_,rfl⟩|exact .inr ⟨_,rfl⟩|(simp[Builtin.lenOf,stuck]at V)
    refine⟨.string ⟨(Y.map λn=>UInt8.ofNat n.toNat).toArray⟩,A' a w w _ ?_,.d _ _ (.str _ _ ?_)⟩
    ·rw[Ag];rcases M with ⟨ao,m,cap,rfl⟩|⟨b,rfl⟩
     ·simp only[Builtin.lenOf,Sem.run_pure,Result.ok.injEq,and_true]at V;subst V;cases ao with
      |none=>
       have BG:Y=[]:=by
        simp only[Builtin.firstCells,Sem.run_pure,Result.ok.injEq,and_true]at AO;have:=ac8 Array.size AO;simp at this;exact acp this.symm
       subst BG;simp[convert,run_underlying (ff AX),run_underlying (mO I),run_underlying (u7 AY),Conv.bytesToString];rfl
      |some BX=>
       simp only[Builtin.firstCells,akv]at AO;have Z:=Cx (P:=P) (w:=w) (Y.map (Value.int .u8)) ByteArray.empty Y rfl;simp only[convert,run_underlying (ff AX),run_underlying (mO I),run_underlying (u7 AY),Sem.run_bind,Result.andThen_ok,Conv.bytesToString,AO];rw[<-Array.forIn_toList];simp only[Sem.run_pure];refine Eq.trans (ac8 (λr=>Result.andThen r λa w'=>Result.ok (Value.string a) w') Z) ?_;rfl
     ·exfalso;have AZ:∀s,(S.aq x).2=.d (.str s)->False:=by assumption
      generalize (S.aq x).2=y at AB A0 AZ;unfold gk at AB;split at AB
      ·cases A0 with|d _ _ h=>cases h
      ·exact AZ _ rfl
      ·cases A0
      ·cases A0
      ·split at AB
       ·rename_i key As BY ag AJ;simp only[aax,ab3]at AB;obtain⟨rfl,_⟩:=AB;obtain⟨_,_,L,AM,AH,_⟩:=E.mem.get AJ;cases A0 with
        |vec _ _ _ _ _ L' Ax _ h _=>
         rw[AM]at Ax;cases Ax;obtain⟨_,_,U,_⟩:=h (by rw[<-(acE A3).1];exact AH.symm);cases U
       ·cases AB
      ·cases AB
    ·simp[OF,Function.comp_def]
   ·trivial
  ·trivial
 ·rename_i e s I A0;split
  ·rename_i AX AY AJ;intro _ φ G a w E;have H:=E.aq x J;rw[A0]at H;obtain⟨b,Al,rfl⟩:=sh H;have BH:b.size=b.data.toList.length:=by rw[abZ];rfl
   obtain⟨arr,fr,w',cap,rest,AI,BI,AD,hh,hold,A4,BJ,BK,BL⟩:=J0 (P:=P) (w:=w) (e:=e) (b:=b);have AF:bY w (Fo G φ S.mem) 1 (qe b.data.toList) (b.data.toList.map λx=>Value.int .u8 x.toNat):=by
    refine⟨by simp[qe],?_,?_,?_⟩
    ·intro v M;simp only[acb]at M;obtain⟨y,_,rfl⟩:=M;rfl
    ·intro d I;simp only[qe,acb]at I;obtain⟨y,_,rfl⟩:=I;rfl
    ·intro i d I;simp only[qe,acj,aak]at I;obtain⟨y,BM,rfl⟩:=I;refine⟨.int .u8 y.toNat,.int _ _,λj c AC=>?_⟩;cases j with
     |zero=>simp only[Value.cells]at AC;simp at AC;subst AC;simp only[acj,akv,afA,BM];rfl
     |succ j=>simp[Value.cells]at AC
   have O:=He (cap:=cap) AF hh AD (λx v h=>Hf hold A4 x v h) (λh=>absurd (Bp E.mem _ h) (Nat.lt_irrefl _)) (by simp[qe];exact AI);refine⟨_,w',.inl (A' a w w' _ ?_),.d _ _ O,hold,A4,BJ,BK,BL⟩;have V:(qe b.data.toList).length=b.size:=by rw[BH];simp[qe]
   rw[Al,V];simp only[convert,run_underlying (mO AX),run_underlying (ff I),run_underlying (u7 AY),Sem.run_bind,Result.andThen_ok];exact BI
  ·trivial
 ·trivial
end Go.Am
end

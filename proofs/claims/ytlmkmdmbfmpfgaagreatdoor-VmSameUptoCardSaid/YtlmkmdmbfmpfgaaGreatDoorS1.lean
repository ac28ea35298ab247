/-
  Texts of one proof, one behind the other.
-/
import Derived.SizedLaws
import Derived.Handed
import Derived.Shelf.Vars
import Derived.KernelRfl
import Derived.WalkKit
import Derived.Laws.Rows
import Derived.Laws.CopyRow
import Derived.Laws.StructEq
set_option linter.all false
namespace Go.Am
open Go
def Ds:=@Bool.and_eq_true
def aaf:=@if_neg
def aap:=@List.getElem?_eq_some_iff
def aar:=@Nat.le_refl
def acY:=@List.length_append
def ac1:=@if_pos
def ac2:=@decide_eq_true_eq
def ac3:=@Option.map_eq_some_iff
def ac4:=@List.mem_cons
def ac5:=@List.length_cons
def ac6:=@List.mem_of_getElem?
def ac7:=@List.length_nil
def ac9:=@List.getElem?_append_left
def ada:=@List.mem_append
def adb:=@List.getElem?_append_right
def adf:=@List.eq_nil_of_length_eq_zero
def adk:=@List.mem_map
def adl:=@Option.some.injEq
def adn:=@List.getElem?_map
def ado:=@List.getElem?_eq_getElem
def adp:=@List.all_eq_true
def adq:=@List.getElem?_take
def adt:=@Nat.mul_le_mul_right
def adv:=@Nat.add_assoc
def adw:=@List.mem_of_mem_take
def adx:=@List.mem_of_mem_drop
def adz:=@List.map_cons
def adA:=@Array.length_toList
def adI:=@of_decide_eq_true
def adK:=@List.take_of_length_le
def adL:=@List.not_mem_nil
def adM:=@List.append_assoc
def adN:=@if_false
def adP:=@List.mem_map_of_mem
def adR:=@List.getElem?_drop
def ad7:=@if_true
def ad8:=@Option.bind_some
def aeb:=@Prod.mk.injEq
def aec:=@Bool.false_ne_true
def aed:=@decide_eq_false_iff_not
def aef:=@Array.getD_eq_getD_getElem?
def aeg:=@List.nil_append
def aej:=@List.mem_range
def aep:=@List.mem_cons_of_mem
def aet:=@Array.getElem?_eq_some_iff
def agO:=@Option.bind_eq_some_iff
def agT:=@Nat.zero_add
def agU:=@List.length_drop
def agV:=@List.append_nil
def agW:=@Nat.add_mul
def ag6:=@List.length_take
def ag9:=@List.getElem_mem
def aha:=@List.mem_filter
def ahb:=@List.take_append_of_le_length
def ahg:=@Classical.axiomOfChoice
def ahl:=@decide_eq_true
def ahq:=@Nat.add_zero
def ahr:=@List.size_toArray
def ahs:=@Bool.false_eq_true
def ahu:=@List.getD_eq_getElem?_getD
def ahw:=@congrArg
def ahx:=@Option.getD_some
def ahy:=@List.cons_append
def ahz:=@List.length_singleton
def ahA:=@List.getElem?_toArray
def ahH:=@Array.getElem?_toList
def ahI:=@Bool.not_eq_true'
def ahK:=@Option.map_some
def ahL:=@decide_eq_decide
def ahN:=@Ne.symm
def ahP:=@Nat.succ_mul
def ahS:=@List.filter_eq_nil_iff
def ahT:=@Array.getElem?_append_left
def ahU:=@List.getElem?_eq_none
def ah7:=@List.all_cons
def aid:=@Bool.true_and
def aie:=@List.range'_succ
def aif:=@List.filter_filter
def aih:=@List.filter_append
def ain:=@Bool.false_and
def air:=@List.take_append_drop
def aiB:=@List.eq_nil_or_concat
def aiC:=@List.getLast?_eq_getElem?
def aiI:=@List.drop_eq_getElem_cons
def aiL:=@Classical.byContradiction
def aiO:=@Array.getElem?_eq_getElem
def aiX:=@Option.some.inj
def aiY:=@Nat.min_eq_left
def ai8:=@List.map_set
def ai9:=@List.getElem?_set
def ajb:=@List.dropLast_concat
def akZ:=@Decidable.em
def alc:=@Option.isSome_iff_exists
def ale:=@Nat.mul_one
def alh:=@Nat.le_succ
def alp:=@not_or
def aly:=@Nat.lt_of_lt_of_le
def alB:=@Nat.le_trans
def alC:=@true_and
def alG:=@Nat.le_add_left
def alH:=@List.map_append
def alN:=@List.sum_cons
def alR:=@List.concat_eq_append
def alS:=@Array.getElem?_modify
def alT:=@List.filter_congr
def alY:=@Classical.not_not
def alZ:=@List.length_filter_lt_length_iff_exists
def al3:=@List.getElem?_set_ne
def al4:=@Int.le_refl
def ama:=@List.map_congr_left
def amr:=@Bool.and_true
def ams:=@Bool.or_eq_true
def amK:=@Nat.eq_zero_or_pos
def amM:=@List.set_cons_succ
def amQ:=@List.getElem?_replicate
def amR:=@List.filter_cons_of_neg
def amS:=@List.foldl_nil
def amT:=@Iff.rfl
def apM:=@List.sizeOf_lt_of_mem
def apN:=@Classical.choose_spec
def apO:=@Bool.and_eq_false_iff
def apP:=@List.map_take
def apQ:=@or_false
def apR:=@Nat.zero_le
def apS:=@List.mem_iff_getElem
def apT:=@List.mem_append_left
def apU:=@List.getElem?_of_mem
def apV:=@List.drop_append_of_le_length
def apW:=@Array.toArray_toList
end Go.Am
section
namespace Go.Am
open Go
set_option maxRecDepth 20000
set_option maxHeartbeats 4000000
inductive D where
 |int (k:IntKind) (n:Int)
 |bool (b:Bool)
 |str (s:List UInt8)
 |list (xs:List D)
 |agg (cs:List D)
 |Dx
def D.size:D->Nat
 | .agg cs=>cs.length
 |_=>1
def D.flat:D->Bool
 | .agg _=>false
 |_=>true
def dk:Value->Bool
 | .agg _=>false
 | .tuple _=>false
 |_=>true
def fA{v:Value}(h:dk v=true):v.cells=#[v]:=by cases v<;>simp_all [dk,Value.cells]
inductive aR(w:World)(F:Nat->Prop):D->Value->Prop
 |int (k n):aR w F (.int k n) (.int k n)
 |bool (b):aR w F (.bool b) (.bool b)
 |Dx (v:Value) (h:v=.nilIface\/∃t p,v=.iface t p):aR w F .Dx v
 |str (b:ByteArray) (s:List UInt8) (h:b.data.toList=s):aR w F (.str s) (.string b)
 |agg (cs:List D) (a:Array Value) (I:cs.length=a.size)
  (Y:∀d∈cs,d.flat=true) (J:∀(i:Nat)(d:D)(v:Value),cs[i]?=some d->a[i]?=some v->aR w F d v):aR w F (.agg cs) (.agg a)
 |nil (a:Option Addr) (cap:Nat) (A4:a=none->cap=0):aR w F (.list []) (.slice a 0 cap)
 |list (xs:List D) (b off cap sz:Nat) (vs:Nat->Value) (A5:xs.length<=cap) (U:b<w.heap.size) (T:¬F b) (A6:∀d∈xs,d.size=sz)
  (Z:∀(i:Nat)(d:D),xs[i]?=some d->aR w F d (vs i))
  (J:∀(i j:Nat)(c:Value),i<xs.length->(vs i).cells[j]?=some c->w.cell? ⟨b,off+i*sz+j,none⟩=some c):
  aR w F (.list xs) (.slice (some ⟨b,off,none⟩) xs.length cap)
def aR.size{w F d v}(h:aR w F d v):v.cells.size=d.size:=by
 cases h
 case Dx h=>rcases h with rfl|⟨t,p,rfl⟩<;>rfl
 all_goals simp_all [D.size,Value.cells]
def aR.one{w F d v}(h:aR w F d v)(Y:d.flat=true):dk v=true:=by
 cases h
 case Dx h=>rcases h with rfl|⟨t,p,rfl⟩<;>rfl
 all_goals simp_all [D.flat,Am.dk]
def nj{w w':World}{b o:Nat}(h:w'.heap[b]?=w.heap[b]?):w'.cell? ⟨b,o,none⟩=w.cell? ⟨b,o,none⟩:=by
 simp[World.cell?,h]
def aR.mono{w w':World}{F F':Nat->Prop}{d v}(h:aR w F d v)
 (y:∀b,b<w.heap.size->¬F b->w'.heap[b]?=w.heap[b]?) (A1:w.heap.size<=w'.heap.size) (T:∀b,b<w.heap.size->F' b->F b):aR w' F' d v:=by
 induction h with
 |int k n=>exact .int k n
 |bool b=>exact .bool b
 |Dx v h=>exact .Dx v h
 |str b s h=>exact .str b s h
 |agg cs a I Y _ ih=>exact .agg cs a I Y ih
 |nil a cap A4=>exact .nil a cap A4
 |list xs b off cap sz vs A5 U A' A6 _ J ih=>
  exact .list xs b off cap sz vs A5 (by omega) (λh=>A' (T b U h)) A6 ih (λi j c hi AC=>by
   rw[nj (y b U A')];exact J i j c hi AC)
def xe:Nat:=1000000
inductive AV where
 |bH
 |d (x:D)
 |agg (cs:List AV)
 |ptr (k au off:Nat)
 |vec (k au off len:Nat)
 |dD (k au i j:Nat)
 |fg (x:D) (j:Nat)
 |fn (f:FuncId) (cap:List AV)
 |bq (vs:List AV)
 |jG (t:TypeId) (x:D)
 |lit (v:Value)
 |nn
 |err
structure Loc where
 au:Nat
 eJ:Nat
 sz:Nat
 cap:Nat
 base:Nat
 eE:List (Option Nat):=[]
abbrev cC:=Nat->Option Loc
inductive aG(φ:cC)(w:World)(F:Nat->Prop):AV->Value->Prop
 |bH (v):aG φ w F .bH v
 |d (x v) (h:aR w F x v):aG φ w F (.d x) v
 |agg (cs:List AV) (a:Array Value) (I:cs.length=a.size) (H:∀v∈a,dk v=true) (J:∀(i:Nat)(c:AV)(v:Value),cs[i]?=some c->a[i]?=some v->aG φ w F c v):aG φ w F (.agg cs) (.agg a)
 |ptr (k au off:Nat) (v:Value) (L:Loc) (M:φ k=some L) (Z:au<=L.au) (h:au=L.au->v=.pointer (some ⟨L.eJ,off,none⟩)) (H:dk v=true):aG φ w F (.ptr k au off) v
 |vec (k au off len:Nat) (v:Value) (L:Loc) (M:φ k=some L) (Z:au<=L.au)
  (h:au=L.au->∃a cap,v=.slice a len cap/\len<=cap/\(cap>0->a=some ⟨L.eJ,L.base+off*L.sz,none⟩/\off+cap<=L.cap)) (H:dk v=true):aG φ w F (.vec k au off len) v
 |dD (k au i j:Nat) (v:Value) (L:Loc) (M:φ k=some L) (Z:au<=L.au) (h:au=L.au->v=.pointer (some ⟨L.eJ,L.base+i*L.sz+j,none⟩)) (H:dk v=true):aG φ w F (.dD k au i j) v
 |fg (x:D) (j:Nat) (b off:Nat) (A2:Value) (U:b<w.heap.size) (T:¬F b) (A7:aR w F x A2)
  (J:∀(i:Nat)(c:Value),A2.cells[i]?=some c->w.cell? ⟨b,off+i,none⟩=some c):aG φ w F (.fg x j) (.pointer (some ⟨b,off+j,none⟩))
 |fn (f:FuncId) (cap:List AV) (a:Array Value) (Y:f<xe) (I:cap.length=a.size) (J:∀(i:Nat)(c:AV)(v:Value),cap[i]?=some c->a[i]?=some v->aG φ w F c v):aG φ w F (.fn f cap) (.func (.func f) #[] a)
 |xf (f:FuncId) (cap:List AV) (a:Array Value) (I:cap.length=a.size) (J:∀(i:Nat)(c:AV)(v:Value),cap[i]?=some c->a[i]?=some v->aG φ w F c v):aG φ w F (.fn (f+xe) cap) (.func (.func f) a #[])
 |bq (vs:List AV) (a:Array Value) (I:vs.length=a.size) (J:∀(i:Nat)(c:AV)(v:Value),vs[i]?=some c->a[i]?=some v->aG φ w F c v):aG φ w F (.bq vs) (.tuple a)
 |jG (t:TypeId) (x:D) (v:Value) (h:aR w F x v):aG φ w F (.jG t x) (.iface t v)
 |lit (v) (H:dk v=true):aG φ w F (.lit v) v
 |nn (a:Addr) (cap:Nat):aG φ w F .nn (.slice (some a) 0 cap)
 |err (t:TypeId) (v:Value):aG φ w F .err (.iface t v)
def cC.le(φ φ':cC):Prop:=∀k L,φ k=some L->∃L',φ' k=some L'/\L.au<=L'.au/\(L'.au=L.au->L'={L with eE:=L'.eE})
def cC.le_refl(φ:cC):φ.le φ:=λ_ L h=>⟨L,h,aar _,λ_=>rfl⟩
def cC.le_trans{φ φ' A8:cC}(h:φ.le φ')(AD:φ'.le A8):φ.le A8:=by
 intro k L M;obtain⟨A9,H,AH,AE⟩:=h k L M;obtain⟨AF,AG,AI,AA⟩:=AD k A9 H;refine⟨AF,AG,by omega,λe=>?_⟩;have O:A9.au=L.au:=by omega
 have V:=AE O;rw[V]at AA;exact AA (by rw[e])
def aG.mono{φ φ':cC}{w w':World}{F F':Nat->Prop}{x v}(h:aG φ w F x v)(A3:φ.le φ')
 (y:∀b,b<w.heap.size->¬F b->w'.heap[b]?=w.heap[b]?) (A1:w.heap.size<=w'.heap.size) (T:∀b,b<w.heap.size->F' b->F b):aG φ' w' F' x v:=by
 induction h with
 |bH v=>exact .bH v
 |d x v h=>exact .d x v (h.mono y A1 T)
 |agg cs a I H _ ih=>exact .agg cs a I H ih
 |ptr k au off v L M Z h H=>
  obtain⟨L',A0,AB,he⟩:=A3 k L M;exact .ptr k au off v L' A0 (by omega) (λe=>by
   have O:L'.au=L.au:=by omega
   have V:=he O;rw[V];exact h (by rw[e,O])) H
 |vec k au off len v L M Z h H=>
  obtain⟨L',A0,AB,he⟩:=A3 k L M;exact .vec k au off len v L' A0 (by omega) (λe=>by
   have O:L'.au=L.au:=by omega
   have V:=he O;rw[V];exact h (by rw[e,O])) H
 |dD k au i j v L M Z h H=>
  obtain⟨L',A0,AB,he⟩:=A3 k L M;exact .dD k au i j v L' A0 (by omega) (λe=>by
   have O:L'.au=L.au:=by omega
   have V:=he O;rw[V];exact h (by rw[e,O])) H
 |fg x j b off A2 U A' A7 J=>
  exact .fg x j b off A2 (by omega) (λh=>A' (T b U h)) (A7.mono y A1 T) (λi c hi=>by rw[nj (y b U A')];exact J i c hi)
 |fn f cap a Y I _ ih=>exact .fn f cap a Y I ih
 |xf f cap a I _ ih=>exact .xf f cap a I ih
 |bq vs a I _ ih=>exact .bq vs a I ih
 |jG t x v h=>exact .jG t x v (h.mono y A1 T)
 |lit v H=>exact .lit v H
 |nn a cap=>exact .nn a cap
 |err t v=>exact .err t v
inductive aF where
 |dead
 |box (cs:List AV)
 |vec (sz:Nat) (aq:List D)
 |vv (aq:List (List D)) (y:Option AV)
structure dn where
 key:Nat
 au:Nat
 cont:aF
abbrev Mem:=List dn
def Mem.get:Mem->Nat->Option dn
 |[],_=>none
 |e::r,k=>if e.key=k then some e else Mem.get r k
def Mem.set:Mem->dn->Mem
 |[],_=>[]
 |e::r,x=>if e.key=x.key then x::r else e::Mem.set r x
def Mem.get_mem{m:Mem}{k e}(h:Mem.get m k=some e):e∈m/\e.key=k:=by
 induction m with
 |nil=>simp[Mem.get]at h
 |cons x r ih=>
  simp only[Mem.get]at h;split at h
  .simp_all
  .have:=ih h;simp_all
def Mem.get_of_mem{m:Mem}{e}(M:(m.map (·.key)).Nodup)(h:e∈m):Mem.get m e.key=some e:=by
 induction m with
 |nil=>simp at h
 |cons x r ih=>
  simp only[adz,List.nodup_cons]at M;simp only[Mem.get];rcases ac4.1 h with rfl|h
  .simp
  .have:x.key≠e.key:=λhe=>M.1 (by rw[he];exact adP h);simp[this,ih M.2 h]
def Mem.jH(m:Mem)(x:dn):(Mem.set m x).map (·.key)=m.map (·.key):=by
 induction m with
 |nil=>rfl
 |cons e r ih=>
  simp only[Mem.set];split
  .simp_all
  .simp[ih]
def Mem.mem_set{m:Mem}{x e:dn}(M:(m.map (·.key)).Nodup):e∈Mem.set m x↔(e=x/\x.key∈m.map (·.key))\/(e∈m/\e.key≠x.key):=by
 induction m with
 |nil=>simp[Mem.set]
 |cons y r ih=>
  simp only[adz,List.nodup_cons]at M;simp only[Mem.set];split
  .rename_i T;constructor
   .intro h;rcases ac4.1 h with rfl|h
    .left;simp[T]
    .right;refine⟨by simp[h],λhe=>M.1 ?_⟩;rw[T,<-he];exact adP h
   .rintro (⟨rfl,_⟩|⟨h,A'⟩)
    .simp
    .rcases ac4.1 h with rfl|h
     .exact absurd T A'
     .simp[h]
  .rename_i T;simp only[ac4,ih M.2,adz];constructor
   .rintro (rfl|⟨rfl,h⟩|⟨h,A'⟩)
    .right;exact⟨.inl rfl,T⟩
    .left;exact⟨rfl,.inr h⟩
    .right;exact⟨.inr h,A'⟩
   .rintro (⟨rfl,h⟩|⟨h,A'⟩)
    .rcases h with h|h
     .exact absurd h.symm T
     .right;left;exact⟨rfl,h⟩
    .rcases h with rfl|h
     .left;rfl
     .right;right;exact⟨h,A'⟩
def Mem.sV{m:Mem}{x:dn}(h:x.key∈m.map (·.key)):Mem.get (Mem.set m x) x.key=some x:=by
 induction m with
 |nil=>simp at h
 |cons y r ih=>
  simp only[Mem.set];split
  .simp[Mem.get]
  .rename_i T;simp only[Mem.get,T,adN];exact ih (by simp only[adz,ac4]at h;rcases h with h|h;exact absurd h.symm T;exact h)
def Mem.sW{m:Mem}{x:dn}{k:Nat}(h:x.key≠k):Mem.get (Mem.set m x) k=Mem.get m k:=by
 induction m with
 |nil=>rfl
 |cons y r ih=>
  simp only[Mem.set];split
  .rename_i T;have:y.key≠k:=by rw[T];exact h
   simp[Mem.get,h,this]
  .simp only[Mem.get,ih]
def aF.dN(L:Loc):aF->Nat->Prop
 | .dead,_=>False
 | .box _,b=>L.eJ=b
 | .vec _ _,b=>0<L.cap/\L.eJ=b
 | .vv _ _,b=>(0<L.cap/\L.eJ=b)\/some b∈L.eE
def kV(φ:cC)(m:Mem)(b:Nat):Prop:=∃e∈m,∃L,φ e.key=some L/\e.cont.dN L b
structure Fr where
 g:Nat->Prop
 dv:List Deferred
instance:CoeFun Fr (λ_=>Nat->Prop):=⟨Fr.g⟩
def Fo(G:Fr)(φ:cC)(m:Mem)(b:Nat):Prop:=G b\/kV φ m b
def gL(w:World)(b:Nat)(arr:Array Value)(elem:TypeId):Prop:=∃fr:Nat×Nat,w.heap[b]?=some (.cells arr elem fr)/\(fr=(0,0)\/arr.size<=fr.1)
def gL.same{w w':World}{b:Nat}{arr:Array Value}{elem:TypeId}(h:gL w b arr elem)(V:w'.heap[b]?=w.heap[b]?):gL w' b arr elem:=by
 obtain⟨fr,Y,A0⟩:=h;exact⟨fr,by rw[V];exact Y,A0⟩
def gL.lt{w:World}{b:Nat}{arr:Array Value}{elem:TypeId}(h:gL w b arr elem):b<w.heap.size:=by
 obtain⟨fr,Y,A0⟩:=h;exact (aet.1 Y).1
def gL.new{w:World}{b:Nat}{arr:Array Value}{elem:TypeId}(h:w.heap[b]?=some (.cells arr elem (0,0))):gL w b arr elem:=⟨(0,0),h,.inl rfl⟩
def DT(w:World)(F:Nat->Prop)(v:Option Value)(xs:List D)(o:Option Nat):Prop:=
 match o with
 |none=>xs=[]/\∃a,v=some (.slice a 0 0)
 |some b=>∃(row:Array Value)(AJ:TypeId)(off cap:Nat),v=some (.slice (some ⟨b,off,none⟩) xs.length cap)/\0<cap/\xs.length<=cap/\off+cap<=row.size/\gL w b row AJ/\(∀u∈row,dk u=true)/\
  ∀(i:Nat)(d:D),xs[i]?=some d->d.size=1/\∃u,aR w F d u/\∀(j:Nat)(c:Value),u.cells[j]?=some c->row[off+i*1+j]?=some c
def DT.mono{w w':World}{F F':Nat->Prop}{v xs o}(h:DT w F v xs o)(A4:∀d u,d∈xs->aR w F d u->aR w' F' d u)
 (A5:∀b,o=some b->w'.heap[b]?=w.heap[b]?):DT w' F' v xs o:=by
 cases o with
 |none=>exact h
 |some b=>
  obtain⟨row,AJ,off,cap,Y,A0,A7,AB,AO,Aj,Ak⟩:=h;exact⟨row,AJ,off,cap,Y,A0,A7,AB,AO.same (A5 b rfl),Aj,λj d AK=>let ⟨g1,u,g2,g3⟩:=Ak j d AK;⟨g1,u,A4 d u (ac6 AK) g2,g3⟩⟩
def nI(φ:cC)(w:World)(F:Nat->Prop)(L:Loc)(aq:List (List D))(y:Option AV):Prop:=
 (L.sz=1/\aq.length+y.toList.length<=L.cap/\L.eE.length=aq.length)/\
  (∀(i j:Nat)(b:Nat),L.eE[i]?=some (some b)->L.eE[j]?=some (some b)->i=j)/\(∀b,some b∈L.eE->0<L.cap/\b≠L.eJ)/\
  (0<L.cap->∃(arr:Array Value)(elem:TypeId),gL w L.eJ arr elem/\arr.size=L.base+L.cap/\(∀v∈arr,dk v=true)/\
   (∀(i:Nat)(xs:List D)(o:Option Nat),aq[i]?=some xs->L.eE[i]?=some o->DT w F arr[L.base+i]? xs o)/\
   ∀x,y=some x->∃v,arr[L.base+aq.length]?=some v/\aG φ w F x v)
def nI.mono{φ φ':cC}{w w':World}{F F':Nat->Prop}{L aq y}(f:AV->AV)(h:nI φ w F L aq y)
 (A4:∀xs∈aq,∀d∈xs,∀u,aR w F d u->aR w' F' d u) (AP:∀x,y=some x->∀v,aG φ w F x v->aG φ' w' F' (f x) v)
 (A5:∀b,((0<L.cap/\L.eJ=b)\/some b∈L.eE)->w'.heap[b]?=w.heap[b]?):nI φ' w' F' L aq (y.map f):=by
 obtain⟨A1,Y,A0,h⟩:=h;refine⟨by cases y<;>exact A1,Y,A0,λO=>?_⟩;obtain⟨arr,elem,g1,g2,g3,g4,g5⟩:=h O;refine⟨arr,elem,g1.same (A5 _ (.inl ⟨O,rfl⟩)),g2,g3,λi xs o hi I=>(g4 i xs o hi I).mono (λd u hm=>A4 xs (ac6 hi) d hm u) (λb e=>A5 b (.inr (by subst e;exact ac6 I))),λx J=>?_⟩;cases y with
 |none=>cases J
 |some z=>
  cases J;obtain⟨v,q1,q2⟩:=g5 z rfl;exact⟨v,q1,AP z rfl v q2⟩
def nI.amZ{φ φ':cC}{w w':World}{F F':Nat->Prop}{L aq y}(h:nI φ w F L aq y)
 (A4:∀xs∈aq,∀d∈xs,∀u,aR w F d u->aR w' F' d u) (AP:∀x,y=some x->∀v,aG φ w F x v->aG φ' w' F' x v)
 (A5:∀b,((0<L.cap/\L.eJ=b)\/some b∈L.eE)->w'.heap[b]?=w.heap[b]?):nI φ' w' F' L aq y:=by
 have:=h.mono id A4 AP A5;cases y<;>exact this
def nI.au{φ w F L aq y}(h:nI φ w F L aq y)(v:Nat):nI φ w F {L with au:=v} aq y:=h
def fB(φ:cC)(w:World)(F:Nat->Prop)(L:Loc):aF->Prop
 | .dead=>True
 | .box cs=>(L.sz=1/\L.base=0/\L.cap=cs.length)/\∃(arr:Array Value)(elem:TypeId),gL w L.eJ arr elem/\arr.size=cs.length/\(∀v∈arr,dk v=true)/\
  ∀(i:Nat)(c:AV)(v:Value),cs[i]?=some c->arr[i]?=some v->aG φ w F c v
 | .vec sz aq=>L.sz=sz/\aq.length<=L.cap/\(∀d∈aq,d.size=L.sz)/\(0<L.cap->∃(arr:Array Value)(elem:TypeId),gL w L.eJ arr elem/\
  arr.size=L.base+L.cap*L.sz/\(∀v∈arr,dk v=true)/\
  ∀(i:Nat)(d:D),aq[i]?=some d->∃v,aR w F d v/\∀(j:Nat)(c:Value),v.cells[j]?=some c->arr[L.base+i*L.sz+j]?=some c)
 | .vv aq y=>nI φ w F L aq y
def agL(φ:cC)(w:World)(F:Nat->Prop)(e:dn):Prop:=∃L,φ e.key=some L/\L.au=e.au/\fB φ w F L e.cont
def fB.lt{φ w F L c b}(h:fB φ w F L c)(I:c.dN L b):b<w.heap.size:=by
 cases c with
 |dead=>exact I.elim
 |box cs=>obtain⟨_,arr,elem,h,_⟩:=h;have:L.eJ=b:=I;subst this;exact h.lt
 |vec sz aq=>obtain⟨O,rfl⟩:=I;obtain⟨_,_,_,h⟩:=h;obtain⟨arr,elem,h,_⟩:=h O;exact h.lt
 |vv aq y=>
  obtain⟨⟨_,_,Aw⟩,_,A7,h⟩:=h;rcases I with ⟨O,rfl⟩|I
  .obtain⟨arr,elem,h,_⟩:=h O;exact h.lt
  .obtain⟨i,hi⟩:=apU I;obtain⟨arr,elem,_,_,_,AO,_⟩:=h (A7 b I).1;have Ax:=(aap.1 hi).1;obtain⟨row,AJ,_,_,_,_,_,_,g,_⟩:=AO i (aq[i]'(by omega)) (some b) (by simp[show i<aq.length by omega]) hi
   exact g.lt
def fB.mono{φ φ':cC}{w w':World}{F F':Nat->Prop}{L c}(h:fB φ w F L c)(AX:φ.le φ')
 (U:∀b,b<w.heap.size->¬F b->w'.heap[b]?=w.heap[b]?) (V:w.heap.size<=w'.heap.size) (AC:∀b,b<w.heap.size->F' b->F b)
 (A5:∀b,c.dN L b->w'.heap[b]?=w.heap[b]?):fB φ' w' F' L c:=by
 cases c with
 |dead=>trivial
 |box cs=>
  obtain⟨A1,arr,elem,Y,A0,A7,AB⟩:=h;exact⟨A1,arr,elem,Y.same (A5 _ rfl),A0,A7,λi c v O AD=>(AB i c v O AD).mono AX U V AC⟩
 |vec sz aq=>
  obtain⟨Al,A1,An,h⟩:=h;refine⟨Al,A1,An,λO=>?_⟩;obtain⟨arr,elem,Y,A0,A7,AB⟩:=h O;exact⟨arr,elem,Y.same (A5 _ ⟨O,rfl⟩),A0,A7,λi d A4=>let ⟨v,AD,AK⟩:=AB i d A4;⟨v,AD.mono U V AC,AK⟩⟩
 |vv aq y=>exact nI.amZ h (λ_ _ _ _ u hu=>hu.mono U V AC) (λx _ v J=>J.mono AX U V AC) A5
structure bK(φ:cC)(G:Fr)(m:Mem)(w:World):Prop where
 nodup:(m.map (·.key)).Nodup
 ud:∀k L,φ k=some L->k∈m.map (·.key)
 gZ:∀e∈m,agL φ w (Fo G φ m) e
 apart:∀e∈m,∀e'∈m,∀L L',φ e.key=some L->φ e'.key=some L'->(∃b,e.cont.dN L b/\e'.cont.dN L' b)->e.key=e'.key
 nJ:∀b,kV φ m b->¬G b
 bound:∀b,G b->b<w.heap.size
def bK.Iq{φ G m w}(h:bK φ G m w){b}(H:kV φ m b):b<w.heap.size:=by
 obtain⟨e,he,L,A9,I⟩:=H;obtain⟨L',AY,_,O⟩:=h.gZ e he;rw[A9]at AY;cases AY;exact O.lt I
structure bn(φ:cC)(m:Mem)(w:World)(φ':cC)(m':Mem)(w':World):Prop where
 le:φ.le φ'
 DU:∀b,b<w.heap.size->¬kV φ m b->w'.heap[b]?=w.heap[b]?
 own:∀b,b<w.heap.size->kV φ' m' b->kV φ m b
 size:w.heap.size<=w'.heap.size
 os:w'.os=w.os
 tape:w'.tape=w.tape
 output:w'.output=w.output
def bn.refl(φ m w):bn φ m w φ m w:=⟨cC.le_refl _,λ_ _ _=>rfl,λ_ _ h=>h,aar _,rfl,rfl,rfl⟩
def bn.trans{φ m w AZ A_ Aa Ab Ac Ad}(h:bn φ m w AZ A_ Aa)(k:bn AZ A_ Aa Ab Ac Ad):bn φ m w Ab Ac Ad where
 le:=cC.le_trans h.le k.le
 DU:=λb H M=>by
  rw[k.DU b (aly H h.size) (λY=>M (h.own b H Y)),h.DU b H M]
 own:=λb H M=>h.own b H (k.own b (aly H h.size) M)
 size:=alB h.size k.size
 os:=k.os.trans h.os
 tape:=k.tape.trans h.tape
 output:=k.output.trans h.output
def bn.av{φ m w φ' m' w' G}(h:bn φ m w φ' m' w'){x v}(J:aG φ w (Fo G φ m) x v):aG φ' w' (Fo G φ' m') x v:=
 J.mono h.le (λb H M=>h.DU b H (λI=>M (.inr I))) h.size (λb H=>Or.imp id (h.own b H))
def bK.dU{φ G m w w'}(h:bK φ G m w){e e':dn}(he:e∈m){L L':Loc}(A9:φ e.key=some L)(A6:e'.key=e.key)
 (Ao:L.au<=L'.au) (Ap:L'.au=L.au->L'={L with eE:=L'.eE})
 (AD:L'.au=e'.au)
 (hold:∀b,b<w.heap.size->¬e.cont.dN L b->w'.heap[b]?=w.heap[b]?) (V:w.heap.size<=w'.heap.size)
 (AQ:∀b,e'.cont.dN L' b->e.cont.dN L b\/w.heap.size<=b)
 (AR:w'.os=w.os) (Aq:w'.tape=w.tape) (Ar:w'.output=w.output)
 (O:∀φ':cC,φ'=(λk=>if k=e.key then some L' else φ k)->φ.le φ'->fB φ' w' (Fo G φ' (Mem.set m e')) L' e'.cont):
 ∃φ',bK φ' G (Mem.set m e') w'/\bn φ m w φ' (Mem.set m e') w'/\φ' e.key=some L'/\∀k,k≠e.key->φ' k=φ k:=by
 have hle:φ.le (λk=>if k=e.key then some L' else φ k):=by
  intro k AS A1;by_cases U:k=e.key
  .subst U;rw[A9]at A1;cases A1;exact⟨L',by simp,Ao,Ap⟩
  .exact⟨AS,by simp[U,A1],aar _,λ_=>rfl⟩
 have Ay:e'.key∈m.map (·.key):=by rw[A6];exact adP he
 have AT:∀x∈m,x.key≠e.key->∀A2,φ x.key=some A2->∀b,x.cont.dN A2 b->e.cont.dN L b->False:=
  λx J A' A2 Z b A3 A8=>A' (h.apart x J e he A2 L Z A9 ⟨b,A3,A8⟩)
 have AU:∀b,b<w.heap.size->kV (λk=>if k=e.key then some L' else φ k) (Mem.set m e') b->kV φ m b:=by
  rintro b H ⟨x,J,A2,Z,A3⟩;rcases (Mem.mem_set h.nodup).1 J with ⟨rfl,_⟩|⟨AA,A'⟩
  .simp[A6]at Z;subst Z;rcases AQ b A3 with A8|Ae
   .exact⟨e,he,L,A9,A8⟩
   .omega
  .rw[A6]at A';simp[A']at Z;exact⟨x,AA,A2,Z,A3⟩
 have Af:∀b,b<w.heap.size->¬kV φ m b->w'.heap[b]?=w.heap[b]?:=λb H M=>
  hold b H λI=>M ⟨e,he,L,A9,I⟩
 refine⟨_,⟨by rw[Mem.jH];exact h.nodup,?_,?_,?_,?_,?_⟩,⟨hle,Af,AU,V,AR,Aq,Ar⟩,by simp,λk U=>by simp[U]⟩
 .intro k AS A1;rw[Mem.jH];by_cases U:k=e.key
  .subst U;exact adP he
  .simp[U]at A1;exact h.ud k AS A1
 .intro x J;rcases (Mem.mem_set h.nodup).1 J with ⟨rfl,_⟩|⟨AA,A'⟩
  .exact⟨L',by simp[A6],AD,O _ rfl hle⟩
  .rw[A6]at A';obtain⟨A2,Z,As,AL⟩:=h.gZ x AA;refine⟨A2,by simp[A',Z],As,AL.mono hle (λb H M=>Af b H (λI=>M (.inr I))) V (λb H=>Or.imp id (AU b H)) (λb A3=>?_)⟩;exact hold _ (AL.lt A3) (λA8=>AT x AA A' A2 Z b A3 A8)
 .rintro x J y T A2 Ag Z AE ⟨b,A3,AM⟩;rcases (Mem.mem_set h.nodup).1 J with ⟨rfl,_⟩|⟨AA,AG⟩<;>rcases (Mem.mem_set h.nodup).1 T with ⟨rfl,_⟩|⟨AW,AH⟩
  .rfl
  .rw[A6]at AH;simp[A6]at Z;subst Z;simp[AH]at AE;obtain⟨Az,Ah,_,At⟩:=h.gZ y AW;rw[AE]at Ah;cases Ah;rcases AQ b A3 with A8|Ae
   .exact (AT y AW AH Ag AE b AM A8).elim
   .have:=At.lt AM;omega
  .rw[A6]at AG;simp[A6]at AE;subst AE;simp[AG]at Z;obtain⟨B',Ai,_,AL⟩:=h.gZ x AA;rw[Z]at Ai;cases Ai;rcases AQ b AM with A8|Ae
   .exact (AT x AA AG A2 Z b A3 A8).elim
   .have:=AL.lt A3;omega
  .rw[A6]at AG AH;simp[AG]at Z;simp[AH]at AE;exact h.apart x AA y AW A2 Ag Z AE ⟨b,A3,AM⟩
 .intro b H AF;exact h.nJ b (AU b (h.bound b AF) H) AF
 .intro b AF;exact aly (h.bound b AF) V
def bK.grow{φ G m w w'}(h:bK φ G m w)(hold:∀b,b<w.heap.size->w'.heap[b]?=w.heap[b]?)(V:w.heap.size<=w'.heap.size):bK φ G m w' where
 nodup:=h.nodup
 ud:=h.ud
 gZ:=λe he=>by
  obtain⟨L,A9,AD,O⟩:=h.gZ e he;exact⟨L,A9,AD,O.mono (cC.le_refl _) (λb H _=>hold b H) V (λ_ _ h=>h) (λb I=>hold _ (O.lt I))⟩
 apart:=h.apart
 nJ:=h.nJ
 bound:=λb AF=>aly (h.bound b AF) V
def bn.grow{φ m w w'}(hold:∀b,b<w.heap.size->w'.heap[b]?=w.heap[b]?)(V:w.heap.size<=w'.heap.size)(AR:w'.os=w.os)(AI:w'.tape=w.tape)(I:w'.output=w.output):bn φ m w φ m w':=
 ⟨cC.le_refl _,λb H _=>hold b H,λ_ _ h=>h,V,AR,AI,I⟩
abbrev Env:=List (Nat×Bool×AV)
def Env.lk:Env->Nat->Option (Bool×AV)
 |[],_=>none
 |(t,x)::r,u=>if t=u then some x else Env.lk r u
structure St where
 n:Nat
 gl:List (Nat×D)
 env:Env
 mem:Mem
def gr(w:World)(F:Nat->Prop)(gl:List (Nat×D)):Prop:=
 ∀x∈gl,(x.1<w.heap.size/\∀cs,x.2=.agg cs->∃cur e Au,w.heap[x.1]?=some (.cells cur e Au)/\cur.size=cs.length)/\¬F x.1/\∃AN,aR w F x.2 AN/\∀(i:Nat)(c:Value),AN.cells[i]?=some c->w.cell? ⟨x.1,i,none⟩=some c
def gr.mono{w w':World}{F F':Nat->Prop}{gl}(h:gr w F gl)(U:∀b,b<w.heap.size->¬F b->w'.heap[b]?=w.heap[b]?)(V:w.heap.size<=w'.heap.size)
 (AC:∀b,b<w.heap.size->F' b->F b):gr w' F' gl:=λx J=>by
 obtain⟨⟨Y,A1⟩,A0,AN,A7,AB⟩:=h x J;exact⟨⟨by omega,by rw[U _ Y A0];exact A1⟩,λAv=>A0 (AC _ Y Av),AN,A7.mono U V AC,λi c O=>by rw[nj (U _ Y A0)];exact AB i c O⟩
def bn.nK{φ m w φ' m' w' G gl}(h:bn φ m w φ' m' w')(J:gr w (Fo G φ m) gl):gr w' (Fo G φ' m') gl:=
 J.mono (λb H M=>h.DU b H (λI=>M (.inr I))) h.size (λb H=>Or.imp id (h.own b H))
structure Rel(φ:cC)(G:Fr)(S:St)(a:Act)(w:World):Prop where
 size:a.tmps.size=S.n
 defers:a.defers=G.dv
 env:∀t x,Env.lk S.env t=some (true,x)->aG φ w (Fo G φ S.mem) x (a.tmps.getD t undef)
 mem:bK φ G S.mem w
 nK:gr w (Fo G φ S.mem) S.gl
def St.put(S:St)(d:Option Nat)(g:Bool)(x:AV):St:=
 match d with
 |some d=>{S with env:=(d,g,x)::S.env}
 |none=>S
def Rel.put{φ G S a w}(h:Rel φ G S a w)(d:Option Nat)(A4:∀t,d=some t->t<S.n)(g:Bool)(x:AV)(v:Value)
 (J:g=true->aG φ w (Fo G φ S.mem) x v):Rel φ G (S.put d g x) (a.put d v) w:=by
 cases d with
 |none=>exact h
 |some d=>
  have A4:=A4 d rfl;refine⟨by simp[Act.put,St.put,h.size],by simp[Act.put,h.defers],?_,h.mem,h.nK⟩;intro t y T;simp only[St.put,Env.lk]at T;by_cases AI:d=t
  .subst AI;simp only[ad7,adl,aeb]at T;obtain⟨rfl,rfl⟩:=T;have:d<a.tmps.size:=by rw[h.size];exact A4
   have e:(a.put (some d) v).tmps.getD d undef=v:=by simp[Act.put,this]
   rw[e];exact J rfl
  .simp only[AI,adN]at T;have e:(a.put (some d) v).tmps.getD t undef=a.tmps.getD t undef:=by simp[Act.put,AI]
   rw[e];exact h.env t y T
def Rel.DW{φ G S a w φ' m' w'}(h:Rel φ G S a w)(hm:bK φ' G m' w')(U:bn φ S.mem w φ' m' w'):Rel φ' G {S with mem:=m'} a w':=
 ⟨h.size,h.defers,λt x J=>U.av (h.env t x J),hm,U.nK h.nK⟩
def sj{v:Value}(h:dk v=true):v.oneCell'=true:=by cases v<;>simp_all [dk,Value.oneCell']
inductive TK where
 |int (k:IntKind)
 |bool
 |str
 |slice (e:TypeId)
 |arr (n:Nat) (e:TypeId)
 |struct
 |iface
 |ptr (e:TypeId)
 |func
 |other
 deriving DecidableEq
def tk(P:Program)(t:TypeId):TK:=
 match P.underlying t with
 |some (.int k)=>.int k
 |some .bool=>.bool
 |some .string=>.str
 |some (.slice e)=>.slice e
 |some (.array n e)=>.arr n e
 |some (.struct _)=>.struct
 |some (.interface _)=>.iface
 |some (.pointer e)=>.ptr e
 |some (.func _ _ _)=>.func
 |_=>.other
def gT(P:Program)(t:TypeId):Option Nat:=(P.info? t).map (·.size)
def Ce(P:Program)(s:TypeId)(f:Nat):Option Nat:=
 match P.underlying s with
 |some (.struct fs)=>match fs[f]? with
  |some fl=>match P.info? fl.type with
   |some i=>if i.size=0 then none else some fl.offset
   |none=>none
  |none=>none
 |_=>none
def TK.agg:TK->Bool
 | .arr _ _=>true
 | .struct=>true
 |_=>false
def vI{P:Program}{t:TypeId}{w:World}(h:tk P t≠.other):(isAgg t).run P w=.ok (tk P t).agg w:=by
 unfold isAgg;cases hu:P.underlying t with
 |none=>simp[tk,hu]at h
 |some d=>
  rw[Sem.run_bind,run_underlying hu];cases d<;>simp_all [tk,TK.agg]
def run_sizeOf{P:Program}{t:TypeId}{n:Nat}{w:World}(h:gT P t=some n):(sizeOf t).run P w=.ok n w:=by
 unfold gT at h;cases hi:P.info? t with
 |none=>simp[hi]at h
 |some i=>simp[hi]at h;simp[sizeOf,typeInfo,hi,h]
def ij(b o j:Nat):(⟨b,o,none⟩:Addr).add j=⟨b,o+j,none⟩:=by unfold Addr.add;split<;>simp_all
def zz{P:Program}{t:TypeId}{w:World}{a:Addr}{v:Value}(AI:(tk P t).agg=false)(AJ:tk P t≠.other)(J:w.cell? a=some v):
 (Instr.loadAt t (.pointer (some a))).run P w=.ok v w:=by
 simp[Instr.loadAt,Instr.sureAddr,loadVar,Sem.run_bind,vI AJ,AI,load,Sem.run,J]
def zA{P:Program}{t:TypeId}{w:World}{b o:Nat}{vs:List Value}(AI:(tk P t).agg=true)(AX:gT P t=some vs.length)
 (J:∀j v,vs[j]?=some v->w.cell? ⟨b,o+j,none⟩=some v):
 (Instr.loadAt t (.pointer (some ⟨b,o,none⟩))).run P w=.ok (.agg vs.toArray) w:=by
 have AJ:tk P t≠.other:=by intro h;rw[h]at AI;cases AI
 have V:=run_loadCells_list (P:=P) w ⟨b,o,none⟩ vs (λj v h=>by rw[ij];exact J j v h);simp[Instr.loadAt,Instr.sureAddr,loadVar,Sem.run_bind,vI AJ,AI,run_sizeOf AX,V]
def mQ{P:Program}(g o:Nat)(t:TypeId)(A6:Nat×Nat):∀(vs:List Value)(i:Nat)(cur:Array Value)(w:World),w.heap[g]?=some (.cells cur t A6)->(A6=(0,0)\/cur.size<=A6.1)->o+i+vs.length<=cur.size->(∀v∈vs,v.oneCell'=true)->
 (storeCells ⟨g,o,none⟩ vs i).run P w=.ok () (w.setRow g (cur.toList.take (o+i)++vs++cur.toList.drop (o+i+vs.length)).toArray)
 |[],i,cur,w,Y,_,_,_=>by
  simp only[storeCells,agV,ac7,ahq,air,apW];rw[setRow_self w g cur t A6 Y];rfl
 |v::rest,i,cur,w,Y,AR,V,I=>by
  have hi:o+i<cur.size:=by simp at V;omega
  have Ai:(⟨g,o,none⟩:Addr).add i=⟨g,o+i,none⟩:=by unfold Addr.add;split<;>simp_all
  have Aj:w.cell? ⟨g,o+i,none⟩=some cur[o+i]:=by simp[World.cell?,Y,hi]
  have Ak:w.frozen? ⟨g,o+i,none⟩=false:=by
   obtain⟨lo,AF⟩:=A6;simp only[World.frozen?,Y,apO,aed];rcases AR with h|h
   .cases h;omega
   .simp only at h;omega
  have Al:(store ((⟨g,o,none⟩:Addr).add i) v).run P w=.ok () (w.setRow g (cur.setIfInBounds (o+i) v)):=by
   rw[Ai,run_store P w _ v _ (I v (by simp)),Aj];simp[Ak,setCell_eq_setRow w g (o+i) cur t A6 v Y]
  have ih:=mQ (P:=P) g o t A6 rest (i+1) (cur.setIfInBounds (o+i) v) (w.setRow g (cur.setIfInBounds (o+i) v)) (setRow_heap w g cur _ t _ Y) (by simpa using AR) (by simp at V⊢;omega) (λx T=>I x (by simp[T]));simp only[storeCells,Sem.run_bind,Al,Result.andThen_ok,ih,setRow_setRow];congr 3;have e:=list_seg_step cur.toList (o+i) v rest (by simp at V⊢;omega);simpa [Array.toList_setIfInBounds,adv]using e
def RE{P:Program}{t:TypeId}{w:World}{b o:Nat}{arr:Array Value}{elem:TypeId}{v:Value}(AX:gT P t=some v.cells.size)
 (Y:gL w b arr elem) (V:o+v.cells.size<=arr.size) (I:∀x∈v.cells,dk x=true):
 (Instr.storeAt t (.pointer (some ⟨b,o,none⟩)) v).run P w=.ok () (w.setRow b (arr.toList.take o++v.cells.toList++arr.toList.drop (o+v.cells.size)).toArray):=by
 obtain⟨A6,Y,AR⟩:=Y;have h:=mQ (P:=P) b o elem A6 v.cells.toList 0 arr w Y AR (by simpa using V) (λx T=>sj (I x (by simpa using T)));simp only[ahq,adA]at h;simp[Instr.storeAt,Instr.sureAddr,storeVar,Sem.run_bind,run_sizeOf AX,h]
def D.cells:D->List D
 | .agg cs=>cs
 |x=>[x]
def D.at(xs:List D)(i:Nat):D:=xs[i]?.getD (.bool false)
def D.cell(x:D)(j:Nat):D:=x.cells[j]?.getD (.bool false)
def toD1:AV->Option D
 | .d x=>some x
 | .lit (.slice none 0 0)=>some (.list [])
 | .nn=>some (.list [])
 |_=>none
def toDs:List AV->Option (List D)
 |[]=>some []
 |x::r=>match x,toDs r with
  | .d y,some AK=>some (y::AK)
  |_,_=>none
def toDsN:List AV->Option (List D)
 |[]=>some []
 |x::r=>match toD1 x,toDsN r with
  |some y,some AK=>some (y::AK)
  |_,_=>none
def FC(cs:List AV):AV:=match toDs cs with|some Z=>.d (.agg Z)|none=>.agg cs
def AV.norm:AV->AV
 | .agg cs=>match toDsN cs with|some Z=>.d (.agg Z)|none=>.agg cs
 | .lit (.slice none 0 0)=>.d (.list [])
 | .nn=>.d (.list [])
 |x=>x
def AV.cells:AV->List AV
 | .agg cs=>cs
 | .d (.agg Z)=>Z.map .d
 |x=>[x]
def D.je(x:D):x.cells.length=x.size:=by cases x<;>rfl
def UE{w:World}{F:Nat->Prop}{x:D}{v:Value}(A2:x.flat=true)(h:aR w F x v)(T:x.cells=[x])(O:v.cells=#[v]):
 v.cells.toList.length=x.cells.length/\(∀u∈v.cells,dk u=true)/\∀(i:Nat)(c:D)(u:Value),x.cells[i]?=some c->v.cells[i]?=some u->aR w F c u/\c.flat=true:=by
 rw[T,O];refine⟨rfl,λu hu=>by simp at hu;subst hu;exact h.one A2,λi c u I H=>?_⟩;cases i with
 |zero=>simp at I H;subst I;subst H;exact⟨h,A2⟩
 |succ i=>simp at I
def aR.cells{w F x v}(h:aR w F x v):v.cells.toList.length=x.cells.length/\(∀u∈v.cells,dk u=true)/\∀(i:Nat)(c:D)(u:Value),x.cells[i]?=some c->v.cells[i]?=some u->aR w F c u/\c.flat=true:=by
 cases AG:x with
 |agg cs=>
  subst AG;cases h with
  |agg cs a V A2 J=>
   refine⟨by simp[D.cells,Value.cells,V],?_,λi c u I H=>⟨J i c u I H,A2 c (ac6 I)⟩⟩;intro u hu;have hu:u∈a:=hu;obtain⟨i,hi,rfl⟩:=Array.mem_iff_getElem.1 hu;have AF:i<cs.length:=by rw[V];exact hi
   exact (J i cs[i] a[i] (by simp[AF]) (by simp[hi])).one (A2 _ (ag9 AF))
 |_=>subst AG;exact UE rfl h rfl (fA (h.one rfl))
def aR.ss{w F}{cs:List D}{vs:List Value}(V:cs.length=vs.length)(I:∀v∈vs,dk v=true)
 (J:∀(i:Nat) c v,cs[i]?=some c->vs[i]?=some v->aR w F c v):aR w F (.agg cs) (.agg vs.toArray):=by
 refine .agg cs vs.toArray (by simpa using V) ?_ (λi d v h AL=>J i d v h (by simpa using AL));intro d AG;obtain⟨i,hi,rfl⟩:=apS.1 AG;have AF:i<vs.length:=by omega
 have A4:=J i cs[i] vs[i] (by simp[hi]) (by simp[AF]);have H:=I vs[i] (ag9 AF);revert A4 H
 generalize vs[i]=v;generalize cs[i]=c;intro A4 H;cases A4<;>simp_all [D.flat,dk]
def toDs_rel{φ w F}:∀{cs:List AV}{Z:List D}{vs:List Value},toDs cs=some Z->(∀(i:Nat) c v,cs[i]?=some c->vs[i]?=some v->aG φ w F c v)->
 cs.length=Z.length/\∀(i:Nat) d v,Z[i]?=some d->vs[i]?=some v->aR w F d v
 |[],Z,vs,h,_=>by simp[toDs]at h;subst h;simp
 |x::r,Z,vs,h,J=>by
  simp only[toDs]at h;split at h<;>simp at h;rename_i y AK AB;subst h;cases vs with
  |nil=>
   have ih:=toDs_rel (φ:=φ) (w:=w) (F:=F) (vs:=[]) AB (λi c v _ H=>by simp at H);exact⟨by simp[ih.1],λi d v _ H=>by simp at H⟩
  |cons v0 vs=>
   have ih:=toDs_rel (vs:=vs) AB (λi c v I H=>J (i+1) c v (by simpa using I) (by simpa using H));refine⟨by simp[ih.1],λi d v I H=>?_⟩;cases i with
   |zero=>
    simp at I H;subst I;subst H;have:=J 0 (.d y) v0 (by simp) (by simp);cases this with|d _ _ h=>exact h
   |succ i=>exact ih.2 i d v (by simpa using I) (by simpa using H)
def toD1_rel{φ w F x d v}(h:toD1 x=some d)(T:aG φ w F x v):aR w F d v:=by
 unfold toD1 at h;split at h<;>simp at h
 .subst h;cases T with|d _ _ h=>exact h
 .subst h;cases T;exact .nil none 0 λ_=>rfl
 .subst h;cases T;exact .nil _ _ (by simp)
def toDsN_rel{φ w F}:∀{cs:List AV}{Z:List D}{vs:List Value},toDsN cs=some Z->(∀(i:Nat) c v,cs[i]?=some c->vs[i]?=some v->aG φ w F c v)->
 cs.length=Z.length/\∀(i:Nat) d v,Z[i]?=some d->vs[i]?=some v->aR w F d v
 |[],Z,vs,h,_=>by simp[toDsN]at h;subst h;simp
 |x::r,Z,vs,h,J=>by
  simp only[toDsN]at h;split at h<;>simp at h;rename_i y AK T AB;subst h;cases vs with
  |nil=>
   have ih:=toDsN_rel (φ:=φ) (w:=w) (F:=F) (vs:=[]) AB (λi c v _ H=>by simp at H);exact⟨by simp[ih.1],λi d v _ H=>by simp at H⟩
  |cons v0 vs=>
   have ih:=toDsN_rel (vs:=vs) AB (λi c v I H=>J (i+1) c v (by simpa using I) (by simpa using H));refine⟨by simp[ih.1],λi d v I H=>?_⟩;cases i with
   |zero=>
    simp at I H;subst I;subst H;exact toD1_rel T (J 0 x v0 (by simp) (by simp))
   |succ i=>exact ih.2 i d v (by simpa using I) (by simpa using H)
def DX{φ w F}{cs:List AV}{vs:List Value}(V:cs.length=vs.length)(I:∀v∈vs,dk v=true)
 (J:∀(i:Nat) c v,cs[i]?=some c->vs[i]?=some v->aG φ w F c v):aG φ w F (FC cs) (.agg vs.toArray):=by
 unfold FC;split
 .rename_i Z AY;have:=toDs_rel AY J;exact .d _ _ (.ss (by omega) I this.2)
 .exact .agg cs vs.toArray (by simpa using V) (λv O=>I v (by simpa using O)) (λi c v h AL=>J i c v h (by simpa using AL))
def aG.norm{φ w F x v}(h:aG φ w F x v):aG φ w F x.norm v:=by
 unfold AV.norm;split
 .rename_i cs;split
  .rename_i Z AY;cases h with
   |agg _ a V I J=>
    have:=toDsN_rel (vs:=a.toList) AY (λi c v h AL=>J i c v h (by simpa using AL));have H:=aR.ss (w:=w) (F:=F) (cs:=Z) (vs:=a.toList) (by simp;omega) (λv O=>I v (by simpa using O)) this.2;rw[apW]at H;exact .d _ _ H
  .exact h
 .cases h;exact .d _ _ (.nil none 0 λ_=>rfl)
 .cases h;exact .d _ _ (.nil _ _ (by simp))
 .exact h
def aG.cells{φ w F x v}(h:aG φ w F x v)(I:∀u∈v.cells,dk u=true)(V:v.cells.size=x.cells.length):
 ∀(i:Nat) c u,x.cells[i]?=some c->v.cells[i]?=some u->aG φ w F c u:=by
 cases h with
 |agg cs a V I J=>exact λi c u M hu=>J i c u M hu
 |d x v h=>
  intro i c u M hu;have:=h.cells;cases x with
  |agg cs=>
   simp only[AV.cells,adn,ac3]at M;obtain⟨y,AB,rfl⟩:=M;exact .d _ _ (this.2.2 i y u AB hu).1
  |_=>
   simp only[AV.cells]at M;cases i with
   |zero=>simp at M;subst M;exact .d _ _ (this.2.2 0 _ u rfl hu).1
   |succ i=>simp at M
 |bH v=>
  intro i c u M hu;cases i with
  |zero=>simp[AV.cells]at M;subst M;exact .bH _
  |succ i=>simp[AV.cells]at M
 |ptr k au off v L A' O h H=>
  intro i c u M hu;rw[fA H]at hu;cases i with
  |zero=>simp[AV.cells]at M hu;subst M;subst hu;exact .ptr k au off v L A' O h H
  |succ i=>simp[AV.cells]at M
 |vec k au off len v L A' O h H=>
  intro i c u M hu;rw[fA H]at hu;cases i with
  |zero=>simp[AV.cells]at M hu;subst M;subst hu;exact .vec k au off len v L A' O h H
  |succ i=>simp[AV.cells]at M
 |dD k au p j v L A' O h H=>
  intro i c u M hu;rw[fA H]at hu;cases i with
  |zero=>simp[AV.cells]at M hu;subst M;subst hu;exact .dD k au p j v L A' O h H
  |succ i=>simp[AV.cells]at M
 |fg x j b off A3 AS AT T J=>
  intro i c u M hu;cases i with
  |zero=>simp[AV.cells,Value.cells]at M hu;subst M;subst hu;exact .fg x j b off A3 AS AT T J
  |succ i=>simp[AV.cells]at M
 |fn f cap a A2 AZ J=>
  intro i c u M hu;cases i with
  |zero=>simp[AV.cells,Value.cells]at M hu;subst M;subst hu;exact .fn f cap a A2 AZ J
  |succ i=>simp[AV.cells]at M
 |xf f cap a AZ J=>
  intro i c u M hu;cases i with
  |zero=>simp[AV.cells,Value.cells]at M hu;subst M;subst hu;exact .xf f cap a AZ J
  |succ i=>simp[AV.cells]at M
 |bq vs a V J=>
  have:=I (.tuple a) (by simp[Value.cells]);simp[dk]at this
 |jG t x v h=>
  intro i c u M hu;cases i with
  |zero=>simp[AV.cells,Value.cells]at M hu;subst M;subst hu;exact .jG t x v h
  |succ i=>simp[AV.cells]at M
 |lit v H=>
  intro i c u M hu;rw[fA H]at hu;cases i with
  |zero=>simp[AV.cells]at M hu;subst M;subst hu;exact .lit _ H
  |succ i=>simp[AV.cells]at M
 |nn a cap=>
  intro i c u M hu;cases i with
  |zero=>simp[AV.cells,Value.cells]at M hu;subst M;subst hu;exact .nn a cap
  |succ i=>simp[AV.cells]at M
 |err t v=>
  intro i c u M hu;cases i with
  |zero=>simp[AV.cells,Value.cells]at M hu;subst M;subst hu;exact .err t v
  |succ i=>simp[AV.cells]at M
def qC:Value->AV
 | .int k n=>.d (.int k n)
 | .bool b=>.d (.bool b)
 | .string s=>.d (.str s.data.toList)
 | .agg _=>.bH
 | .tuple _=>.bH
 |v=>.lit v
def GB(φ w F v):aG φ w F (qC v) v:=by
 cases v<;>first|exact .d _ _ (.int _ _)|exact .d _ _ (.bool _)|exact .d _ _ (.str _ _ rfl)|exact .bH _|exact .lit _ rfl
def Ln:List (Nat×D)->Nat->Option D
 |[],_=>none
 |(g,d)::r,k=>if g=k then some d else Ln r k
def So:∀{l:List (Nat×D)}{g d},Ln l g=some d->(g,d)∈l
 |[],g,d,h=>by simp[Ln]at h
 |(Aq,Ar)::r,g,d,h=>by
  simp only[Ln]at h;split at h
  .rename_i Y;subst Y;cases h;simp
  .have:=So h;simp[this]
def St.aw(S:St):Operand->Bool×AV
 | .tmp t=>(Env.lk S.env t).getD (true,.bH)
 | .const v=>(true,qC v)
 | .global g=>match Ln S.gl g with
  |some d=>(true,.fg d 0)
  |none=>(true,.lit (.pointer (some ⟨g,0,none⟩)))
 | .func f=>(decide (f<xe),.fn f [])
def Rel.aw{φ G S a w}(h:Rel φ G S a w)(x:Operand)(T:(S.aw x).1=true):aG φ w (Fo G φ S.mem) (S.aw x).2 (a.eval x):=by
 cases x with
 |tmp t=>
  simp only[St.aw]at T⊢;cases V:Env.lk S.env t with
  |none=>exact .bH _
  |some y=>
   obtain⟨g,x⟩:=y;rw[V]at T;simp only[ahx]at T⊢;subst T;exact h.env t x V
 |const v=>exact GB ..
 |global g=>
  simp only[St.aw]at T⊢;split
  .rename_i d AG;obtain⟨⟨I,_⟩,H,A3,A4,An⟩:=h.nK _ (So AG);have e:a.eval (.global g)=.pointer (some ⟨g,0+0,none⟩):=rfl;rw[e];exact .fg d 0 g 0 A3 I H A4 (λi c hi=>by simpa using An i c hi)
  .exact .lit _ rfl
 |func f=>exact .fn f [] #[] (by simpa [St.aw]using T) rfl (by simp)
inductive ep where
 |no
 |val (c:Bool) (x:AV)
 |dU (c:Bool) (x:AV) (e:dn)
def It(P:Program)(o:Oper)(a:Act)(w:World)(v:Value)(w':World):Prop:=
 (execOp a.eval o).run P w=.ok (.value v) w'\/((execOp a.eval o).run P w=.ok .skip w'/\v=undef)
def aN(P:Program)(S:St)(o:Oper):ep->Prop
 | .no=>True
 | .val c x=>c=true->∀φ G a w,Rel φ G S a w->∃v w',It P o a w v w'/\aG φ w' (Fo G φ S.mem) x v/\
  (∀b,b<w.heap.size->w'.heap[b]?=w.heap[b]?)/\w.heap.size<=w'.heap.size/\w'.os=w.os/\w'.tape=w.tape/\w'.output=w.output
 | .dU c x e=>c=true->∀φ G a w,Rel φ G S a w->∃v w' φ',It P o a w v w'/\aG φ' w' (Fo G φ' (Mem.set S.mem e)) x v/\
  bK φ' G (Mem.set S.mem e) w'/\bn φ S.mem w φ' (Mem.set S.mem e) w'/\∀k,k≠e.key->φ' k=φ k
def aN.pure{P S o x}{c:Prop}[Decidable c](h:c->∀φ G a w,Rel φ G S a w->∃v,(execOp a.eval o).run P w=.ok (.value v) w/\aG φ w (Fo G φ S.mem) x v):aN P S o (.val (decide c) x):=by
 intro J φ G a w U;obtain⟨v,I,H⟩:=h (adI J) φ G a w U;exact⟨v,w,.inl I,H,λ_ _=>rfl,aar _,rfl,rfl,rfl⟩
def aN.wO{P S o x e}{c:Prop}[Decidable c](h:c->∀φ G a w,Rel φ G S a w->∃v w' φ',It P o a w v w'/\aG φ' w' (Fo G φ' (Mem.set S.mem e)) x v/\
 bK φ' G (Mem.set S.mem e) w'/\bn φ S.mem w φ' (Mem.set S.mem e) w'/\∀k,k≠e.key->φ' k=φ k):aN P S o (.dU (decide c) x e):=λJ=>h (adI J)
def aN.aqG{P S o x}{c:Prop}[Decidable c](h:c->∀φ G a w,Rel φ G S a w->∃v w',It P o a w v w'/\aG φ w' (Fo G φ S.mem) x v/\
 (∀b,b<w.heap.size->w'.heap[b]?=w.heap[b]?)/\w.heap.size<=w'.heap.size/\w'.os=w.os/\w'.tape=w.tape/\w'.output=w.output):aN P S o (.val (decide c) x):=λJ=>h (adI J)
def aN.vh{P S o x}{c:Bool}(h:c=true->∀φ G a w,Rel φ G S a w->∃v,(execOp a.eval o).run P w=.ok (.value v) w/\aG φ w (Fo G φ S.mem) x v):aN P S o (.val c x):=by
 intro J φ G a w U;obtain⟨v,I,H⟩:=h J φ G a w U;exact⟨v,w,.inl I,H,λ_ _=>rfl,aar _,rfl,rfl,rfl⟩
def nL(P:Program)(S:St)(o:Oper):ep->Prop
 | .no=>True
 | .val c x=>c=true->∀φ G a w,Rel φ G S a w->∃v,(execOp a.eval o).run P w=.ok (.value v) w/\aG φ w (Fo G φ S.mem) x v
 | .dU _ _ _=>False
def nL.of{P S o x}{c:Prop}[Decidable c](h:c->∀φ G a w,Rel φ G S a w->∃v,(execOp a.eval o).run P w=.ok (.value v) w/\aG φ w (Fo G φ S.mem) x v):nL P S o (.val (decide c) x):=λJ=>h (adI J)
def nL.res{P S o r}(h:nL P S o r):aN P S o r:=by
 cases r with
 |no=>trivial
 |val c x=>
  intro J φ G a w U;obtain⟨v,I,H⟩:=h J φ G a w U;exact⟨v,w,.inl I,H,λ_ _=>rfl,aar _,rfl,rfl,rfl⟩
 |dU c x e=>exact h.elim
def pG(P:Program)(m:Mem)(t:TypeId)(p:AV):ep:=
 match p with
 | .ptr k au off=>match Mem.get m k with
  |some ⟨_,v,.box cs⟩=>match (tk P t).agg with
   |true=>match gT P t with
    |some n=>.val (v=au/\off+n<=cs.length) (FC ((cs.drop off).take n))
    |none=>.no
   |false=>.val (v=au/\tk P t≠.other/\off<cs.length) (cs[off]?.getD .bH)
  |_=>.no
 | .dD k au i j=>match Mem.get m k with
  |some ⟨_,v,.vec sz aq⟩=>match (tk P t).agg with
   |true=>.val (v=au/\i<aq.length/\gT P t=some sz/\j=0/\(D.at aq i).flat=false) (.d (D.at aq i))
   |false=>.val (v=au/\tk P t≠.other/\i<aq.length/\j<sz) (.d (D.cell (D.at aq i) j))
  |some ⟨_,v,.vv aq (some y)⟩=>match (tk P t).agg with
   |true=>.no
   |false=>.val (v=au/\tk P t≠.other/\i=aq.length/\j=0) y
  |_=>.no
 | .fg x j=>match (tk P t).agg with
  |true=>match j with
   |0=>.val (gT P t=some x.size/\x.flat=false) (.d x)
   |j=>match gT P t with
    |some n=>.val (j+n<=x.size) (.d (.agg ((x.cells.drop j).take n)))
    |none=>.no
  |false=>.val (tk P t≠.other/\j<x.size) (.d (x.cell j))
 |_=>.no
def bK.get{φ G m w}(h:bK φ G m w){k e}(Y:Mem.get m k=some e):e∈m/\e.key=k/\∃L,φ k=some L/\L.au=e.au/\fB φ w (Fo G φ m) L e.cont:=by
 obtain⟨hm,AC⟩:=Mem.get_mem Y;obtain⟨L,I,H,A4⟩:=h.gZ e hm;rw[AC]at I;exact⟨hm,AC,L,I,H,A4⟩
def aG.vJ{φ w F k au off v L}(h:aG φ w F (.ptr k au off) v)(A':φ k=some L)(O:L.au=au):v=.pointer (some ⟨L.eJ,off,none⟩):=by
 cases h with|ptr _ _ _ _ L' AM _ h _=>rw[A']at AM;cases AM;exact h O.symm
def aG.nM{φ w F k au i j v L}(h:aG φ w F (.dD k au i j) v)(A':φ k=some L)(O:L.au=au):v=.pointer (some ⟨L.eJ,L.base+i*L.sz+j,none⟩):=by
 cases h with|dD _ _ _ _ _ L' AM _ h _=>rw[A']at AM;cases AM;exact h O.symm
def Lo{w:World}{b:Nat}{arr:Array Value}{e:TypeId}{fr}(h:w.heap[b]?=some (.cells arr e fr))(o:Nat):w.cell? ⟨b,o,none⟩=arr[o]?:=by
 simp[World.cell?,h]
def jI{w:World}{b:Nat}{arr:Array Value}{e:TypeId}(h:gL w b arr e)(o:Nat):w.cell? ⟨b,o,none⟩=arr[o]?:=by
 obtain⟨fr,h,_⟩:=h;exact Lo h o
def mL{xs:List D}{i:Nat}(h:i<xs.length):xs[i]?=some (D.at xs i):=by simp[D.at,h]
def Ax{w F x v}(h:aR w F x v)(A2:x.flat=false):∃arr,v=.agg arr:=by
 cases h<;>simp_all [D.flat]
def Sp(P:Program)(S:St)(o:Oper)(t:TypeId)(x:Operand)(AJ:o.op=.load t x)(T:(S.aw x).1=true):nL P S o (pG P S.mem t (S.aw x).2):=by
 have A9:∀(a:Act)(w:World)(v:Value),(Instr.loadAt t (a.eval x)).run P w=.ok v w->(execOp a.eval o).run P w=.ok (.value v) w:=by
  intro a w v h;simp[execOp,AJ,h]
 unfold pG;split
 .rename_i k au off A5;split
  .rename_i key v cs Y;split
   .rename_i A0;split
    .rename_i n A_;refine nL.of ?_;rintro ⟨rfl,hle⟩ φ G a w U;have O:=U.aw x T;rw[A5]at O;obtain⟨hm,AC,L,A',A7,_,arr,elem,hh,AU,I,A8⟩:=U.mem.get Y;have e:=O.vJ A' A7;have AN:((arr.toList.drop off).take n).length=n:=by simp;omega
     refine⟨.agg ((arr.toList.drop off).take n).toArray,A9 a w _ ?_,?_⟩
     .rw[e];refine zA A0 (by rw[AN];exact A_) (λj v A1=>?_);rw[jI hh];rw[adq]at A1;split at A1
      .simpa using A1
      .cases A1
     .refine DX (by rw[AN];simp;omega) (λv O=>I v ?_) (λi c v J O=>?_)
      .have:=adw O;simpa using adx this
      .rw[adq]at J O;split at J
       .rename_i hi;simp only[hi,ad7]at O;exact A8 (off+i) c v (by simpa using J) (by simpa using O)
       .cases J
    .trivial
   .rename_i A0;refine nL.of ?_;rintro ⟨rfl,AD,AE⟩ φ G a w U;have O:=U.aw x T;rw[A5]at O;obtain⟨hm,AC,L,A',A7,_,arr,elem,hh,AU,I,A8⟩:=U.mem.get Y;have e:=O.vJ A' A7;have Ah:off<arr.size:=by omega
    refine⟨arr[off],A9 a w _ ?_,A8 off _ _ ?_ (by simp[Ah])⟩
    .rw[e];exact zz A0 AD (by rw[jI hh];simp[Ah])
    .simp[AE]
  .trivial
 .rename_i k au i j A5;split
  .rename_i key v sz aq Y;split
   .rename_i A0;refine nL.of ?_;rintro ⟨rfl,AE,Aa,rfl,A2⟩ φ G a w U;have O:=U.aw x T;rw[A5]at O;obtain⟨hm,AC,L,A',A7,Ab,Ac,Ad,AO⟩:=U.mem.get Y;have e:=O.nM A' A7;obtain⟨arr,elem,hh,AU,I,A8⟩:=AO (by omega);obtain⟨u,hu,Ae⟩:=A8 i _ (mL AE);obtain⟨AH,rfl⟩:=Ax hu A2;refine⟨.agg AH,A9 a w _ ?_,.d _ _ hu⟩;rw[e];have AW:AH.toList.length=sz:=by
     have A4:=hu.size;rw[Ad _ (ac6 (mL AE)),Ab]at A4;simpa [Value.cells]using A4
    have:=zA (P:=P) (t:=t) (w:=w) (b:=L.eJ) (o:=L.base+i*L.sz+0) (vs:=AH.toList) A0 (by rw[AW];exact Aa) (λj v A1=>by
     rw[jI hh];exact Ae j v (by simpa [Value.cells]using A1))
    simpa using this
   .rename_i A0;refine nL.of ?_;rintro ⟨rfl,AD,AE,A1⟩ φ G a w U;have O:=U.aw x T;rw[A5]at O;obtain⟨hm,AC,L,A',A7,Ab,Ac,Ad,AO⟩:=U.mem.get Y;have e:=O.nM A' A7;obtain⟨arr,elem,hh,AU,I,A8⟩:=AO (by omega);obtain⟨u,hu,Ae⟩:=A8 i _ (mL AE);have AW:(D.at aq i).size=sz:=by rw[Ad _ (ac6 (mL AE)),Ab]
    have AP:j<u.cells.size:=by rw[hu.size,AW];exact A1
    have Af:j<(D.at aq i).cells.length:=by rw[D.je,AW];exact A1
    refine⟨u.cells[j],A9 a w _ ?_,.d _ _ (hu.cells.2.2 j _ _ (by simp[D.cell,Af]) (by simp[AP])).1⟩;rw[e];exact zz A0 AD (by rw[jI hh];exact Ae j _ (by simp[AP]))
  .rename_i key v aq y Y;split
   .trivial
   .rename_i A0;refine nL.of ?_;rintro ⟨rfl,AD,rfl,rfl⟩ φ G a w U;have O:=U.aw x T;rw[A5]at O;obtain⟨hm,AC,L,A',A7,⟨Ao,Ac,_⟩,_,_,AO⟩:=U.mem.get Y;have e:=O.nM A' A7;simp only[Option.toList_some,ahz]at Ac;obtain⟨arr,elem,hh,AU,I,_,A8⟩:=AO (by omega);obtain⟨u,hu,Ap⟩:=A8 y rfl;refine⟨u,A9 a w _ ?_,Ap⟩;rw[e];exact zz A0 AD (by rw[jI hh,Ao,ale,ahq];exact hu)
  .trivial
 .rename_i d j A5;split
  .rename_i A0;split
   .refine nL.of ?_;rintro ⟨Aa,A2⟩ φ G a w U;have O:=U.aw x T;rw[A5]at O;generalize AQ:a.eval x=av at O;cases O with
    |fg _ _ b off A3 AS AT AA J=>
     obtain⟨AH,rfl⟩:=Ax AA A2;refine⟨.agg AH,A9 a w _ ?_,.d _ _ AA⟩;rw[AQ];exact zA (vs:=AH.toList) A0 (by rw[Aa];have:=AA.size;simp[Value.cells]at this;simp[this]) (λj v A1=>J j v (by simpa [Value.cells]using A1))
   .split
    .rename_i n A_;refine nL.of ?_;intro hle φ G a w U;have O:=U.aw x T;rw[A5]at O;generalize AQ:a.eval x=av at O;cases O with
     |fg _ _ b off A3 AS AT AA J=>
      have Ag:=AA.cells;have V:A3.cells.toList.length=d.size:=by rw[Ag.1,D.je]
      have AN:((A3.cells.toList.drop j).take n).length=n:=by simp at V⊢;omega
      refine⟨.agg ((A3.cells.toList.drop j).take n).toArray,A9 a w _ ?_,.d _ _ (.ss ?_ ?_ ?_)⟩
      .rw[AQ];refine zA A0 (by rw[AN];exact A_) (λi v hi=>?_);rw[adq]at hi;split at hi
       .rw[show off+j+i=off+(j+i) by omega];exact J (j+i) v (by simpa using hi)
       .cases hi
      .rw[AN];simp[D.je];omega
      .intro v O;exact Ag.2.1 v (by simpa using adx (adw O))
      .intro i c v I H;rw[adq]at I H;split at I
       .rename_i hi;simp only[hi,ad7]at H;exact (Ag.2.2 (j+i) c v (by simpa using I) (by simpa using H)).1
       .cases I
    .trivial
  .rename_i A0;refine nL.of ?_;rintro ⟨AD,A1⟩ φ G a w U;have O:=U.aw x T;rw[A5]at O;generalize AQ:a.eval x=av at O;cases O with
   |fg _ _ b off A3 AS AT AA J=>
    have AP:j<A3.cells.size:=by rw[AA.size];exact A1
    have Af:j<d.cells.length:=by rw[D.je];exact A1
    refine⟨A3.cells[j],A9 a w _ ?_,.d _ _ (AA.cells.2.2 j _ _ (by simp[D.cell,Af]) (by simp[AP])).1⟩;rw[AQ];exact zz A0 AD (J j _ (by simp[AP]))
 .trivial
def AV.oC:AV->Bool
 | .bH=>false
 | .bq _=>false
 |_=>true
def aG.oC{φ w F x v}(h:aG φ w F x v)(A6:x.oC=true):v.cells.size=x.cells.length/\∀u∈v.cells,dk u=true:=by
 have one:∀{v:Value}{x:AV},dk v=true->x.cells.length=1->v.cells.size=x.cells.length/\∀u∈v.cells,dk u=true:=by
  intro v x H A5;rw[fA H,A5];exact⟨rfl,λu hu=>by simp at hu;subst hu;exact H⟩
 cases h with
 |bH=>simp[AV.oC]at A6
 |bq=>simp[AV.oC]at A6
 |d x v h=>
  have A':=h.cells;refine⟨?_,A'.2.1⟩;have:=A'.1;cases x<;>simp_all [AV.cells,D.cells]
 |agg cs a A5 H A'=>exact⟨by simp[Value.cells,AV.cells,A5],H⟩
 |ptr _ _ _ _ _ _ _ _ H=>exact one H rfl
 |vec _ _ _ _ _ _ _ _ _ H=>exact one H rfl
 |dD _ _ _ _ _ _ _ _ _ H=>exact one H rfl
 |fg=>exact one rfl rfl
 |fn=>exact one rfl rfl
 |xf=>exact one rfl rfl
 |jG=>exact one rfl rfl
 |lit _ H=>exact one H rfl
 |nn=>exact one rfl rfl
 |err=>exact one rfl rfl
def bL{α:Type}(cs:List α)(off:Nat)(J:List α):List α:=
 match J with
 |[y]=>cs.set off y
 |J=>cs.take off++J++cs.drop (off+J.length)
def ea{α:Type}(cs:List α)(off:Nat)(J:List α)(h:off+J.length<=cs.length):bL cs off J=cs.take off++J++cs.drop (off+J.length):=by
 unfold bL;split
 .rename_i y;simp at h;rw[List.set_eq_take_append_cons_drop,ac1 (by omega)];simp
 .rfl
def cJ{α:Type}(cs:List α)(off:Nat)(J:List α)(h:off+J.length<=cs.length):(bL cs off J).length=cs.length:=by
 rw[ea cs off J h];simp;omega
def jJ{α:Type}(cs:List α)(off:Nat)(J:List α)(h:off+J.length<=cs.length)(i:Nat):
 (bL cs off J)[i]?=if i<off then cs[i]? else if i<off+J.length then J[i-off]? else cs[i]?:=by
 rw[ea cs off J h];by_cases H:i<off
 .rw[ac1 H,adM,ac9 (by simp;omega),adq,ac1 H]
 .rw[aaf H,adM,adb (by simp;omega)];simp only[ag6,aiY (show off<=cs.length by omega)];by_cases A0:i<off+J.length
  .rw[ac1 A0,ac9 (by omega)]
  .rw[aaf A0,adb (by omega),adR];congr 1;omega
def yl{α β:Type}{R:α->β->Prop}{cs J:List α}{vs us:List β}{off:Nat}(A5:cs.length=vs.length)(BE:J.length=us.length)(h:off+J.length<=cs.length)
 (A':∀(i:Nat) c v,cs[i]?=some c->vs[i]?=some v->R c v) (AB:∀(i:Nat) c v,J[i]?=some c->us[i]?=some v->R c v):
 ∀(i:Nat) c v,(bL cs off J)[i]?=some c->(bL vs off us)[i]?=some v->R c v:=by
 intro i c v;rw[jJ cs off J h,jJ vs off us (by omega),<-BE];split
 .exact A' i c v
 .split
  .exact AB _ c v
  .exact A' i c v
def Hi{φ G m w}(h:bK φ G m w):∀b,Fo G φ m b->b<w.heap.size:=λb T=>T.elim (h.bound b) (λA8=>h.Iq A8)
def rZ(w:World)(g k:Nat)(cs:Array Value)(h:k≠g):(w.setRow g cs).heap[k]?=w.heap[k]?:=by
 simp only[World.setRow,alS];rw[aaf (λe=>h e.symm)]
def bK.N4{φ G m w}(h:bK φ G m w){e:dn}(he:e∈m){L:Loc}(Y:φ e.key=some L)(A1:L.au=e.au){b0:Nat}(A8:e.cont.dN L b0)(U:Array Value)
 (L':Loc) (Z:e.au<=L'.au) (BF:L'.au=L.au->L'={L with eE:=L'.eE}) (I:aF) (AI:∀b,I.dN L' b->e.cont.dN L b)
 (A':∀φ':cC,φ.le φ'->(∀x v,aG φ w (Fo G φ m) x v->aG φ' (w.setRow b0 U) (Fo G φ' (Mem.set m ⟨e.key,L'.au,I⟩)) x v)->
  (∀x v,aR w (Fo G φ m) x v->aR (w.setRow b0 U) (Fo G φ' (Mem.set m ⟨e.key,L'.au,I⟩)) x v)->
  fB φ' (w.setRow b0 U) (Fo G φ' (Mem.set m ⟨e.key,L'.au,I⟩)) L' I):
 ∃φ',bK φ' G (Mem.set m ⟨e.key,L'.au,I⟩) (w.setRow b0 U)/\bn φ m w φ' (Mem.set m ⟨e.key,L'.au,I⟩) (w.setRow b0 U)/\φ' e.key=some L'/\∀k,k≠e.key->φ' k=φ k:=by
 have BG:kV φ m b0:=⟨e,he,L,Y,A8⟩;refine h.dU (e':=⟨e.key,L'.au,I⟩) he Y rfl (L':=L') (by rw[A1];exact Z) BF rfl
  (λb T AC=>rZ w b0 b U (λheq=>AC (heq▸A8))) (by simp) (λb T=>.inl (AI b T)) rfl rfl rfl ?_
 intro φ' AZ hle;have A_:∀b,b<w.heap.size->Fo G φ' (Mem.set m ⟨e.key,L'.au,I⟩) b->Fo G φ m b:=by
  rintro b BT (As|⟨x,M,At,AJ,Aa⟩)
  .exact .inl As
  .right;rcases (Mem.mem_set h.nodup).1 M with ⟨rfl,_⟩|⟨Au,AM⟩
   .subst AZ;simp at AJ;subst AJ;exact⟨e,he,L,Y,AI b Aa⟩
   .subst AZ;simp at AM;simp[AM]at AJ;exact⟨x,Au,At,AJ,Aa⟩
 have AD:∀b,b<w.heap.size->¬Fo G φ m b->(w.setRow b0 U).heap[b]?=w.heap[b]?:=
  λb T AC=>rZ w b0 b U (λheq=>AC (.inr (heq▸BG)))
 exact A' φ' hle (λx v M=>M.mono hle AD (by simp) A_) (λx v M=>M.mono AD (by simp) A_)
def bK.store{φ G m w}(h:bK φ G m w){e:dn}(he:e∈m){L:Loc}(Y:φ e.key=some L)(A1:L.au=e.au){b0:Nat}(A8:e.cont.dN L b0)(U:Array Value)
 (AE:Nat) (Z:e.au<=AE) (I:aF) (AI:∀b,I.dN {L with au:=AE} b->e.cont.dN L b)
 (A':∀φ':cC,φ.le φ'->(∀x v,aG φ w (Fo G φ m) x v->aG φ' (w.setRow b0 U) (Fo G φ' (Mem.set m ⟨e.key,AE,I⟩)) x v)->
  (∀x v,aR w (Fo G φ m) x v->aR (w.setRow b0 U) (Fo G φ' (Mem.set m ⟨e.key,AE,I⟩)) x v)->
  fB φ' (w.setRow b0 U) (Fo G φ' (Mem.set m ⟨e.key,AE,I⟩)) {L with au:=AE} I):
 ∃φ',bK φ' G (Mem.set m ⟨e.key,AE,I⟩) (w.setRow b0 U)/\bn φ m w φ' (Mem.set m ⟨e.key,AE,I⟩) (w.setRow b0 U)/\φ' e.key=some {L with au:=AE}/\∀k,k≠e.key->φ' k=φ k:=
 h.N4 he Y A1 A8 U {L with au:=AE} Z (λhh=>by simp at hh;cases L;simp_all) I AI A'
def bK.WK{φ G m w}(h:bK φ G m w){e:dn}(he:e∈m){L:Loc}(Y:φ e.key=some L)(A1:L.au=e.au)(O:World)(AS:O.heap=w.heap)(Av:O.os=w.os)(Aw:O.tape=w.tape)(Ay:O.output=w.output)
 (arr:Array Value) (elem:TypeId) (I:aF) (L':Loc) (Z:L'.au=e.au+1) (AI:∀b,I.dN L' b->e.cont.dN L b\/w.heap.size=b)
 (A':∀φ':cC,φ.le φ'->(∀x v,aG φ w (Fo G φ m) x v->aG φ' (O.alloc (.cells arr elem)) (Fo G φ' (Mem.set m ⟨e.key,e.au+1,I⟩)) x v)->
  (∀x v,aR w (Fo G φ m) x v->aR (O.alloc (.cells arr elem)) (Fo G φ' (Mem.set m ⟨e.key,e.au+1,I⟩)) x v)->
  (O.alloc (.cells arr elem)).heap[w.heap.size]?=some (.cells arr elem (0,0))->(∀b,b<w.heap.size->(O.alloc (.cells arr elem)).heap[b]?=w.heap[b]?)->
  fB φ' (O.alloc (.cells arr elem)) (Fo G φ' (Mem.set m ⟨e.key,e.au+1,I⟩)) L' I):
 ∃φ',bK φ' G (Mem.set m ⟨e.key,e.au+1,I⟩) (O.alloc (.cells arr elem))/\bn φ m w φ' (Mem.set m ⟨e.key,e.au+1,I⟩) (O.alloc (.cells arr elem))/\
  φ' e.key=some L'/\∀k,k≠e.key->φ' k=φ k:=by
 have hold:∀b,b<w.heap.size->(O.alloc (.cells arr elem)).heap[b]?=w.heap[b]?:=λb T=>by rw[RowKit.Below.heap_alloc O _ b (by rw[AS];exact T),AS]
 have A9:w.heap.size<=(O.alloc (.cells arr elem)).heap.size:=by simp[AS]
 refine h.dU (e':=⟨e.key,e.au+1,I⟩) he Y rfl (L':=L') (by rw[A1,Z];simp) (λhh=>by simp[A1,Z]at hh) Z
  (λb T _=>hold b T) A9 (λb T=>(AI b T).imp id (λe=>by omega)) Av Aw Ay ?_
 intro φ' AZ hle;have A_:∀b,b<w.heap.size->Fo G φ' (Mem.set m ⟨e.key,e.au+1,I⟩) b->Fo G φ m b:=by
  rintro b T (As|⟨x,M,At,AJ,Aa⟩)
  .exact .inl As
  .right;rcases (Mem.mem_set h.nodup).1 M with ⟨rfl,_⟩|⟨Au,AM⟩
   .subst AZ;simp at AJ;subst AJ;rcases AI b Aa with AF|AF
    .exact⟨e,he,L,Y,AF⟩
    .omega
   .subst AZ;simp at AM;simp[AM]at AJ;exact⟨x,Au,At,AJ,Aa⟩
 refine A' φ' hle (λx v M=>M.mono hle (λb T _=>hold b T) A9 A_) (λx v M=>M.mono (λb T _=>hold b T) A9 A_) ?_ hold;have:=heap_alloc_new O (.cells arr elem);rwa [AS]at this
def bK.fresh{φ G m w}(h:bK φ G m w){e:dn}(he:e∈m){L:Loc}(Y:φ e.key=some L)(A1:L.au=e.au)(O:World)(AS:O.heap=w.heap)(Av:O.os=w.os)(Aw:O.tape=w.tape)(Ay:O.output=w.output)
 (arr:Array Value) (elem:TypeId) (sz cap:Nat) (I:aF) (AI:∀b,I.dN ⟨e.au+1,w.heap.size,sz,cap,0,[]⟩ b->w.heap.size=b)
 (A':∀φ':cC,φ.le φ'->(∀x v,aG φ w (Fo G φ m) x v->aG φ' (O.alloc (.cells arr elem)) (Fo G φ' (Mem.set m ⟨e.key,e.au+1,I⟩)) x v)->
  (∀x v,aR w (Fo G φ m) x v->aR (O.alloc (.cells arr elem)) (Fo G φ' (Mem.set m ⟨e.key,e.au+1,I⟩)) x v)->
  (O.alloc (.cells arr elem)).heap[w.heap.size]?=some (.cells arr elem (0,0))->
  fB φ' (O.alloc (.cells arr elem)) (Fo G φ' (Mem.set m ⟨e.key,e.au+1,I⟩)) ⟨e.au+1,w.heap.size,sz,cap,0,[]⟩ I):
 ∃φ',bK φ' G (Mem.set m ⟨e.key,e.au+1,I⟩) (O.alloc (.cells arr elem))/\bn φ m w φ' (Mem.set m ⟨e.key,e.au+1,I⟩) (O.alloc (.cells arr elem))/\
  φ' e.key=some ⟨e.au+1,w.heap.size,sz,cap,0,[]⟩/\∀k,k≠e.key->φ' k=φ k:=
 h.WK he Y A1 O AS Av Aw Ay arr elem I _ rfl (λb T=>.inr (AI b T)) (λφ' H A0 AO A7 _=>A' φ' H A0 AO A7)
def D.setCells(r:D)(j:Nat)(y:D):D:=.agg (bL r.cells j y.cells)
def Iv(P:Program)(t:TypeId)(k au i j:Nat)(x:AV):Option dn->ep
 |some ⟨_,v,.vv aq (some _)⟩=>match x with
  | .vec a b c d=>.dU (v=au/\i=aq.length/\j=0/\gT P t=some 1) .bH ⟨k,au,.vv aq (some (.vec a b c d))⟩
  |_=>.no
 |_=>.no
def sY(P:Program)(m:Mem)(t:TypeId)(p x:AV):ep:=
 match p with
 | .ptr k au off=>match Mem.get m k with
  |some ⟨_,v,.box cs⟩=>.dU (v=au/\x.oC=true/\gT P t=some x.cells.length/\off+x.cells.length<=cs.length) .bH ⟨k,au,.box (bL cs off x.cells)⟩
  |_=>.no
 | .dD k au i j=>match Mem.get m k,x.norm with
  |some ⟨_,v,.vec sz aq⟩,.d y=>match tk P t with
   | .struct=>.dU (v=au/\i<aq.length/\gT P t=some sz/\y.size=sz/\j=0) .bH ⟨k,au,.vec sz (aq.set i y)⟩
   |_=>match sz with
    |1=>.dU (v=au/\i<aq.length/\gT P t=some 1/\y.size=1/\j=0) .bH ⟨k,au,.vec 1 (aq.set i y)⟩
    |sz=>.dU (v=au/\i<aq.length/\gT P t=some y.size/\j+y.size<=sz/\(D.at aq i).flat=false) .bH ⟨k,au,.vec sz (aq.set i ((D.at aq i).setCells j y))⟩
  |e,_=>Iv P t k au i j x e
 |_=>.no
def Nk{w w':World}{F F':Nat->Prop}{arr:Array Value}{aq:List D}{base sz cap i o:Nat}{us:List Value}{AG:D}{AH:Value}(A6:arr.size=base+cap*sz)(AT:aq.length<=cap)(hi:i<aq.length)
 (A8:base+i*sz<=o) (BU:o+us.length<=base+i*sz+sz)
 (AU:∀(n:Nat)(d:D),aq[n]?=some d->∃v,aR w F d v/\∀(j:Nat)(c:Value),v.cells[j]?=some c->arr[base+n*sz+j]?=some c)
 (BH:∀d∈aq,d.size=sz)
 (hm:∀x v,aR w F x v->aR w' F' x v) (AN:aR w' F' AG AH) (AW:AG.size=sz)
 (Az:∀(j:Nat)(c:Value),AH.cells[j]?=some c->(bL arr.toList o us)[base+i*sz+j]?=some c):
 ∀(n:Nat)(d:D),(aq.set i AG)[n]?=some d->∃v,aR w' F' d v/\∀(j:Nat)(c:Value),v.cells[j]?=some c->(bL arr.toList o us).toArray[base+n*sz+j]?=some c:=by
 have BI:base+i*sz+sz<=arr.size:=by
  have:i*sz+sz<=cap*sz:=by rw[<-ahP];exact adt _ (by omega)
  omega
 intro n d AA;by_cases AC:n=i
 .subst AC;simp[hi]at AA;subst AA;exact⟨AH,AN,λj c Ab=>by simpa using Az j c Ab⟩
 .rw[al3 (λh=>AC h.symm)]at AA;obtain⟨v,Z,BJ⟩:=AU n d AA;refine⟨v,hm d v Z,λj c Ab=>?_⟩;have BV:j<sz:=by
   have H:=Z.size;rw[BH d (ac6 AA)]at H;have:=(aet.1 Ab).1;omega
  rw[ahA,jJ arr.toList o us (by simp;omega)];have key:¬(o<=base+n*sz+j/\base+n*sz+j<o+us.length):=by
   rintro ⟨H,A0⟩;rcases Nat.lt_or_gt_of_ne AC with AP|hZ
   .have:n*sz+sz<=i*sz:=by rw[<-ahP];exact adt _ AP
    omega
   .have:i*sz+sz<=n*sz:=by rw[<-ahP];exact adt _ hZ
    omega
  have hh:=BJ j c Ab;split
  .simpa using hh
  .rw[aaf (by omega)];simpa using hh
def ym{P:Program}{t:TypeId}{w:World}{b o:Nat}{arr:Array Value}{elem:TypeId}{v:Value}(A6:gT P t=some v.cells.size)
 (A2:gL w b arr elem) (A5:o+v.cells.size<=arr.size) (H:∀x∈v.cells,dk x=true):
 (Instr.storeAt t (.pointer (some ⟨b,o,none⟩)) v).run P w=.ok () (w.setRow b (bL arr.toList o v.cells.toList).toArray):=by
 rw[RE A6 A2 A5 H,ea _ _ _ (by simpa using A5)];simp
def RG{w:World}{b:Nat}{arr:Array Value}{elem:TypeId}{fr}(A2:w.heap[b]?=some (.cells arr elem fr))(U:Array Value):(w.setRow b U).heap[b]?=some (.cells U elem fr):=setRow_heap w b arr U elem fr A2
def gL.setRow{w:World}{b:Nat}{arr:Array Value}{elem:TypeId}(A2:gL w b arr elem)(U:Array Value)(A6:U.size=arr.size):gL (w.setRow b U) b U elem:=by
 obtain⟨fr,H,A0⟩:=A2;exact⟨fr,RG H U,by rw[A6];exact A0⟩
def nP{α:Type}{cs J:List α}{off:Nat}{x:α}(h:off+J.length<=cs.length)(M:x∈bL cs off J):x∈cs\/x∈J:=by
 rw[ea cs off J h]at M;simp only[ada]at M;rcases M with (M|M)|M
 .exact .inl (adw M)
 .exact .inr M
 .exact .inl (adx M)
def WL(P:Program)(S:St)(o:Oper)(t:TypeId)(p x:Operand)(A8:o.op=.store t p x)(Ac:(S.aw p).1=true)(M:(S.aw x).1=true){k au i j:Nat}(AX:(S.aw p).2=.dD k au i j):
 aN P S o (Iv P t k au i j (S.aw x).2 (Mem.get S.mem k)):=by
 unfold Iv;split
 .rename_i key v aq y A2;split
  .rename_i a b c d AQ;refine aN.wO ?_;rintro ⟨rfl,rfl,rfl,Ad⟩ φ G BK w A3;have AD:key=k:=(Mem.get_mem A2).2;subst AD;have Z:=A3.aw p Ac;have hu:=A3.aw x M;rw[AX]at Z;rw[AQ]at hu;obtain⟨hm,_,L,Y,A1,AR⟩:=A3.mem.get A2;obtain⟨⟨B6,AT,A5⟩,BL,AM,B'⟩:=AR;have e:=Z.nM Y A1;simp only[Option.toList_some,ahz]at AT;have Ae:0<L.cap:=by omega
   obtain⟨arr,elem,hh,A9,H,BM,_⟩:=B' Ae;generalize B0:BK.eval x=u at hu;have B1:dk u=true:=by cases hu;assumption
   have Ao:u.cells=#[u]:=fA B1;have A4:L.base+aq.length+[u].length<=arr.toList.length:=by simp;omega
   obtain⟨φ',Af,Ag,B7,Ah⟩:=A3.mem.store (e:=⟨key,v,.vv aq (some y)⟩) hm Y A1 (b0:=L.eJ) (.inl ⟨Ae,rfl⟩) (bL arr.toList (L.base+aq.length) [u]).toArray v (aar _) (.vv aq (some (.vec a b c d))) (λ_ T=>T) (λφ' B8 Ap AY=>by
    refine⟨⟨B6,by simpa using AT,A5⟩,BL,AM,λ_=>⟨_,elem,hh.setRow _ (by rw[ahr,cJ _ _ _ A4];simp),?_,?_,?_,?_⟩⟩
    .rw[ahr,cJ _ _ _ A4];simpa using A9
    .intro z V;rcases nP A4 (by simpa using V)with V|V
     .exact H z (by simpa using V)
     .simp at V;subst V;exact B1
    .intro n xs q AC Aq;have BW:=(aap.1 AC).1;have:=BM n xs q AC Aq;rw[show (bL arr.toList (L.base+aq.length) [u]).toArray[L.base+n]?=arr[L.base+n]? by
      rw[ahA,jJ _ _ _ A4,ac1 (by omega)];simp]
     refine this.mono (λd u _ AA=>AY d u AA) (λb T=>?_);subst T;exact rZ w L.eJ b _ (λheq=>(AM b (ac6 Aq)).2 heq)
    .intro z V;cases V;refine⟨u,?_,Ap _ _ hu⟩;show (bL arr.toList (L.base+aq.length) [u]).toArray[L.base+aq.length]?=some u;rw[ahA,jJ _ _ _ A4,aaf (by omega),ac1 (by simp)];simp)
   refine⟨undef,_,φ',?_,.bH _,Af,Ag,Ah⟩;have B9:=ym (P:=P) (t:=t) (w:=w) (b:=L.eJ) (o:=L.base+aq.length) (v:=u) (by rw[Ao];exact Ad) hh (by rw[Ao];simpa using A4) (by rw[Ao];simpa using B1);rw[Ao]at B9;refine .inr ⟨?_,rfl⟩;rw[B6,ale,ahq]at e;simp[execOp,A8,e,B0,B9]
  .trivial
 .trivial
def aav(P:Program)(S:St)(o:Oper)(t:TypeId)(p x:Operand)(A8:o.op=.store t p x)(Ac:(S.aw p).1=true)(M:(S.aw x).1=true):aN P S o (sY P S.mem t (S.aw p).2 (S.aw x).2):=by
 have BA:∀(a:Act)(w w':World),(Instr.storeAt t (a.eval p) (a.eval x)).run P w=.ok () w'->It P o a w undef w':=by
  intro a w w' h;exact .inr ⟨by simp[execOp,A8,h],rfl⟩
 unfold sY;split
 .rename_i k au off AX;split
  .rename_i key v cs A2;refine aN.wO ?_;rintro ⟨rfl,BN,Ad,hle⟩ φ G a w A3;have Z:=A3.aw p Ac;have AQ:=A3.aw x M;rw[AX]at Z;obtain⟨hm,AD,L,Y,A1,B2,arr,elem,hh,A9,H,AU⟩:=A3.mem.get A2;have e:=Z.vJ Y A1;obtain⟨Ar,B3⟩:=AQ.oC BN;simp only at AD;subst AD;have A4:off+(a.eval x).cells.toList.length<=arr.toList.length:=by simp only[adA,Ar,A9];exact hle
   obtain⟨φ',Af,Ag,B7,Ah⟩:=A3.mem.store (e:=⟨key,v,.box cs⟩) hm Y A1 rfl (bL arr.toList off (a.eval x).cells.toList).toArray v (aar _) (.box (bL cs off (S.aw x).2.cells)) (λ_ T=>T) (λφ' B8 Ap AY=>by
    refine⟨⟨B2.1,B2.2.1,by rw[cJ _ _ _ hle];exact B2.2.2⟩,_,elem,hh.setRow _ (by show (bL arr.toList _ _).length=_;rw[cJ _ _ _ A4];simp),?_,?_,?_⟩
    .rw[cJ _ _ _ hle,<-A9];show (bL arr.toList off _).length=_;rw[cJ _ _ _ A4];simp
    .intro u hu;rcases nP A4 (by simpa using hu)with hu|hu
     .exact H u (by simpa using hu)
     .exact B3 u (by simpa using hu)
    .intro i c u A' hu;refine Ap c u ?_;exact yl (vs:=arr.toList) (us:=(a.eval x).cells.toList) (by simp[A9]) (by simpa using Ar.symm) hle (λi c v h AF=>AU i c v h (by simpa using AF))
      (λi c v h AF=>AQ.cells B3 Ar i c v h (by simpa using AF)) i c u A' (by simpa using hu))
   refine⟨undef,_,φ',BA a w _ ?_,.bH _,Af,Ag,Ah⟩;rw[e];exact ym (by rw[Ar];exact Ad) hh (by omega) B3
  .trivial
 .rename_i k au i j AX;have vec:∀(c:Prop)[Decidable c](sz:Nat)(aq:List D)(y AG:D)(v:Nat),Mem.get S.mem k=some ⟨k,v,.vec sz aq⟩->(S.aw x).2.norm=.d y->
   (c->v=au/\i<aq.length/\gT P t=some y.size/\j+y.size<=sz/\((D.at aq i).size=sz->AG.size=sz)/\
    ∀w F (u v:Value),(D.at aq i).size=sz->aR w F (D.at aq i) v->aR w F y u->∃AH,aR w F AG AH/\AH.cells.toList=bL v.cells.toList j u.cells.toList)->
   aN P S o (.dU (decide c) .bH ⟨k,au,.vec sz (aq.set i AG)⟩):=by
   intro c _ sz aq y AG v A2 AB BO;refine aN.wO λA' φ G a w A3=>?_;obtain⟨rfl,AP,Ad,Ab,BP,BQ⟩:=BO A';have Z:=A3.aw p Ac;have AQ:=(A3.aw x M).norm;rw[AB]at AQ;rw[AX]at Z;obtain⟨hm,AD,L,Y,A1,Ai,AT,AW,B'⟩:=A3.mem.get A2;have e:=Z.nM Y A1;have Ae:0<L.cap:=by omega
   obtain⟨arr,elem,hh,A9,H,AU⟩:=B' Ae;have BB:AG.size=sz:=BP (by rw[AW _ (ac6 (mL AP)),Ai]);cases AQ with
   |d _ u hu=>
    generalize B0:a.eval x=u at hu;have Aj:u.cells.size=y.size:=hu.size;have BI:L.base+i*L.sz+L.sz<=arr.size:=by
     have:i*L.sz+L.sz<=L.cap*L.sz:=by rw[<-ahP];exact adt _ (by omega)
     omega
    obtain⟨B4,BC,BD⟩:=AU i _ (mL AP);have B5:B4.cells.size=L.sz:=by rw[BC.size];exact AW _ (ac6 (mL AP))
    have A4:L.base+i*L.sz+j+u.cells.toList.length<=arr.toList.length:=by simp[Aj];omega
    obtain⟨φ',Af,Ag,B7,Ah⟩:=A3.mem.store (e:=⟨k,v,.vec sz aq⟩) hm Y A1 ⟨Ae,rfl⟩ (bL arr.toList (L.base+i*L.sz+j) u.cells.toList).toArray v (aar _) (.vec sz (aq.set i AG)) (λ_ T=>T) (λφ' B8 Ap AY=>by
     refine⟨Ai,by simpa using AT,?_,λ_=>⟨_,elem,hh.setRow _ (by show (bL arr.toList _ _).length=_;rw[cJ _ _ _ A4];simp),?_,?_,?_⟩⟩
     .intro d AA;rcases List.mem_or_eq_of_mem_set AA with AA|rfl
      .exact AW d AA
      .show _=L.sz;rw[Ai];exact BB
     .show (bL arr.toList _ _).length=_;rw[cJ _ _ _ A4];simpa using A9
     .intro z V;rcases nP A4 (by simpa using V)with V|V
      .exact H z (by simpa using V)
      .exact hu.cells.2.1 z (by simpa using V)
     .obtain⟨AH,Az,BR⟩:=BQ _ _ u B4 (by rw[AW _ (ac6 (mL AP)),Ai]) (AY _ _ BC) (AY _ _ hu);refine Nk (F:=Fo G φ S.mem) (base:=L.base) (cap:=L.cap) (sz:=L.sz) A9 AT AP (by omega) (by simp[Aj];omega) AU AW AY Az (by rw[BB,Ai]) ?_;intro q c Aq;have AK:(bL B4.cells.toList j u.cells.toList)[q]?=some c:=by rw[<-BR];simpa using Aq
      have BX:q<L.sz:=by
       have:=(aap.1 AK).1;rw[cJ _ _ _ (by simp[Aj,B5];omega)]at this;simpa [B5]using this
      rw[jJ _ _ _ (by simp[Aj,B5];omega)]at AK;rw[jJ _ _ _ A4];by_cases H:q<j
      .rw[ac1 H]at AK;rw[ac1 (by omega)];simpa using BD q c (by simpa using AK)
      .rw[aaf H]at AK;rw[aaf (by omega)];by_cases A0:q<j+u.cells.toList.length
       .rw[ac1 A0]at AK;rw[ac1 (by omega)];rw[show L.base+i*L.sz+q-(L.base+i*L.sz+j)=q-j by omega];exact AK
       .rw[aaf A0]at AK;rw[aaf (by omega)];simpa using BD q c (by simpa using AK))
    refine⟨undef,_,φ',BA a w _ ?_,.bH _,Af,Ag,Ah⟩;rw[e,B0];exact ym (by rw[Aj];exact Ad) hh (by simpa using A4) hu.cells.2.1
  have whole:∀(y r:D),y.size=r.size->∀w F (u v:Value),aR w F r v->aR w F y u->∃AH,aR w F y AH/\AH.cells.toList=bL v.cells.toList 0 u.cells.toList:=by
   intro y r BY w F u v A3 AB;refine⟨u,AB,?_⟩;have H:=A3.size;have A0:=AB.size;rw[ea _ _ _ (by simp;omega)];simp;omega
  split
  .rename_i key v sz aq y A2 AB;have AD:key=k:=(Mem.get_mem A2).2;subst AD;split
   .exact vec _ sz aq y y v A2 AB (λ⟨H,A0,AO,A7,Ak⟩=>⟨H,A0,by rw[A7];exact AO,by omega,λ_=>A7,by
     subst Ak;intro w F u v A6 AN Al;exact whole y _ (by rw[A6,A7]) w F u v AN Al⟩)
   .split
    .exact vec _ 1 aq y y v A2 AB (λ⟨H,A0,AO,A7,Ak⟩=>⟨H,A0,by rw[A7];exact AO,by omega,λ_=>A7,by
      subst Ak;intro w F u v A6 AN Al;exact whole y _ (by rw[A6,A7]) w F u v AN Al⟩)
    .refine vec _ sz aq y _ v A2 AB (λ⟨H,A0,AO,A7,Ak⟩=>⟨H,A0,AO,A7,?_,?_⟩)
     .intro AL;show (bL _ _ _).length=sz;rw[cJ _ _ _ (by rw[D.je,D.je,AL];exact A7),D.je,AL]
     .intro w F u v A6 AN Al;obtain⟨BS,rfl⟩:=Ax AN Ak;have AR:=AN.cells;have An:=Al.cells;have A5:j+y.cells.length<=(D.at aq i).cells.length:=by rw[D.je,D.je,A6];exact A7
      refine⟨.agg (bL BS.toList j u.cells.toList).toArray,.ss ?_ ?_ ?_,by simp[Value.cells]⟩
      .have AL:=AR.1;simp only[Value.cells]at AL;rw[cJ _ _ _ A5,cJ _ _ _ (by rw[An.1,AL];exact A5),<-AL]
      .intro z V;have AL:=AR.1;simp only[Value.cells]at AL;rcases nP (by rw[An.1,AL];exact A5) V with V|V
       .exact AR.2.1 z (by simpa [Value.cells]using V)
       .exact An.2.1 z (by simpa using V)
      .exact yl (by simpa [Value.cells]using AR.1.symm) (by simpa using An.1.symm) A5 (λi c v h AF=>(AR.2.2 i c v h (by simpa [Value.cells]using AF)).1) (λi c v h AF=>(An.2.2 i c v h (by simpa using AF)).1)
  .exact WL P S o t p x A8 Ac M AX
 .trivial
def kE(P:Program)(w:World)(e:TypeId)(cs:Array Value):(newRow e cs).run P w=.ok ⟨w.heap.size,0,none⟩ (w.alloc (.cells cs e)):=rfl
def keyOf(o:Oper):Nat:=100+50*o.dst.getD 100000
def vi(P:Program)(t:TypeId):Option (List AV):=
 match P.info? t with
 |some i=>match i.zero with
  |some z=>if z.cells.all dk then some (z.cells.toList.map qC)else none
  |none=>none
 |none=>none
def su{P:Program}{t:TypeId}{zs:List AV}(h:vi P t=some zs)(w:World):∃z,(zeroValue t).run P w=.ok z w/\z.cells.size=zs.length/\(∀v∈z.cells,dk v=true)/\
 ∀φ w' F (i:Nat) c v,zs[i]?=some c->z.cells[i]?=some v->aG φ w' F c v:=by
 unfold vi at h;split at h
 .rename_i i hi;split at h
  .rename_i z A2;split at h
   .rename_i AP;simp at h;subst h;refine⟨z,by simp[zeroValue,typeInfo,hi,A2],by simp,?_,?_⟩
    .intro v H;exact Array.all_eq_true'.1 AP v H
    .intro φ w' F i c v T H;simp only[adn,ahH,ac3]at T;obtain⟨u,hu,rfl⟩:=T;rw[H]at hu;cases hu;exact GB ..
   .cases h
  .cases h
 .cases h
def wP(m:Mem)(k:Nat)(c:Bool)(cs:List AV):ep:=
 match Mem.get m k with
 |some ⟨_,v,_⟩=>.dU c (.ptr k (v+1) 0) ⟨k,v+1,.box cs⟩
 |none=>.no
def Ss{P:Program}{S:St}{o:Oper}{k:Nat}{c:Bool}{cs:List AV}
 (h:c=true->∀φ G a w,Rel φ G S a w->∃(arr:Array Value)(elem:TypeId),(execOp a.eval o).run P w=.ok (.value (.pointer (some ⟨w.heap.size,0,none⟩))) (w.alloc (.cells arr elem))/\
  arr.size=cs.length/\(∀v∈arr,dk v=true)/\∀(i:Nat) c v,cs[i]?=some c->arr[i]?=some v->aG φ w (Fo G φ S.mem) c v):aN P S o (wP S.mem k c cs):=by
 unfold wP;split
 .rename_i key v cont AQ;intro T φ G a w Z;obtain⟨arr,elem,A3,U,M,A'⟩:=h T φ G a w Z;obtain⟨hm,A6,L,AR,AJ,_⟩:=Z.mem.get AQ;simp only at A6 AJ;subst A6;obtain⟨φ',AS,AT,AU,AW⟩:=Z.mem.fresh (e:=⟨key,v,cont⟩) hm AR AJ w rfl rfl rfl rfl arr elem 1 cs.length (.box cs) (λ_ A8=>A8) (λφ' hle AX Ai AY=>
   ⟨⟨rfl,rfl,rfl⟩,arr,elem,gL.new AY,U,M,λi c u T hu=>AX c u (A' i c u T hu)⟩)
  exact⟨_,_,φ',.inl A3,.ptr key (v+1) 0 _ _ AU (aar _) (λ_=>rfl) rfl,AS,AT,AW⟩
 .trivial
def agR(P:Program)(S:St)(o:Oper)(t:TypeId)(x:Operand)(AC:o.op=.box t x)(A4:(S.aw x).1=true):aN P S o (wP S.mem (keyOf o) (S.aw x).2.oC (S.aw x).2.cells):=by
 refine Ss λA0 φ G a w Z=>?_;have H:=Z.aw x A4;obtain⟨M,V⟩:=H.oC A0;refine⟨(a.eval x).cells,t,?_,M,V,H.cells V M⟩;simp[execOp,AC,Instr.box,newVar,kE]
def N5(P:Program)(S:St)(o:Oper)(t:TypeId)(AC:o.op=.alloc t)(zs:List AV)(A2:vi P t=some zs):aN P S o (wP S.mem (keyOf o) true zs):=by
 refine Ss λ_ φ G a w Z=>?_;obtain⟨z,A3,U,M,A'⟩:=su A2 w;refine⟨z.cells,t,?_,U,M,λi c v T H=>A' _ _ _ i c v T H⟩;simp[execOp,AC,Instr.alloc,newVar,kE,A3]
def oW(P:Program)(t:TypeId):Option D:=
 match vi P t,(tk P t).agg with
 |some zs,true=>(toDsN zs).map .agg
 |some [z],false=>toD1 z
 |_,_=>none
def Bf(P:Program)(t:TypeId):Option Nat:=(P.info? t).map (·.bytes)
def Iw{P:Program}{t:TypeId}{d:D}(h:oW P t=some d)(w:World):∃z,(zeroValue t).run P w=.ok z w/\z.cells.size=d.size/\(∀v∈z.cells,dk v=true)/\
 ∀w' F,∃v,aR w' F d v/\v.cells=z.cells:=by
 unfold oW at h;split at h
 .rename_i zs A2 AZ;simp only[ac3]at h;obtain⟨AD,A_,rfl⟩:=h;obtain⟨z,A3,U,M,A'⟩:=su A2 w;have A5:∀w' F,zs.length=AD.length/\∀(i:Nat) d v,AD[i]?=some d->z.cells.toList[i]?=some v->aR w' F d v:=λw' F=>
   toDsN_rel (φ:=λ_=>none) (w:=w') (F:=F) (vs:=z.cells.toList) A_ (λi c v T H=>A' _ _ _ i c v T (by simpa using H))
  refine⟨z,A3,by rw[U,(A5 w (λ_=>False)).1];rfl,M,λw' F=>⟨.agg z.cells,?_,rfl⟩⟩;have:=aR.ss (w:=w') (F:=F) (cs:=AD) (vs:=z.cells.toList) (by rw[<-(A5 w' F).1];simpa using U.symm) (λv H=>M v (by simpa using H)) (A5 w' F).2;simpa using this
 .rename_i z0 A2 AZ;obtain⟨z,A3,U,M,A'⟩:=su A2 w;obtain⟨u,hu⟩:∃u,z.cells=#[u]:=by
   have:z.cells.size=1:=U;exact⟨z.cells[0],by apply Array.ext<;>simp_all⟩
  have I:∀w' F,aR w' F d u:=λw' F=>toD1_rel (φ:=λ_=>none) h (A' _ _ _ 0 z0 u (by simp) (by simp[hu]));have AK:dk u=true:=M u (by simp[hu]);refine⟨z,A3,by rw[hu,<-(I w (λ_=>False)).size,fA AK],M,λw' F=>⟨u,I w' F,by rw[fA AK,hu]⟩⟩
 .cases h
def dg(w:World)(F:Nat->Prop)(sz:Nat)(aq:List D)(cs:List Value):Prop:=
 cs.length=aq.length*sz/\(∀v∈cs,dk v=true)/\(∀d∈aq,d.size=sz)/\∀(i:Nat) d,aq[i]?=some d->∃v,aR w F d v/\∀(j:Nat) c,v.cells[j]?=some c->cs[i*sz+j]?=some c
def Bg{sz:Nat}{w:World}{F:Nat->Prop}{d:D}{v:Value}(h:aR w F d v)(A0:d.size=sz){j:Nat}{c:Value}(J:v.cells[j]?=some c):j<sz:=by
 have M:=h.size;have:=(aet.1 J).1;omega
def dg.append{w F sz xs AE cs AL}(h:dg w F sz xs cs)(Aa:dg w F sz AE AL):dg w F sz (xs++AE) (cs++AL):=by
 obtain⟨y,a2,a3,a4⟩:=h;obtain⟨Ab,Ac,Ad,Ae⟩:=Aa;refine⟨by simp[y,Ab,agW],?_,?_,?_⟩
 .intro v H;rcases ada.1 H with H|H;exact a2 v H;exact Ac v H
 .intro v H;rcases ada.1 H with H|H;exact a3 v H;exact Ad v H
 .intro i d I;by_cases hi:i<xs.length
  .rw[ac9 hi]at I;obtain⟨v,H,Y⟩:=a4 i d I;refine⟨v,H,λj c J=>?_⟩;have A9:=Bg H (a3 d (ac6 I)) J;rw[ac9]
   .exact Y j c J
   .rw[y];have:i*sz+sz<=xs.length*sz:=by rw[<-ahP];exact adt _ hi
    omega
  .rw[adb (by omega)]at I;obtain⟨v,H,Y⟩:=Ae _ d I;refine⟨v,H,λj c J=>?_⟩;have e:xs.length*sz+(i-xs.length)*sz=i*sz:=by rw[<-agW];congr 1;omega
   rw[adb (by rw[y];omega),y,show i*sz+j-xs.length*sz=(i-xs.length)*sz+j by omega];exact Y j c J
def dg.take{w F sz xs cs}(h:dg w F sz xs cs)(n:Nat)(AM:n<=xs.length):dg w F sz (xs.take n) (cs.take (n*sz)):=by
 obtain⟨y,a2,a3,a4⟩:=h;have hle:n*sz<=xs.length*sz:=adt _ AM;refine⟨by simp only[ag6,y];rw[aiY AM,aiY hle],λv H=>a2 v (adw H),λv H=>a3 v (adw H),?_⟩;intro i d I;rw[adq]at I;split at I
 .rename_i hi;obtain⟨v,H,Y⟩:=a4 i d I;refine⟨v,H,λj c J=>?_⟩;have A9:=Bg H (a3 d (ac6 I)) J;have:i*sz+sz<=n*sz:=by rw[<-ahP];exact adt _ hi
  rw[adq,ac1 (by omega)];exact Y j c J
 .cases I
def dg.drop{w F sz xs cs}(h:dg w F sz xs cs)(n:Nat):dg w F sz (xs.drop n) (cs.drop (n*sz)):=by
 obtain⟨y,a2,a3,a4⟩:=h;refine⟨by simp[y,Nat.sub_mul],λv H=>a2 v (adx H),λv H=>a3 v (adx H),?_⟩;intro i d I;rw[adR]at I;obtain⟨v,H,Y⟩:=a4 _ d I;refine⟨v,H,λj c J=>?_⟩;rw[adR,show n*sz+(i*sz+j)=(n+i)*sz+j by rw[agW];omega];exact Y j c J
def dg.mono{w F w' F' sz xs cs}(h:dg w F sz xs cs)(hm:∀x v,aR w F x v->aR w' F' x v):dg w' F' sz xs cs:=
 ⟨h.1,h.2.1,h.2.2.1,λi d I=>let ⟨v,H,T⟩:=h.2.2.2 i d I;⟨v,hm _ _ H,T⟩⟩
def dg.nil(w F sz):dg w F sz [] []:=⟨by simp,by simp,by simp,by simp⟩
def yo{φ w F}{L:Loc}{aq:List D}{pre cs rest:List Value}{sz:Nat}{elem:TypeId}(U:L.sz=sz)(Z:dg w F sz aq cs)(Af:pre.length=L.base)(A1:∀v∈pre,dk v=true)(M:∀v∈rest,dk v=true)
 (A7:aq.length<=L.cap) (A5:(cs++rest).length=L.cap*sz) (hh:0<L.cap->gL w L.eJ (pre++(cs++rest)).toArray elem):fB φ w F L (.vec sz aq):=by
 obtain⟨y,a2,a3,a4⟩:=Z;subst U;refine⟨rfl,A7,a3,λT=>⟨_,elem,hh T,by simp only[ahr,acY]at A5⊢;omega,?_,?_⟩⟩
 .intro v H;simp at H;rcases H with H|H|H
  .exact A1 v H
  .exact a2 v H
  .exact M v H
 .intro i d I;obtain⟨v,H,Y⟩:=a4 i d I;refine⟨v,H,λj c J=>?_⟩;have A9:=Bg H (a3 d (ac6 I)) J;have AF:i<aq.length:=(aap.1 I).1;have:i*L.sz+L.sz<=aq.length*L.sz:=by rw[<-ahP];exact adt _ AF
  rw[ahA,adb (by omega),Af,show L.base+i*L.sz+j-L.base=i*L.sz+j by omega,ac9 (by rw[y];omega)];exact Y j c J
def Az{φ w F}{L:Loc}{aq:List D}{cs rest:List Value}{sz:Nat}{elem:TypeId}(U:L.sz=sz)(A8:L.base=0)(Z:dg w F sz aq cs)(M:∀v∈rest,dk v=true)
 (A7:aq.length<=L.cap) (A5:(cs++rest).length=L.cap*sz) (hh:0<L.cap->gL w L.eJ (cs++rest).toArray elem):fB φ w F L (.vec sz aq):=
 yo (pre:=[]) U Z (by simp[A8]) (by simp) M A7 A5 hh
def ru{φ w F}{L:Loc}{aq:List D}{sz:Nat}(h:fB φ w F L (.vec sz aq))(T:0<L.cap):∃(arr:Array Value)(elem:TypeId),gL w L.eJ arr elem/\arr.size=L.base+L.cap*sz/\
 (∀v∈arr,dk v=true)/\dg w F sz aq ((arr.toList.drop L.base).take (aq.length*sz)):=by
 obtain⟨A0,A7,AN,AA⟩:=h;obtain⟨arr,elem,hh,U,M,A'⟩:=AA T;subst A0;refine⟨arr,elem,hh,U,M,?_,λv H=>M v (by simpa using adx (adw H)),AN,?_⟩
 .simp only[ag6,agU,adA,U];exact aiY (by rw[Nat.add_sub_cancel_left];exact adt _ A7)
 .intro i d I;obtain⟨v,H,Y⟩:=A' i d I;refine⟨v,H,λj c J=>?_⟩;have A9:=Bg H (AN d (ac6 I)) J;have AF:i<aq.length:=(aap.1 I).1;have:i*L.sz+L.sz<=aq.length*L.sz:=by rw[<-ahP];exact adt _ AF
  rw[adq,ac1 (by omega),adR,<-adv];simpa using Y j c J
def N6{w F}{xs:List D}{ao:Option Addr}{m cap sz:Nat}(h:aR w F (.list xs) (.slice ao m cap))(A0:∀d∈xs,d.size=sz):
 m=xs.length/\∃cs,dg w F sz xs cs/\(xs≠[]->∃b off,ao=some ⟨b,off,none⟩/\b<w.heap.size/\¬F b/\∀(j:Nat) v,cs[j]?=some v->w.cell? ⟨b,off+j,none⟩=some v):=by
 generalize A4:D.list xs=x at h;generalize H:Value.slice ao m cap=v at h;cases h with
 |nil a c=>
  simp at A4 H;subst A4;exact⟨by simp[H.2.1],[],dg.nil ..,λh=>absurd rfl h⟩
 |list AE b off Aj O vs A7 A8 Ag U AG T=>
  simp at A4 H;obtain⟨rfl,rfl,rfl⟩:=H;subst A4;refine⟨rfl,?_⟩
  --Ak cells,row by row
  have AH:xs≠[]->O=sz:=λAB=>by
   cases xs with
   |nil=>exact absurd rfl AB
   |cons d r=>rw[<-U d (by simp),A0 d (by simp)]
  by_cases AB:xs=[]
  .subst AB;exact⟨[],dg.nil ..,λh=>absurd rfl h⟩
  have AH:=AH AB;subst AH;have AA:∀(i j:Nat),i<xs.length->j<O->∃c,(vs i).cells[j]?=some c/\w.cell? ⟨b,off+(i*O+j),none⟩=some c/\dk c=true:=by
   intro i j hi J;have M:=AG i xs[i] (by simp[hi]);have V:=M.size;rw[A0 _ (ag9 hi)]at V;have AO:j<(vs i).cells.size:=by omega
   refine⟨(vs i).cells[j],by simp[AO],?_,M.cells.2.1 _ (by simp)⟩;have:=T i j _ hi (show (vs i).cells[j]?=some (vs i).cells[j] by simp[AO]);rw[<-adv];exact this
  refine⟨(List.range (xs.length*O)).map (λj=>(w.cell? ⟨b,off+j,none⟩).getD undef),⟨by simp,?_,A0,?_⟩,λ_=>⟨b,off,rfl,A8,Ag,?_⟩⟩
  .intro v H;simp only[adk,aej]at H;obtain⟨j,J,rfl⟩:=H;have AI:0<O:=by rcases amK O with A1|A1;simp[A1]at J;exact A1
   obtain⟨c,_,V,Ah⟩:=AA (j/O) (j%O) (Nat.div_lt_of_lt_mul (by rw[Nat.mul_comm];exact J)) (Nat.mod_lt _ AI);rw[Nat.mul_comm,Nat.div_add_mod]at V;simp[V,Ah]
  .intro i d I;have hi:i<xs.length:=(aap.1 I).1;refine⟨vs i,AG i d I,λj c J=>?_⟩;have A9:=Bg (AG i d I) (A0 d (ac6 I)) J;obtain⟨Al,M,V,_⟩:=AA i j hi A9;rw[J]at M;cases M;have:i*O+O<=xs.length*O:=by rw[<-ahP];exact adt _ hi
   simp[V,show i*O+j<xs.length*O by omega]
  .intro j v H;simp only[adn,ac3]at H;obtain⟨k,A6,rfl⟩:=H;have J:j<xs.length*O:=by
    rcases Nat.lt_or_ge j (xs.length*O)with h|h
    .exact h
    .simp[ahU (l:=List.range (xs.length*O)) (by simpa using h)]at A6
   simp[J]at A6;subst A6;have AI:0<O:=by rcases amK O with A1|A1;simp[A1]at J;exact A1
   obtain⟨c,_,V,_⟩:=AA (j/O) (j%O) (Nat.div_lt_of_lt_mul (by rw[Nat.mul_comm];exact J)) (Nat.mod_lt _ AI);rw[Nat.mul_comm,Nat.div_add_mod]at V;simp[V]
 |_=>simp at A4
def jZ(m:Mem)(sz:Nat):AV->Option (Bool×List D)
 | .d (.list J)=>some (true,J)
 | .d (.str s)=>some (sz=1,s.map λb=>.int .u8 b.toNat)
 | .lit (.slice none 0 0)=>some (true,[])
 | .nn=>some (true,[])
 | .vec k au off len=>match Mem.get m k with
  |some ⟨_,v,.vec _ aq⟩=>some (v=au/\off+len<=aq.length,(aq.drop off).take len)
  |_=>none
 |_=>none
structure Nv(P:Program)(w:World)(F:Nat->Prop)(sz:Nat)(J:List D)(x:Value)(O:List Value):Prop where
 len:∀w',(Builtin.lenOf x).run P w'=.ok J.length w'
 WO:∀n,n<=J.length->∀w',(∀b,b<w.heap.size->w'.heap[b]?=w.heap[b]?)->(Builtin.firstCells sz n x).run P w'=.ok (O.take (n*sz)).toArray w'
 aq:dg w F sz J O
def Nv.first{P w F sz J x O}(h:Nv P w F sz J x O)(w':World)(hw:∀b,b<w.heap.size->w'.heap[b]?=w.heap[b]?):(Builtin.firstCells sz J.length x).run P w'=.ok O.toArray w':=by
 rw[h.WO _ (aar _) w' hw,adK (by rw[h.aq.1];exact aar _)]
def N7{P:Program}{S:St}{φ G w}(hm:bK φ G S.mem w){x:AV}{v:Value}(U:aG φ w (Fo G φ S.mem) x v){c J}{sz:Nat}(I:jZ S.mem sz x=some (c,J))(Z:c=true)(A1:∀d∈J,d.size=sz):
 ∃O,Nv P w (Fo G φ S.mem) sz J v O:=by
 unfold jZ at I;split at I
 .rename_i A3;simp at I;obtain⟨_,rfl⟩:=I;cases U with
  |d _ _ h=>
   have A':∃ao m cap,v=.slice ao m cap:=by cases h<;>exact⟨_,_,_,rfl⟩
   obtain⟨ao,m,cap,rfl⟩:=A';obtain⟨rfl,cs,T,A9⟩:=N6 h A1;refine⟨cs,⟨λw'=>by simp[Builtin.lenOf],λn M w' hw=>?_,T⟩⟩;by_cases A4:A3=[]
   .subst A4;have:cs=[]:=adf (by simpa using T.1);subst this;have V:n=0:=by simpa using M
    subst V;cases ao with
    |none=>simp[Builtin.firstCells]
    |some a=>simp[Builtin.firstCells,loadCells,loadCellsFrom]
   .obtain⟨b,off,rfl,Y,_,AA⟩:=A9 A4;exact run_firstCells_some (P:=P) w' sz n ⟨b,off,none⟩ A3.length cap _ (T.take n M |>.1.trans (by simp[M])) (λj u H=>by
     rw[ij,nj (hw b Y)];rw[adq]at H;split at H
     .exact AA j u H
     .cases H)
 .rename_i s;simp only[adl,aeb]at I;obtain⟨rfl,rfl⟩:=I;simp only[ac2]at Z;subst Z;cases U with
  |d _ _ h=>
   cases h with
   |str b _ Y=>
    subst Y;have AB:b.size=b.data.toList.length:=by rw[adA];rfl
    refine⟨b.data.toList.map λx=>Value.int .u8 x.toNat,⟨λw'=>by simp only[Builtin.lenOf,List.length_map,<-AB];rfl,λn M w' _=>?_,?_,?_,?_,?_⟩⟩
    .simp only[Builtin.firstCells,Sem.run_pure];congr 1;apply Array.ext';simp
    .simp
    .intro v A';simp only[adk]at A';obtain⟨y,_,rfl⟩:=A';rfl
    .exact A1
    .intro i d A5;simp only[adn,ac3]at A5;obtain⟨y,AC,rfl⟩:=A5;refine⟨.int .u8 y.toNat,.int _ _,λj c H=>?_⟩;cases j with
     |zero=>simp only[Value.cells]at H;simp at H;subst H;simp only[adn,ale,ahq,AC];rfl
     |succ j=>simp[Value.cells]at H
 .simp at I;obtain⟨_,rfl⟩:=I;cases U with
  |lit=>exact⟨[],⟨λw'=>by simp[Builtin.lenOf],λn _ w' _=>by simp[Builtin.firstCells],dg.nil ..⟩⟩
 .simp at I;obtain⟨_,rfl⟩:=I;cases U with
  |nn a cap=>exact⟨[],⟨λw'=>by simp[Builtin.lenOf],λn M w' _=>by
   have V:n=0:=by simpa using M
   subst V;simp[Builtin.firstCells,loadCells,loadCellsFrom],dg.nil ..⟩⟩
 .rename_i k au off len;split at I
  .rename_i key AO A2 aq AD;simp only[adl,aeb]at I;obtain⟨rfl,rfl⟩:=I;simp only[ac2]at Z;obtain⟨rfl,hle⟩:=Z;obtain⟨AP,AQ,L,AE,AF,A6⟩:=hm.get AD;have AG:((aq.drop off).take len).length=len:=by simp;omega
   cases U with
   |vec _ _ _ _ _ L' A7 _ h AH=>
    rw[AE]at A7;cases A7;obtain⟨ao,cap,rfl,AR,AI⟩:=h AF.symm;clear h AH;by_cases AJ:len=0
    .subst AJ;refine⟨[],⟨λw'=>by simp[Builtin.lenOf],λn M w' _=>?_,by simpa using dg.nil ..⟩⟩;have V:n=0:=by simpa using M
     subst V;cases ao with
     |none=>simp[Builtin.firstCells]
     |some a=>simp[Builtin.firstCells,loadCells,loadCellsFrom]
    .obtain⟨rfl,AS⟩:=AI (by omega);obtain⟨arr,elem,hh,AT,AU,T⟩:=ru A6 (by omega);have AK:A2=sz:=by
      have A0:0<((aq.drop off).take len).length:=by omega
      have AL:=A1 (((aq.drop off).take len)[0]'A0) (ag9 A0)
      have AM:=T.2.2.1 (((aq.drop off).take len)[0]'A0) (adx (adw (ag9 A0)))
      rw[<-AL,<-AM]
     subst AK;have AN:L.sz=A2:=A6.1;have A8:=(T.drop off).take len (by simp;omega);refine⟨_,⟨λw'=>by simp[Builtin.lenOf,AG],λn M w' hw=>?_,A8⟩⟩;have Y:L.eJ<w.heap.size:=hh.lt;exact run_firstCells_some (P:=P) w' A2 n ⟨L.eJ,L.base+off*L.sz,none⟩ len cap _ ((A8.take n M).1.trans (by rw[ag6,aiY M])) (λj u H=>by
      rw[ij,nj (hw L.eJ Y),jI hh,AN];rw[adq]at H;split at H
      .rw[adq]at H;split at H
       .rw[adR,adq]at H;split at H
        .rw[adR]at H;rw[adv];simpa using H
        .cases H
       .cases H
      .cases H)
  .cases I
 .cases I
section
variable {P:Program}
def kf(P:Program)(u:TypeId):Bool:=
 match P.underlying u with
 |some (.slice _)=>true
 |some .string=>true
 |_=>false
theorem D0{u:TypeId}(h:kf P u=true):(∃e,P.underlying u=some (.slice e))\/P.underlying u=some .string:=by
 unfold kf at h;grind
structure Kr(P:Program)(w:World)(F:Nat->Prop)(u:TypeId)(sz:Nat)(z:Value)(H:List D)(x:Value)(M:List Value):Prop where
 aq:dg w F sz H M
 kind:(kf P u=true/\Nv P w F sz H x M)\/((∃k,P.underlying u=some (.int k))/\(∃AX,x=.int AX H.length)/\H.length<=4611686018427387904/\z.cells.size=sz/\M=(Builtin.zeroCells z.cells H.length).toList)
theorem N9{n:Nat}(h:n<=4611686018427387904):IntKind.i64.wrap (n:Int)=(n:Int):=IntWalk.i64_in _ (by omega)
theorem Bh{z:Array Value}{n:Nat}(h:n*z.size=0):Builtin.zeroCells z n=#[]:=by
 apply Array.eq_empty_of_size_eq_zero;rw[size_zeroCells];exact h
theorem vL{w:World}{t u ty e:TypeId}{i:TypeInfo}{z:Value}(A1:P.underlying t=some (.slice e))(hi:P.info? e=some i)(V:i.zero=some z)
 {ao:Option Addr} {len cap:Nat} {F x M} (J:Kr P w F u i.size z [] x M) (hle:len<=cap):
 (Builtin.append_ #[t,u] ty #[.slice ao len cap,x]).run P w=.ok (.slice ao len cap) w:=by
 rcases J.kind with ⟨hu,J⟩|⟨⟨k,Z⟩,⟨AX,rfl⟩,_,AB,rfl⟩
 .have Y:M=[]:=adf (by simpa using J.aq.1);subst Y;have BJ:=J.len w;have AY:=J.first w (λ_ _=>rfl);simp only[ac7]at BJ AY;rcases D0 hu with ⟨AZ,Z⟩|Z<;>cases ao<;>
   simp[Builtin.append_,run_underlying A1,run_underlying Z,sizeOf,typeInfo,hi,BJ,AY,hle,storeCells]
 .have w0:=N9 (n:=0) (by omega);simp only[Int.ofNat_zero,Int.natCast_zero]at w0;cases ao<;>simp[Builtin.append_,run_underlying A1,run_underlying Z,sizeOf,typeInfo,hi,w0,asInt,asIntOf,hle,storeCells]
theorem run_append_fits{w:World}{t u ty e:TypeId}{i:TypeInfo}{z:Value}(A1:P.underlying t=some (.slice e))(hi:P.info? e=some i)(V:i.zero=some z)
 {g b len cap:Nat} {F H x M} (J:Kr P w F u i.size z H x M) {cur:Array Value} {e':TypeId} (AO:gL w g cur e')
 (A2:len+H.length<=cap) (Ax:b+len*i.size+M.length<=cur.size) (Bg:H.length*i.bytes<=140737488355328):
 (Builtin.append_ #[t,u] ty #[.slice (some ⟨g,b,none⟩) len cap,x]).run P w=.ok (.slice (some ⟨g,b,none⟩) (len+H.length) cap) (w.setRow g (bL cur.toList (b+len*i.size) M).toArray):=by
 obtain⟨Bi,AO,Bj⟩:=AO;have A_:=mQ (P:=P) g (b+len*i.size) e' Bi M 0 cur w AO Bj (by simpa using Ax) (λx AD=>sj (J.aq.2.1 x AD));simp only[ahq]at A_;rw[ea _ _ _ (by simpa using Ax)];rcases J.kind with ⟨hu,J⟩|⟨⟨k,Z⟩,⟨AX,rfl⟩,Ay,AB,rfl⟩
 .have AY:=J.first w (λ_ _=>rfl);rcases D0 hu with ⟨AZ,Z⟩|Z<;>simp[Builtin.append_,run_underlying A1,run_underlying Z,sizeOf,typeInfo,hi,J.len,A2,AY,ij,A_]
 .have wn:=N9 Ay;have A4:¬((H.length:Int)<0):=by omega
  have A8:¬(281474976710656<(H.length:Int)*(i.bytes:Int)):=by
   have:(H.length:Int)*(i.bytes:Int)=((H.length*i.bytes:Nat):Int):=by simp
   rw[this];omega
  by_cases A5:H.length*i.size=0
  .have B':=Bh (z:=z.cells) (n:=H.length) (by rw[AB];exact A5);rw[B']at A_⊢;simp only[Array.toList_empty]at A_;simp[Builtin.append_,run_underlying A1,run_underlying Z,sizeOf,typeInfo,hi,wn,asInt,asIntOf,A4,A8,A5,A2,ij,A_]
  .simp[Builtin.append_,run_underlying A1,run_underlying Z,sizeOf,typeInfo,zeroValue,hi,V,wn,asInt,asIntOf,A4,A8,A5,A2,ij,A_]
theorem yp{w:World}{t u ty e:TypeId}{i:TypeInfo}{z:Value}(A1:P.underlying t=some (.slice e))(hi:P.info? e=some i)(V:i.zero=some z)
 {ao:Option Addr} {len cap:Nat} {F H x M} (J:Kr P w F u i.size z H x M) (A6:List Value)
 (hold:∀w',w'.heap=w.heap->(Builtin.firstCells i.size len (.slice ao len cap)).run P w'=.ok A6.toArray w')
 (A2:cap<len+H.length) (CJ:len+H.length<=9223372036854775807) (Ax:Builtin.nextslicecap (len+H.length) cap*i.bytes<=281474976710656) (Bg:H.length*i.bytes<=140737488355328):
 (Builtin.append_ #[t,u] ty #[.slice ao len cap,x]).run P w=
  .ok (.slice (some ⟨w.heap.size,0,none⟩) (len+H.length) (grownCap w (len+H.length) cap e))
   (w.drew.alloc (.cells (A6.toArray++M.toArray++Builtin.zeroCells z.cells (grownCap w (len+H.length) cap e-(len+H.length))) e)):=by
 have Y:¬(len+H.length<=cap):=by omega
 have B0:¬(9223372036854775807<((len:Int)+(H.length:Int))):=by omega
 have B1:¬(281474976710656<Builtin.nextslicecap (len+H.length) cap*i.bytes):=by omega
 have B2:=hold w.drew rfl;rcases J.kind with ⟨hu,J⟩|⟨⟨k,Z⟩,⟨AX,rfl⟩,Ay,AB,rfl⟩
 .have AY:=J.first w.drew (λ_ _=>rfl);rcases D0 hu with ⟨AZ,Z⟩|Z<;>
   (simp[Builtin.append_,run_underlying A1,run_underlying Z,sizeOf,typeInfo,zeroValue,hi,V,J.len,Y,B0,B1,Question.forced,AY,B2,kE,grownCap]
    congr 2;apply Array.ext';simp[adM])
 .have wn:=N9 Ay;have A4:¬((H.length:Int)<0):=by omega
  have A8:¬(281474976710656<(H.length:Int)*(i.bytes:Int)):=by
   have:(H.length:Int)*(i.bytes:Int)=((H.length*i.bytes:Nat):Int):=by simp
   rw[this];omega
  by_cases A5:H.length*i.size=0
  .have B':=Bh (z:=z.cells) (n:=H.length) (by rw[AB];exact A5);rw[B'];simp[Builtin.append_,run_underlying A1,run_underlying Z,sizeOf,typeInfo,zeroValue,hi,V,wn,asInt,asIntOf,A4,A8,A5,Y,B0,B1,Question.forced,B2,kE,grownCap]
  .simp[Builtin.append_,run_underlying A1,run_underlying Z,sizeOf,typeInfo,zeroValue,hi,V,wn,asInt,asIntOf,A4,A8,A5,Y,B0,B1,Question.forced,B2,kE,grownCap]
end
def wQ{z:Array Value}{n:Nat}(h:∀v∈z,dk v=true):∀v∈Builtin.zeroCells z n,dk v=true:=by
 intro v A';simp only[Builtin.zeroCells,Array.mem_map,Array.mem_range]at A';obtain⟨i,hi,rfl⟩:=A';have BK:0<z.size:=by
  rcases amK z.size with A5|A5
  .simp[A5]at hi
  .exact A5
 have B3:i%z.size<z.size:=Nat.mod_lt _ BK;rw[getElem!_pos z _ B3];exact h _ (by simp)
def aeu{P:Program}{t:TypeId}{k}(h:tk P t=.int k):P.underlying t=some (.int k):=by
 unfold tk at h;split at h<;>simp_all
def UH(T:D):AV->Option (Bool×List D)
 | .d (.int _ n)=>some (decide (0<=n)&&decide (n<=4611686018427387904),List.replicate n.toNat T)
 |_=>none
def aaA(b:Bool):Option (Bool×List D)->Option (Bool×List D)
 |some (c,H)=>some (c&&b,H)
 |none=>none
def D3(P:Program)(m:Mem)(sz:Nat)(T:D)(u:TypeId)(x:AV):Option (Bool×List D):=
 match tk P u with
 | .int _=>UH T x
 |_=>aaA (kf P u) (jZ m sz x)
def dg.am1{w:World}{F:Nat->Prop}{z:Array Value}{sz:Nat}{T:D}(AN:∀v∈z,dk v=true)(AB:z.size=sz)(Z:T.size=sz)(A':∃v,aR w F T v/\v.cells=z)(n:Nat):
 dg w F sz (List.replicate n T) (Builtin.zeroCells z n).toList:=by
 refine⟨by simp[size_zeroCells,AB],λv A'=>wQ AN v (by simpa using A'),λd Bk=>by rw[(List.mem_replicate.1 Bk).2];exact Z,λi d hi=>?_⟩;obtain⟨BL,rfl⟩:=aap.1 hi;obtain⟨v,A4,A8⟩:=A';refine⟨v,by simpa using A4,λj c U=>?_⟩;have B4:j<z.size:=by rw[<-A8];exact (aet.1 U).1
 simp at BL;have B3:i*sz+j<n*z.size:=by
  rw[AB];have:i*sz+sz<=n*sz:=by rw[<-ahP];exact adt _ BL
  omega
 simp only[Builtin.zeroCells,ahH,Array.getElem?_map,Array.getElem?_range];rw[ac1 B3];simp only[ahK];have e:(i*sz+j)%z.size=j:=by rw[<-AB,Nat.mul_comm,Nat.mul_add_mod,Nat.mod_eq_of_lt B4]
 rw[e,getElem!_pos z j B4,<-U,A8];simp[B4]
def Su{P:Program}{S:St}{φ G w}(hm:bK φ G S.mem w){u:TypeId}{i:TypeInfo}{z:Value}{T:D}(AN:∀v∈z.cells,dk v=true)(AB:z.cells.size=i.size)(Aq:T.size=i.size)(Bl:∃v,aR w (Fo G φ S.mem) T v/\v.cells=z.cells)
 {x:AV} {v:Value} (AD:aG φ w (Fo G φ S.mem) x v) {c H} (J:D3 P S.mem i.size T u x=some (c,H)) (AF:c=true) (B5:∀d∈H,d.size=i.size):
 ∃M,Kr P w (Fo G φ S.mem) u i.size z H v M:=by
 unfold D3 at J;split at J
 .rename_i k AG;unfold UH at J;split at J
  .rename_i AX n;cases J;simp only[Ds,ac2]at AF;cases AD with
   |d _ _ AD=>
    cases AD;have Y:((List.replicate n.toNat T).length:Int)=n:=by simp;omega
    refine⟨_,dg.am1 AN AB Aq Bl n.toNat,.inr ⟨⟨k,aeu AG⟩,⟨AX,by rw[Y]⟩,by simp;omega,AB,by simp⟩⟩
  .cases J
 .rename_i AG;cases O:jZ S.mem i.size x with
  |none=>rw[O]at J;cases J
  |some y=>
   obtain⟨CK,CL⟩:=y;rw[O]at J;cases J;simp only[Ds]at AF;obtain⟨M,Y⟩:=N7 (P:=P) hm AD O AF.1 B5;exact⟨M,Y.aq,.inl ⟨AF.2,Y⟩⟩
def Ch(P:Program)(m:Mem)(u:TypeId)(sz by_:Nat)(T:D)(s x:AV):ep:=
 match s,x with
 | .vec k au off len,.vec BM BN 0 1=>match Mem.get m k,Mem.get m BM with
  |some ⟨_,v,.vv aq none⟩,some ⟨_,BO,.box [.lit (.slice none 0 0)]⟩=>
   .dU (kf P u=true/\BO=BN/\v=au/\sz=1/\T.size=1/\off+len<=aq.length/\(len+1)*by_<=140737488355328/\len+1<=4611686018427387904) (.vec k (au+1) 0 (len+1)) ⟨k,au+1,.vv ((aq.drop off).take len++[[]]) none⟩
  |_,_=>.no
 |_,_=>.no
def Ob{φ φ':cC}{w w':World}{F F':Nat->Prop}{L:Loc}{aq:List (List D)}(h:nI φ w F L aq none){off len:Nat}(hle:off+len<=aq.length)
 (L':Loc) (V:L'.sz=1) (J:L'.eE=(L.eE.drop off).take len++[none]) (B6:len+1<=L'.cap) (I:∀b,some b∈L.eE->b≠L'.eJ) {Aa:Array Value} {BP:TypeId} (O:gL w' L'.eJ Aa BP) (B5:Aa.size=L'.base+L'.cap) (A4:∀v∈Aa,dk v=true)
 (hold:∀i,i<len->∃(arr:Array Value)(elem:TypeId),0<L.cap/\gL w L.eJ arr elem/\Aa[L'.base+i]?=arr[L.base+off+i]?) (Ag:Aa[L'.base+len]?=some (.slice none 0 0))
 (Z:∀d u,aR w F d u->aR w' F' d u) (hw:∀b,some b∈L.eE->w'.heap[b]?=w.heap[b]?):nI φ' w' F' L' ((aq.drop off).take len++[[]]) none:=by
 obtain⟨⟨g1,g2,g3⟩,g4,g5,g6⟩:=h;have BQ:((aq.drop off).take len).length=len:=by simp;omega
 have BR:((L.eE.drop off).take len).length=len:=by simp;omega
 have Bm:∀b,some b∈L'.eE->some b∈L.eE:=by
  intro b I;rw[J]at I;rcases ada.1 I with I|I
  .exact adx (adw I)
  .simp at I
 have BS:∀(i b:Nat),L'.eE[i]?=some (some b)->i<len/\L.eE[off+i]?=some (some b):=by
  intro i b I;rw[J]at I;by_cases hi:i<len
  .rw[ac9 (by omega),adq,ac1 hi,adR]at I;exact⟨hi,I⟩
  .rw[adb (by omega),BR]at I;cases BT:i-len with
   |zero=>rw[BT]at I;simp at I
   |succ n=>rw[BT]at I;simp at I
 refine⟨⟨V,by simp;omega,by rw[J];simp;omega⟩,λi j b hi U=>?_,λb Bn=>⟨by omega,I b (Bm b Bn)⟩,λ_=>?_⟩
 .have A8:=g4 (off+i) (off+j) b (BS i b hi).2 (BS j b U).2;omega
 .refine⟨Aa,BP,O,B5,A4,λi xs o hi AC=>?_,λx AD=>by cases AD⟩;by_cases B7:i<len
  .rw[ac9 (by omega),adq,ac1 B7,adR]at hi;rw[J,ac9 (by omega),adq,ac1 B7,adR]at AC;obtain⟨arr,elem,A7,Bo,hold⟩:=hold i B7;obtain⟨Bp,CM,q1,q2,q3,Bq,_⟩:=g6 A7;have Br:Bp=arr:=by
    obtain⟨f1,Bs,_⟩:=q1;obtain⟨f2,AZ,_⟩:=Bo;rw[Bs]at AZ;simp only[adl,Obj.cells.injEq]at AZ;exact AZ.1
   subst Br;rw[hold,adv];exact (Bq (off+i) xs o hi AC).mono (λd u _ Bt=>Z d u Bt) (λb e=>hw b (by subst e;exact ac6 AC))
  .have Bu:i=len:=by
    have:=(aap.1 hi).1;simp only[acY,ahz,BQ]at this;omega
   subst Bu;rw[adb (by omega),BQ]at hi;rw[J,adb (by omega),BR]at AC;simp at hi AC;subst hi;subst AC;exact⟨rfl,none,Ag⟩
def aev(P:Program)(S:St)(o:Oper)(s x:Operand)(t u:TypeId)(AC:o.op=.call {callee:=.builtin .append,args:=#[s,x],argTypes:=#[t,u]})
 (J:(S.aw s).1=true) (AD:(S.aw x).1=true) {e:TypeId} (A1:P.underlying t=some (.slice e)) {i:TypeInfo} {z:Value} (hi:P.info? e=some i) (V:i.zero=some z) {T:D} (Ab:z.cells.size=T.size) (AN:∀v∈z.cells,dk v=true):
 aN P S o (Ch P S.mem u i.size i.bytes T (S.aw s).2 (S.aw x).2):=by
 have AH:∀(a:Act)(w w':World)(v:Value),(Builtin.append_ #[t,u] o.type #[a.eval s,a.eval x]).run P w=.ok v w'->(execOp a.eval o).run P w=.ok (.value v) w':=by
  intro a w w' v h;simp[execOp,AC,resolve,invoke,builtin,h]
 unfold Ch;split
 .rename_i k au off len BM BN Ah Ai;split
  .rename_i key v aq CN BO AO Bv;refine aN.wO ?_;rintro ⟨Ar,rfl,rfl,Ac,AB,hle,I,AS⟩ φ G a w O;obtain⟨hm,AG,L,A7,A3,A9⟩:=O.mem.get AO;simp only at AG A3 A9;subst AG;obtain⟨CO,BU,B8,Bw,BV,⟨Bx,By,CP⟩,As,CQ,BW,Bz,_,C'⟩:=O.mem.get Bv;simp only at BU BV;subst BU;have A':=O.aw s J;have B9:=O.aw x AD;rw[Ah]at A';rw[Ai]at B9;have C0:As[0]?=some (.slice none 0 0):=by
    have A5:0<As.size:=by rw[Bz];simp
    have:=C' 0 _ As[0] rfl (by simp[A5]);generalize A0:As[0]=q at this;cases this;simp[A5,A0]
   generalize hex:a.eval x=CS at B9;cases B9 with
   |vec _ _ _ _ _ L' AP _ h _=>
    rw[Bw]at AP;cases AP;obtain⟨CT,BX,rfl,CU,C1⟩:=h BV.symm;clear h;obtain⟨rfl,_⟩:=C1 (by omega);have AA:Kr P w (Fo G φ S.mem) u i.size z [.list []] (.slice (some ⟨B8.eJ,B8.base+0*B8.sz,none⟩) 1 BX) [.slice none 0 0]:=by
     have Aj:dg w (Fo G φ S.mem) i.size [.list []] [.slice none 0 0]:=by
      refine⟨by simp[Ac],by simp[dk],by simp[Ac,D.size],λn d Y=>?_⟩;cases n with
      |zero=>simp at Y;subst Y;exact⟨.slice none 0 0,.nil none 0 (λ_=>rfl),λj c U=>by simpa [Value.cells]using U⟩
      |succ n=>simp at Y
     refine⟨Aj,.inl ⟨Ar,λw'=>by simp[Builtin.lenOf],λn Y w' Ad=>?_,Aj⟩⟩;refine run_firstCells_some (P:=P) w' i.size n _ 1 BX _ (by have:n<=1:=Y;simp[Ac];omega) (λj c U=>?_);rw[ij,nj (Ad _ BW.lt),jI BW,Bx,By];rw[adq]at U;split at U
     .cases j with
      |zero=>simp at U;subst U;simpa using C0
      |succ j=>simp at U
     .cases U
    generalize AE:a.eval s=BY at A';cases A' with
    |vec _ _ _ _ _ L' AP _ h _=>
     rw[A7]at AP;cases AP;obtain⟨ao,cap,rfl,BZ,Ae⟩:=h A3.symm;clear h;have B_:∀b,some b∈L.eE->b<w.heap.size:=λb I=>O.mem.Iq ⟨_,hm,L,A7,.inr I⟩;have C2:∀b,some b∈(L.eE.drop off).take len++[none]->some b∈L.eE:=by
      intro b I;rcases ada.1 I with I|I
      .exact adx (adw I)
      .simp at I
     have grow:∀(A6:List Value),A6.length=len->(∀q∈A6,dk q=true)->(∀n,n<len->∃(arr:Array Value)(elem:TypeId),0<L.cap/\gL w L.eJ arr elem/\A6[n]?=arr[L.base+off+n]?)->
      (∀w',w'.heap=w.heap->(Builtin.firstCells i.size len (.slice ao len cap)).run P w'=.ok A6.toArray w')->cap<len+1->
      ∃vv w' φ',It P o a w vv w'/\aG φ' w' (Fo G φ' (Mem.set S.mem ⟨key,v+1,.vv ((aq.drop off).take len++[[]]) none⟩)) (.vec key (v+1) 0 (len+1)) vv/\
       bK φ' G (Mem.set S.mem ⟨key,v+1,.vv ((aq.drop off).take len++[[]]) none⟩) w'/\bn φ S.mem w φ' (Mem.set S.mem ⟨key,v+1,.vv ((aq.drop off).take len++[[]]) none⟩) w'/\∀k,k≠key->φ' k=φ k:=by
      intro A6 Ak C3 hold C4 A2;have BA:=grownCap_ge w (len+1) cap e;have C5:z.cells.size=1:=by rw[Ab];exact AB
      have At:=yp (P:=P) (ty:=o.type) A1 hi V AA A6 C4 (by simpa using A2) (by simp;omega) (growslice_fits (by simpa using A2) (by simpa using I)) (by simp;have:=adt i.bytes (alG 1 len);omega);simp only[ahz]at At;obtain⟨φ',AI,AJ,AK,AL⟩:=O.mem.WK (e:=⟨key,v,.vv aq none⟩) hm A7 A3 w.drew rfl rfl rfl rfl
       (A6.toArray++[Value.slice none 0 0].toArray++Builtin.zeroCells z.cells (grownCap w (len+1) cap e-(len+1))) e (.vv ((aq.drop off).take len++[[]]) none)
       ⟨v+1,w.heap.size,1,grownCap w (len+1) cap e,0,(L.eE.drop off).take len++[none]⟩ rfl
       (λb I=>by
        rcases I with ⟨_,I⟩|I
        .exact .inr I
        .exact .inl (.inr (C2 b I))) (λφ' Au BB AT Ag C6=>by
       refine Ob A9 hle _ rfl rfl (by simp only;omega) (λb I=>by have:=B_ b I;simp only;omega) (.new Ag) ?_ ?_ ?_ ?_ AT (λb I=>C6 b (B_ b I))
       .simp only[Array.size_append,ahr,Ak,ahz,size_zeroCells,C5];omega
       .intro q A0;simp only[Array.mem_append]at A0;rcases A0 with (A0|A0)|A0
        .exact C3 q (by simpa using A0)
        .simp at A0;subst A0;rfl
        .exact wQ AN q A0
       .intro n Y;obtain⟨arr,elem,A4,A8,Al⟩:=hold n Y;refine⟨arr,elem,A4,A8,?_⟩;rw[<-Al];simp only[agT];rw[ahT (by simp;omega),ahT (by simp;omega),ahA]
       .simp only[agT];rw[ahT (by simp;omega),Array.getElem?_append_right (by simp;omega)];simp[Ak])
      refine⟨_,_,φ',.inl (AH a w _ _ (by rw[AE,hex];exact At)),?_,AI,AJ,AL⟩;exact .vec key (v+1) 0 _ _ _ AK (aar _) (λ_=>⟨_,_,rfl,BA,λ_=>⟨by simp,by simp⟩⟩) rfl
     by_cases An:0<L.cap
     .obtain⟨arr,elem,hh,Av,Af,_,_⟩:=A9.2.2.2 An;have Ba:∀b,some b∈L.eE->b≠L.eJ:=λb I=>(A9.2.2.1 b I).2;have CV:∀b,some b∈L.eE->aF.dN L (.vv aq none) b:=λb I=>.inr I;have C7:∀b,some b∈(L.eE.drop off).take len++[none]->some b∈L.eE:=by
       intro b I;rcases ada.1 I with I|I
       .exact adx (adw I)
       .simp at I
      by_cases A2:len+[D.list []].length<=cap
      .simp only[ahz]at A2;obtain⟨rfl,BC⟩:=Ae (by omega);have AQ:L.base+off*L.sz+len*i.size+[Value.slice none 0 0].length<=arr.size:=by rw[Av,A9.1.1,Ac];simp;omega
       have AU:=run_append_fits (P:=P) (ty:=o.type) A1 hi V AA hh (by simpa using A2) AQ (by simp;have:=adt i.bytes (alG 1 len);omega);have Bb:=AH a w _ _ (by rw[AE,hex];exact AU);rw[A9.1.1,Ac,ale,ale]at Bb AQ;have Ao:L.base+off+len+[Value.slice none 0 0].length<=arr.toList.length:=by simpa using AQ
       obtain⟨φ',AI,AJ,AK,AL⟩:=O.mem.N4 (e:=⟨key,v,.vv aq none⟩) hm A7 A3 (b0:=L.eJ) (.inl ⟨An,rfl⟩) (bL arr.toList (L.base+off+len) [Value.slice none 0 0]).toArray ⟨v+1,L.eJ,1,L.cap-off,L.base+off,(L.eE.drop off).take len++[none]⟩ (alh _) (λhh=>by simp only at A3 hh;omega) (.vv ((aq.drop off).take len++[[]]) none)
        (λb I=>by
         rcases I with ⟨_,I⟩|I
         .exact .inl ⟨An,I⟩
         .exact .inr (C7 b I)) (λφ' Au BB AT=>by
        refine Ob A9 hle _ rfl rfl (by simp only;omega) Ba (hh.setRow _ (by rw[ahr,cJ _ _ _ Ao];simp)) ?_ ?_ ?_ ?_ AT ?_
        .rw[ahr,cJ _ _ _ Ao];simp only[adA,Av];omega
        .intro q A0;rcases nP Ao (by simpa using A0)with A0|A0
         .exact Af q (by simpa using A0)
         .simp at A0;subst A0;rfl
        .intro n Y;refine⟨arr,elem,An,hh,?_⟩;simp only
         rw[ahA,jJ _ _ _ Ao,ac1 (by omega)];simp
        .simp only
         rw[ahA,jJ _ _ _ Ao,aaf (by omega),ac1 (by simp)];simp
        .intro b I;exact rZ w L.eJ b _ (Ba b I))
       refine⟨_,_,φ',.inl Bb,?_,AI,AJ,AL⟩;exact .vec key (v+1) 0 _ _ _ AK (aar _) (λ_=>⟨_,_,rfl,by simpa using A2,λ_=>⟨by simp,by simp only;omega⟩⟩) rfl
      .have C8:cap<len+1:=by simpa using A2
       have BD:=A9.1.2.1;simp only[Option.toList_none,ac7,ahq]at BD;refine grow ((arr.toList.drop (L.base+off)).take len) (by simp;omega) (λq A0=>Af q (by simpa using adx (adw A0))) (λn Y=>⟨arr,elem,An,hh,?_⟩) (λw' Ad=>?_) C8
       .rw[adq,ac1 Y,adR];simp
       .by_cases AW:len=0
        .subst AW;cases ao with
         |none=>simp[Builtin.firstCells]
         |some a=>simp[Builtin.firstCells,loadCells,loadCellsFrom]
        .obtain⟨rfl,BC⟩:=Ae (by omega);refine run_firstCells_some (P:=P) w' i.size len _ len cap _ (by simp[Ac];omega) (λj c U=>?_);rw[ij,nj (w:=w) (w':=w') (by rw[Ad]),jI hh,A9.1.1,ale];rw[adq]at U;split at U
         .rw[adR]at U;simpa using U
         .cases U
     .have BD:=A9.1.2.1;simp only[Option.toList_none,ac7,ahq]at BD;have AW:len=0:=by omega
      have C9:cap=0:=by
       rcases amK cap with A5|A5
       .exact A5
       .have:=(Ae A5).2;omega
      subst AW;subst C9;refine grow [] rfl (by simp) (λn Y=>by omega) (λw' Ad=>?_) (by omega);cases ao with
      |none=>simp[Builtin.firstCells]
      |some a=>simp[Builtin.firstCells,loadCells,loadCellsFrom]
  .trivial
 .trivial
def wR(P:Program)(m:Mem)(BE:Nat)(t:TypeId)(u:TypeId)(s x:AV):ep:=
 match tk P t with
 | .slice e=>match gT P e,Bf P e,oW P e with
  |some sz,some by_,some T=>match D3 P m sz T u x with
   |some (c,H)=>match s with
    | .vec k au off len=>match Mem.get m k with
     |some ⟨_,v,.vec Bc aq⟩=>.dU (c/\T.size=sz/\v=au/\off+len<=aq.length/\Bc=sz/\(∀d∈H,d.size=sz)/\(len+H.length)*by_<=140737488355328/\len+H.length<=4611686018427387904)
      (.vec k (au+1) 0 (len+H.length)) ⟨k,au+1,.vec sz ((aq.drop off).take len++H)⟩
     |_=>.no
    | .lit (.slice none 0 0)=>match Mem.get m BE with
     |some ⟨_,v,_⟩=>.dU (c/\T.size=sz/\(∀d∈H,d.size=sz)/\H.length*by_<=140737488355328/\H.length<=4611686018427387904)
      (.vec BE (v+1) 0 H.length) ⟨BE,v+1,.vec sz H⟩
     |_=>.no
    |_=>.no
   |none=>Ch P m u sz by_ T s x
  |_,_,_=>.no
 |_=>.no
def iO{P:Program}{t e:TypeId}(h:tk P t=.slice e):P.underlying t=some (.slice e):=by
 unfold tk at h;split at h<;>simp_all
def Sv{P:Program}{e:TypeId}{sz by_:Nat}{T:D}(A4:gT P e=some sz)(A8:Bf P e=some by_)(Al:oW P e=some T):
 ∃i z,P.info? e=some i/\i.size=sz/\i.bytes=by_/\i.zero=some z/\z.cells.size=T.size/\(∀v∈z.cells,dk v=true)/\∀w' F,∃v,aR w' F T v/\v.cells=z.cells:=by
 unfold gT at A4;unfold Bf at A8;cases hi:P.info? e with
 |none=>simp[hi]at A4
 |some i=>
  simp[hi]at A4 A8;obtain⟨z,AH,CA,CB,CC⟩:=Iw Al default;cases V:i.zero with
  |none=>simp[zeroValue,typeInfo,hi,V,unsupported]at AH
  |some CD=>
   simp[zeroValue,typeInfo,hi,V]at AH;subst AH;exact⟨i,CD,rfl,A4,A8,V,CA,CB,CC⟩
def ag3(P:Program)(S:St)(o:Oper)(s x:Operand)(t u:TypeId)(AC:o.op=.call {callee:=.builtin .append,args:=#[s,x],argTypes:=#[t,u]})
 (J:(S.aw s).1=true) (AD:(S.aw x).1=true):aN P S o (wR P S.mem (keyOf o) t u (S.aw s).2 (S.aw x).2):=by
 have AH:∀(a:Act)(w w':World)(v:Value),(Builtin.append_ #[t,u] o.type #[a.eval s,a.eval x]).run P w=.ok v w'->(execOp a.eval o).run P w=.ok (.value v) w':=by
  intro a w w' v h;simp[execOp,AC,resolve,invoke,builtin,h]
 unfold wR;split
 .rename_i e CE;have A1:=iO CE;split
  .rename_i sz by_ T A4 A8 Al;obtain⟨i,z,hi,rfl,rfl,V,Ab,AN,Aq⟩:=Sv A4 A8 Al;split
   .rename_i c H Ar
    --CW CX a new block
    have grow:∀{φ G}{a:Act}{w:World}(O:Rel φ G S a w){M:List Value}(AA:Kr P w (Fo G φ S.mem) u i.size z H (a.eval x) M){key au:Nat}{cont:aF}(hm:(⟨key,au,cont⟩:dn)∈S.mem){L:Loc}(A7:φ key=some L)(A3:L.au=au)
     (ao:Option Addr) (len cap:Nat) (AE:a.eval s=.slice ao len cap) (A6:List Value) (AR:List D) (Bd:dg w (Fo G φ S.mem) i.size AR A6) (Ak:AR.length=len)
     (hold:∀w',w'.heap=w.heap->(Builtin.firstCells i.size len (.slice ao len cap)).run P w'=.ok A6.toArray w')
     (A2:cap<len+H.length) (I:(len+H.length)*i.bytes<=140737488355328) (AS:len+H.length<=4611686018427387904) (AM:T.size=i.size),
     ∃v w' φ',It P o a w v w'/\aG φ' w' (Fo G φ' (Mem.set S.mem ⟨key,au+1,.vec i.size (AR++H)⟩)) (.vec key (au+1) 0 (len+H.length)) v/\
      bK φ' G (Mem.set S.mem ⟨key,au+1,.vec i.size (AR++H)⟩) w'/\bn φ S.mem w φ' (Mem.set S.mem ⟨key,au+1,.vec i.size (AR++H)⟩) w'/\∀k,k≠key->φ' k=φ k:=by
     intro φ G a w O M AA key au cont hm L A7 A3 ao len cap AE A6 AR Bd Ak hold A2 I AS AM;have BA:=grownCap_ge w (len+H.length) cap e;have At:=yp (P:=P) (ty:=o.type) A1 hi V AA A6 hold A2 (by omega) (growslice_fits A2 I) (by have:=adt i.bytes (alG H.length len);omega);have Aj:dg w (Fo G φ S.mem) i.size (AR++H) (A6++M):=Bd.append AA.aq;obtain⟨φ',AI,AJ,AK,AL⟩:=O.mem.fresh (e:=⟨key,au,cont⟩) hm A7 A3 w.drew rfl rfl rfl rfl
      (A6.toArray++M.toArray++Builtin.zeroCells z.cells (grownCap w (len+H.length) cap e-(len+H.length))) e i.size (grownCap w (len+H.length) cap e) (.vec i.size (AR++H)) (λ_ I=>I.2) (λφ' hle BB AT Ag=>by
       refine Az (cs:=A6++M) (rest:=(Builtin.zeroCells z.cells (grownCap w (len+H.length) cap e-(len+H.length))).toList) (elem:=e) rfl rfl (Aj.mono AT) ?_ (by simp;omega) ?_ (λ_=>?_)
       .intro v A';exact wQ AN v (by simpa using A')
       .have AB:z.cells.size=i.size:=by
         rw[Ab];exact AM
        rw[acY,Aj.1];simp only[adA,size_zeroCells,AB,acY,Ak,<-agW];congr 1;omega
       .refine gL.new ?_;rw[Ag];congr 2;apply Array.ext';simp)
     refine⟨_,_,φ',.inl (AH a w _ _ (by rw[AE];exact At)),?_,AI,AJ,AL⟩;exact .vec key (au+1) 0 _ _ _ AK (aar _) (λ_=>⟨_,_,rfl,BA,λ_=>⟨by simp,by simp⟩⟩) rfl
    split
    .rename_i k au off len Ah;split
     .rename_i key v Bc aq AO;refine aN.wO ?_;rintro ⟨AF,AM,rfl,hle,rfl,BF,I,AS⟩ φ G a w O;obtain⟨hm,AG,L,A7,A3,A9⟩:=O.mem.get AO;simp only at AG;subst AG;have A':=O.aw s J;have Ai:=O.aw x AD;rw[Ah]at A';obtain⟨M,AA⟩:=Su (P:=P) O.mem AN (by rw[Ab];exact AM) AM (Aq _ _) Ai Ar AF BF;generalize AE:a.eval s=BY at A';cases A' with
      |vec _ _ _ _ _ L' AP _ h _=>
       rw[A7]at AP;cases AP;obtain⟨ao,cap,rfl,BZ,Ae⟩:=h A3.symm;clear h;have BG:L.sz=i.size:=A9.1;have BH:((aq.drop off).take len).length=len:=by simp;omega
       by_cases A2:len+H.length<=cap
       .by_cases B6:cap=0
        · --nothing CY nothing
         have Aw:H=[]:=adf (by omega);have AW:len=0:=by omega
         subst Aw;subst AW;have AU:=vL (P:=P) (ty:=o.type) (ao:=ao) A1 hi V AA BZ;obtain⟨φ',AI,AJ,AK,AL⟩:=O.mem.dU (e':=⟨key,v+1,.vec i.size ((aq.drop off).take 0++[])⟩) hm A7 rfl (L':={L with au:=v+1}) (by simp only at A3;simp;omega) (λhh=>by simp only at A3 hh;omega) rfl
          (w':=w) (λ_ _ _=>rfl) (aar _) (λ_ AC=>.inl AC) rfl rfl rfl (λφ' CF Au=>by
           obtain⟨g1,g2,g3,g4⟩:=A9;refine⟨g1,by simp,by simp,λAF=>?_⟩;obtain⟨arr,elem,f1,f2,f3,f4⟩:=g4 AF;exact⟨arr,elem,f1,f2,f3,by simp⟩)
         refine⟨_,w,φ',.inl (AH a w w _ (by rw[AE];exact AU)),?_,AI,AJ,AL⟩;exact .vec key (v+1) 0 _ _ _ AK (aar _) (λ_=>⟨_,_,rfl,by simp,λh=>by omega⟩) rfl
        .obtain⟨rfl,BC⟩:=Ae (by omega);obtain⟨arr,elem,hh,Av,Af,BI⟩:=ru A9 (by omega);obtain⟨B,Be⟩:∃B,B=L.base+off*i.size:=⟨_,rfl⟩;have Ap:=((BI.drop off).take len (by simp;omega));have CG:(((arr.toList.drop L.base).take (aq.length*i.size)).drop (off*i.size)).take (len*i.size)=(arr.toList.drop B).take (len*i.size):=by
          have:off*i.size+len*i.size<=aq.length*i.size:=by rw[<-agW];exact adt _ hle
          rw[List.drop_take,List.take_take,aiY (by omega),List.drop_drop,Be]
         rw[CG]at Ap;have CH:=Ap.append AA.aq;have CI:=AA.aq.1;have CZ:len*i.size+M.length<=(L.cap-off)*i.size:=by
          rw[CI,<-agW];exact adt _ (by omega)
         have C_:off*i.size+(L.cap-off)*i.size=L.cap*i.size:=by rw[<-agW];congr 1;omega
         have AQ:B+len*i.size+M.length<=arr.size:=by omega
         rw[BG,<-Be]at AE;have AU:=run_append_fits (P:=P) (ty:=o.type) A1 hi V AA hh A2 AQ (by have:=adt i.bytes (alG H.length len);omega);obtain⟨φ',AI,AJ,AK,AL⟩:=O.mem.N4 (e:=⟨key,v,.vec i.size aq⟩) hm A7 A3 (b0:=L.eJ) ⟨by omega,rfl⟩ (bL arr.toList (B+len*i.size) M).toArray ⟨v+1,L.eJ,L.sz,L.cap-off,B,[]⟩ (alh _) (λhh=>by simp only at A3 hh;omega) (.vec i.size ((aq.drop off).take len++H)) (λ_ I=>⟨by omega,I.2⟩) (λφ' Au BB AT=>by
          refine yo (pre:=arr.toList.take B) (cs:=(arr.toList.drop B).take (len*i.size)++M) (rest:=arr.toList.drop (B+len*i.size+M.length)) (elem:=elem) BG (CH.mono AT) ?_ ?_ ?_ (by rw[acY,BH];simp only;omega) ?_ (λ_=>?_)
          .simp only[ag6,adA];omega
          .intro z V;exact Af z (by simpa using adw V)
          .intro z V;exact Af z (by simpa using adx V)
          .show _=(L.cap-off)*i.size;simp only[acY,ag6,agU,adA];omega
          .have e:=hh.setRow (bL arr.toList (B+len*i.size) M).toArray (by show (bL arr.toList _ _).length=_;rw[cJ _ _ _ (by simpa using AQ)];simp);rw[ea _ _ _ (by simpa using AQ),List.take_add]at e;rw[ea _ _ _ (by simpa using AQ),List.take_add];simpa [adM]using e)
         refine⟨_,_,φ',.inl (AH a w _ _ (by rw[AE];exact AU)),?_,AI,AJ,AL⟩;exact .vec key (v+1) 0 _ _ _ AK (aar _) (λ_=>⟨_,_,rfl,A2,λ_=>⟨by simp,by simp only;omega⟩⟩) rfl
       .by_cases B6:cap=0
        .subst B6;have AW:len=0:=by omega
         subst AW;have:=grow O AA hm A7 A3 ao 0 0 AE [] [] (dg.nil ..) rfl (λw' _=>by cases ao<;>simp[Builtin.firstCells,loadCells,loadCellsFrom]) (by omega) I AS AM;simpa using this
        .obtain⟨rfl,BC⟩:=Ae (by omega);obtain⟨arr,elem,hh,Av,Af,BI⟩:=ru A9 (by omega);have Ap:=((BI.drop off).take len (by simp;omega));exact grow O AA hm A7 A3 _ len cap AE _ ((aq.drop off).take len) Ap BH (λw' Ad=>by
          refine run_firstCells_some (P:=P) w' i.size len _ len cap _ (by rw[Ap.1,BH]) (λj u U=>?_);rw[ij,show w'.cell? ⟨L.eJ,L.base+off*L.sz+j,none⟩=w.cell? ⟨L.eJ,L.base+off*L.sz+j,none⟩ by simp[World.cell?,Ad],jI hh,BG];rw[adq]at U;split at U
          .rw[adR,adq]at U;split at U
           .rw[adR]at U;rw[adv];simpa using U
           .cases U
          .cases U) (by omega) I AS AM
     .trivial
    .rename_i Ah;split
     .rename_i key v cont AO;refine aN.wO ?_;rintro ⟨AF,AM,BF,I,AS⟩ φ G a w O;obtain⟨hm,AG,L,A7,A3,A9⟩:=O.mem.get AO;simp only at AG A3;subst AG;have A':=O.aw s J;have Ai:=O.aw x AD;rw[Ah]at A';obtain⟨M,AA⟩:=Su (P:=P) O.mem AN (by rw[Ab];exact AM) AM (Aq _ _) Ai Ar AF BF;generalize AE:a.eval s=BY at A';cases A';by_cases Aw:H=[]
      .subst Aw;have AU:=vL (P:=P) (ty:=o.type) (ao:=none) (len:=0) (cap:=0) A1 hi V AA (aar _);obtain⟨φ',AI,AJ,AK,AL⟩:=O.mem.dU (e':=⟨keyOf o,v+1,.vec i.size []⟩) hm A7 rfl (L':=⟨v+1,0,i.size,0,0,[]⟩) (by simp only;omega) (λhh=>by simp only at hh;omega) rfl
        (w':=w) (λ_ _ _=>rfl) (aar _) (λ_ AC=>absurd AC.1 (by simp)) rfl rfl rfl (λφ' CF Au=>
         ⟨rfl,by simp,by simp,λAF=>by simp at AF⟩)
       refine⟨_,w,φ',.inl (AH a w w _ (by rw[AE];exact AU)),?_,AI,AJ,AL⟩;exact .vec _ (v+1) 0 _ _ _ AK (aar _) (λ_=>⟨_,_,rfl,by simp,λh=>by omega⟩) rfl
      .have BK:0<H.length:=List.length_pos_iff.2 Aw;have:=grow O AA hm A7 A3 none 0 0 AE [] [] (dg.nil ..) rfl (λw' _=>by simp[Builtin.firstCells]) (by omega) (by simpa using I) (by simpa using AS) AM;simpa using this
     .trivial
    .trivial
   .exact aev P S o s x t u AC J AD A1 hi V Ab AN
  .trivial
 .trivial
def Ck(P:Program)(m:Mem)(AL:Nat)(t:TypeId)(l c:AV):ep:=
 match tk P t with
 | .slice e=>match gT P e,Bf P e,oW P e,l,c,Mem.get m AL with
  |some sz,some by_,some A7,.d (.int .i64 n),.d (.int .i64 AX),some ⟨_,v,_⟩=>
   .dU (n=AX/\0<=n/\n*by_<=140737488355328/\n<=4611686018427387904/\A7.size=sz) (.vec AL (v+1) 0 n.toNat) ⟨AL,v+1,.vec sz (List.replicate n.toNat A7)⟩
  |_,_,_,_,_,_=>.no
 |_=>.no
def wrap_small{n:Int}(Y:0<=n)(h:n<=4611686018427387904):IntKind.i64.wrap n=n:=IntWalk.i64_in _ (by omega)
def UK(z:Array Value)(n sz:Nat)(U:z.size=sz)(d:D)(AD:d.size=sz)(M:∀v∈z,dk v=true)(w:World)(F:Nat->Prop)(Ak:∃v,aR w F d v/\v.cells=z):
 dg w F sz (List.replicate n d) ((Array.range (n*sz)).map (z[·%z.size]!)).toList:=by
 obtain⟨v,A0,Al⟩:=Ak;refine⟨by simp,?_,?_,?_⟩
 .intro x O;simp only[Array.toList_map,adk]at O;obtain⟨i,hi,rfl⟩:=O;have hi:i<n*sz:=by simpa using hi
  have An:0<z.size:=by
   rw[U];rcases amK sz with Y|Y
   .simp[Y]at hi
   .exact Y
  rw[getElem!_pos z _ (Nat.mod_lt _ An)];exact M _ (by simp)
 .intro x O;rw[List.eq_of_mem_replicate O,AD]
 .intro i x O;have hi:i<n:=by have:=(aap.1 O).1;simpa using this
  have Ao:x=d:=by rw[amQ]at O;split at O<;>simp_all
  subst Ao;refine⟨v,A0,λj c AM=>?_⟩;have Ap:=Bg A0 AD AM;have Aq:i*sz+j<n*sz:=by
   have:i*sz+sz<=n*sz:=by rw[<-ahP];exact adt _ hi
   omega
  rw[Al]at AM;have hm:(i*sz+j)%sz=j:=by rw[Nat.mul_comm,Nat.mul_add_mod];exact Nat.mod_eq_of_lt Ap
  simp only[Array.toList_map,adn,Array.toList_range,List.getElem?_range Aq,ahK,U,hm];rw[getElem!_pos z j (by omega)];rw[<-AM];simp[show j<z.size by omega]
def run_makeSlice{P:Program}{w:World}{t e:TypeId}{i:TypeInfo}{z:Value}{n:Int}(V:P.underlying t=some (.slice e))(hi:P.info? e=some i)(U:i.zero=some z)
 (Y:0<=n) (A':n*i.bytes<=140737488355328) (AE:n<=4611686018427387904):
 (Instr.makeSlice t (.int .i64 n) (.int .i64 n)).run P w=.ok (.slice (some ⟨w.heap.size,0,none⟩) n.toNat n.toNat) (w.alloc (.cells ((Array.range (n.toNat*i.size)).map (z.cells[·%z.cells.size]!)) e)):=by
 have hw:=wrap_small Y AE;have M:¬n<0:=by omega
 have AF:¬((i.bytes:Int)*n>281474976710656):=by rw[Int.mul_comm];omega
 have AY:¬(n.toNat*i.bytes>roomBytes):=by
  unfold roomBytes;have:((n.toNat*i.bytes:Nat):Int)=n*i.bytes:=by rw[Int.natCast_mul,Int.toNat_of_nonneg Y]
  omega
 by_cases AG:n.toNat*i.size=0
 .have Ar:n.toNat=0\/i.size=0:=Nat.mul_eq_zero.1 AG;simp[Instr.makeSlice,run_underlying V,asInt,asIntOf,typeInfo,sizeOf,hi,hw,M,AF,askRoom,AG,kE,show Array.range 0=#[]from rfl]
 .have Ar:¬(n.toNat=0\/i.size=0):=λh=>AG (Nat.mul_eq_zero.2 h);simp[Instr.makeSlice,run_underlying V,asInt,asIntOf,typeInfo,sizeOf,zeroValue,hi,U,hw,M,AF,askRoom,kE];exact λh=>absurd h AG
def aew(P:Program)(S:St)(o:Oper)(t:TypeId)(l c:Operand)(A1:o.op=.makeSlice t l c)(As:(S.aw l).1=true)(AN:(S.aw c).1=true):aN P S o (Ck P S.mem (keyOf o) t (S.aw l).2 (S.aw c).2):=by
 unfold Ck;split
 .rename_i e AO;have V:=iO AO;split
  .rename_i sz by_ A7 n AX key v cont M AF AY At Au AP;refine aN.wO ?_;rintro ⟨rfl,Y,A',AE,AZ⟩ φ G a w T;obtain⟨i,z,hi,rfl,rfl,U,Av,Aw,Ax⟩:=Sv M AF AY;obtain⟨hm,A8,L,A2,A3,A4⟩:=T.mem.get AP;simp only at A8 A3;subst A8;have A5:=T.aw l As;have AQ:=T.aw c AN;rw[At]at A5;rw[Au]at AQ;have Ay:a.eval l=.int .i64 n:=by
    generalize a.eval l=x at A5;cases A5 with|d _ _ h=>cases h;rfl
   have AR:a.eval c=.int .i64 n:=by
    generalize a.eval c=x at AQ;cases AQ with|d _ _ h=>cases h;rfl
   have B':=run_makeSlice (P:=P) (w:=w) V hi U Y A' AE;obtain⟨φ',A9,AA,AS,AB⟩:=T.mem.fresh (e:=⟨keyOf o,v,cont⟩) hm A2 A3 w rfl rfl rfl rfl
    ((Array.range (n.toNat*i.size)).map (z.cells[·%z.cells.size]!)) e i.size n.toNat (.vec i.size (List.replicate n.toNat A7)) (λ_ A'=>A'.2) (λφ' hle B0 A_ B1=>by
     refine Az (cs:=((Array.range (n.toNat*i.size)).map (z.cells[·%z.cells.size]!)).toList) (rest:=[]) (elem:=e) rfl rfl (UK z.cells n.toNat i.size (by rw[Av,AZ]) A7 AZ Aw _ _ (Ax _ _)) (by simp) (by simp) (by simp) (λ_=>?_);refine gL.new ?_;rw[B1,agV,apW])
   refine⟨.slice (some ⟨w.heap.size,0,none⟩) n.toNat n.toNat,_,φ',.inl ?_,?_,A9,AA,AB⟩
   .simp[execOp,A1,Ay,AR,B']
   .exact .vec _ (v+1) 0 _ _ _ AS (aar _) (λ_=>⟨_,_,rfl,aar _,λ_=>⟨by simp,by simp⟩⟩) rfl
  .trivial
 .trivial
def Cm(P:Program)(m:Mem)(t:TypeId)(s x:AV):ep:=
 match tk P t with
 | .slice e=>match gT P e with
  |some sz=>match jZ m sz x with
   |some (c,H)=>match s with
    | .vec k au off len=>match Mem.get m k with
     |some ⟨_,v,.vec I aq⟩=>.dU (c/\v=au/\off+len<=aq.length/\I=sz/\(∀d∈H,d.size=sz))
      (.d (.int .i64 (min H.length len:Nat))) ⟨k,au,.vec sz (bL aq off (H.take len))⟩
     |_=>.no
    |_=>.no
   |none=>.no
  |none=>.no
 |_=>.no
def Gy{w F sz}{aq H:List D}{cs J:List Value}{off:Nat}(h:dg w F sz aq cs)(AT:dg w F sz H J)(hle:off+H.length<=aq.length):
 dg w F sz (bL aq off H) (bL cs (off*sz) J):=by
 have AH:off*sz+J.length<=cs.length:=by rw[h.1,AT.1,<-agW];exact adt _ hle
 rw[ea _ _ _ hle,ea _ _ _ AH];have:=((h.take off (by omega)).append AT).append (h.drop (off+H.length));rw[agW,<-AT.1]at this;exact this
def Nl{α:Type}{cs J:List α}{o n:Nat}(h:o+J.length<=n)(AE:n<=cs.length):bL (cs.take n) o J++cs.drop n=bL cs o J:=by
 rw[ea _ _ _ (by simp;omega),ea _ _ _ (by omega),List.take_take,aiY (by omega),adM (List.take _ _++_)];congr 1;rw[List.drop_take];have AR:cs.drop n=(cs.drop (o+J.length)).drop (n-(o+J.length)):=by rw[List.drop_drop];congr 1;omega
 rw[AR,air]
def Oe{P:Program}{w w':World}{t u ty e:TypeId}{sz:Nat}(V:P.underlying t=some (.slice e))(M:gT P e=some sz){ao:Option Addr}{len cap:Nat}{x:Value}{m:Nat}{J:List Value}
 (Aa:(Builtin.lenOf x).run P w=.ok m w) (A6:(Builtin.firstCells sz (min m len) x).run P w=.ok J.toArray w)
 (Z:(match ao with|some a=>storeCells a J|none=>pure ()).run P w=.ok () w'):
 (Builtin.copy_ #[t,u] ty #[.slice ao len cap,x]).run P w=.ok (.int .i64 (min m len:Nat)) w':=by
 have hm:Nat.min m len=min m len:=rfl;cases ao with
 |none=>
  simp only[Sem.run_pure,Result.ok.injEq,alC]at Z;subst Z;simp[Builtin.copy_,run_underlying V,Aa,hm,run_sizeOf M,A6,goInt]
 |some a=>
  simp only at Z;simp[Builtin.copy_,run_underlying V,Aa,hm,run_sizeOf M,A6,Z,goInt]
def aex(P:Program)(S:St)(o:Oper)(s x:Operand)(t u:TypeId)(A1:o.op=.call {callee:=.builtin .copy,args:=#[s,x],argTypes:=#[t,u]})
 (AD:(S.aw s).1=true) (O:(S.aw x).1=true):aN P S o (Cm P S.mem t (S.aw s).2 (S.aw x).2):=by
 unfold Cm;split
 .rename_i e AO;have V:=iO AO;split
  .rename_i sz M;split
   .rename_i c H B2;split
    .rename_i k au off len B3;split
     .rename_i key v I aq AP;refine aN.wO ?_;rintro ⟨AN,rfl,hle,rfl,B4⟩ φ G a w T;obtain⟨hm,A8,L,A2,A3,A4⟩:=T.mem.get AP;simp only at A8;subst A8;have A0:=T.aw s AD;have B5:=T.aw x O;rw[B3]at A0;obtain⟨J,AI⟩:=N7 (P:=P) T.mem B5 B2 AN B4;generalize A5:a.eval s=BJ at A0;cases A0 with
      |vec _ _ _ _ _ L' Ab _ h _=>
       rw[A2]at Ab;cases Ab;obtain⟨ao,cap,rfl,BK,B6⟩:=h A3.symm;clear h;have Ac:L.sz=I:=A4.1;have Ad:min H.length len<=H.length:=Nat.min_le_left _ _;have A6:=AI.WO (min H.length len) Ad w (λ_ _=>rfl);have Ae:(H.take len).length=min H.length len:=by rw[ag6,Nat.min_comm]
       by_cases B7:len=0
       .subst B7;obtain⟨φ',A9,AA,AS,AB⟩:=T.mem.dU (e':=⟨key,v,.vec I (bL aq off (H.take 0))⟩) hm A2 rfl (L':=L) (aar _) (λ_=>rfl) A3
         (w':=w) (λ_ _ _=>rfl) (aar _) (λ_ A1=>.inl A1) rfl rfl rfl (λφ' Af AH=>by
          have e:bL aq off (H.take 0)=aq:=by rw[ea _ _ _ (by simp;omega)];simp
          rw[e];refine A4.mono AH (λ_ _ _=>rfl) (aar _) (λb A'=>?_) (λ_ _=>rfl);rintro (B8|⟨y,B9,BA,AJ,Ag⟩)
          .exact .inl B8
          .right;rcases (Mem.mem_set T.mem.nodup).1 B9 with ⟨rfl,_⟩|⟨BB,Ah⟩
           .subst Af;simp at AJ;subst AJ;exact⟨_,hm,L,A2,Ag⟩
           .subst Af;simp at Ah;simp[Ah]at AJ;exact⟨y,BB,BA,AJ,Ag⟩)
        refine⟨_,w,φ',.inl ?_,.d _ _ (.int _ _),A9,AA,AB⟩;have BC:J.take (min H.length 0*I)=[]:=by simp
        rw[BC]at A6;have:=Oe (P:=P) (ty:=o.type) (u:=u) (ao:=ao) (len:=0) (cap:=cap) V M (AI.len w) A6 (w':=w) (by cases ao<;>simp[storeCells]);simp[execOp,A1,resolve,invoke,builtin,A5,this]
       .obtain⟨rfl,BL⟩:=B6 (by omega);obtain⟨arr,elem,hh,BM,Ai,BD⟩:=ru A4 (by omega);have AU:dg w (Fo G φ S.mem) I (H.take len) (J.take (min H.length len*I)):=by
         have:=AI.aq.take (min H.length len) Ad;have e:H.take (min H.length len)=H.take len:=by
          rcases Nat.le_total H.length len with h|h
          .rw[aiY h,adK (aar _),adK h]
          .rw[Nat.min_eq_right h]
         rw[e]at this;exact this
        have Aj:off+(H.take len).length<=aq.length:=by rw[Ae];omega
        have BE:=Gy BD AU Aj;have AC:=AU.1;rw[Ae]at AC;have AW:(off+min H.length len)*I<=aq.length*I:=adt _ (by omega);have BN:aq.length*I<=L.cap*I:=adt _ A4.2.1;have AK:L.base+off*I+(J.take (min H.length len*I)).length<=arr.toList.length:=by
         rw[agW]at AW;rw[AC];simp only[adA];omega
        have ⟨BF,BG,BH⟩:=hh;have Z:=mQ (P:=P) L.eJ (L.base+off*I) elem BF (J.take (min H.length len*I)) 0 arr w BG BH (by simpa using AK) (λx O=>sj (AU.2.1 x O));simp only[ahq]at Z;rw[<-ea _ _ _ AK]at Z;have BI:arr.toList.take L.base++(bL ((arr.toList.drop L.base).take (aq.length*I)) (off*I) (J.take (min H.length len*I))++(arr.toList.drop L.base).drop (aq.length*I))=bL arr.toList (L.base+off*I) (J.take (min H.length len*I)):=by
         rw[Nl (by rw[AC,<-agW];exact AW) (by simp only[agU,adA];omega)];rw[ea _ _ _ (by rw[AC];rw[agW]at AW;simp only[agU,adA];omega),ea _ _ _ AK,List.drop_drop,List.take_add];simp only[adM,adv]
        obtain⟨φ',A9,AA,AS,AB⟩:=T.mem.store (e:=⟨key,v,.vec I aq⟩) hm A2 A3 (b0:=L.eJ) ⟨by omega,rfl⟩ (bL arr.toList (L.base+off*I) (J.take (min H.length len*I))).toArray v (aar _) (.vec I (bL aq off (H.take len))) (λ_ A'=>A') (λφ' AH B0 A_=>by
         refine yo (pre:=arr.toList.take L.base) (cs:=bL ((arr.toList.drop L.base).take (aq.length*I)) (off*I) (J.take (min H.length len*I))) (rest:=(arr.toList.drop L.base).drop (aq.length*I)) (elem:=elem) Ac (BE.mono A_) ?_ ?_ ?_ ?_ ?_ (λ_=>?_)
         .simp only[ag6,adA];omega
         .intro z U;exact Ai z (by simpa using adw U)
         .intro z U;exact Ai z (by simpa using adx (adx U))
         .rw[cJ _ _ _ Aj];exact A4.2.1
         .show _=L.cap*I;rw[acY,cJ _ _ _ (by rw[AC,<-agW];simp only[ag6,agU,adA];omega),<-acY,air];simp only[agU,adA];omega
         .rw[BI];exact hh.setRow _ (by show (bL arr.toList _ _).length=_;rw[cJ _ _ _ AK];simp))
        refine⟨_,_,φ',.inl ?_,.d _ _ (.int _ _),A9,AA,AB⟩;have:=Oe (P:=P) (ty:=o.type) (u:=u) (ao:=some ⟨L.eJ,L.base+off*L.sz,none⟩) (len:=len) (cap:=cap) V M (AI.len w) A6 (by rw[Ac];exact Z);simp[execOp,A1,resolve,invoke,builtin,A5,this]
     .trivial
    .trivial
   .trivial
  .trivial
 .trivial
def AB{P:Program}{s:TypeId}{f n b o:Nat}{w:World}(h:Ce P s f=some n):(Instr.fieldAt s (.pointer (some ⟨b,o,none⟩)) f).run P w=.ok (.pointer (some ⟨b,o+n,none⟩)) w:=by
 unfold Ce at h;split at h
 .rename_i fs hu;split at h
  .rename_i fl AH;split at h
   .rename_i i hi;split at h
    .cases h
    .rename_i AI;simp at h;subst h;have Z:(sizeOf fl.type).run P w=.ok i.size w:=run_sizeOf (by simp[gT,hi]);simp[Instr.fieldAt,run_underlying hu,AH,Instr.sureAddr,fieldPlace,Z,AI,ij]
   .cases h
  .cases h
 .cases h
def sy(P:Program)(m:Mem)(s:TypeId)(f:Nat)(p:AV):ep:=
 match Ce P s f with
 |some n=>match p with
  | .ptr k au off=>match Mem.get m k with
   |some ⟨_,v,_⟩=>.val (v=au) (.ptr k au (off+n))
   |none=>.no
  | .dD k au i j=>match Mem.get m k with
   |some ⟨_,v,_⟩=>.val (v=au) (.dD k au i (j+n))
   |none=>.no
  | .fg x j=>.val True (.fg x (j+n))
  |_=>.no
 |none=>.no
def aaC(P:Program)(S:St)(o:Oper)(s:TypeId)(x:Operand)(f:Nat)(A':o.op=.fieldAddr s x f)(T:(S.aw x).1=true):aN P S o (sy P S.mem s f (S.aw x).2):=by
 unfold sy;split
 .rename_i n A7;split
  .rename_i k au off O;split
   .rename_i key v cont Y;refine aN.pure ?_;rintro rfl φ G a w I;have H:=I.aw x T;rw[O]at H;obtain⟨hm,A2,L,J,M,_⟩:=I.mem.get Y;simp only at M;have e:=H.vJ J M;refine⟨.pointer (some ⟨L.eJ,off+n,none⟩),by simp[execOp,A',e,AB A7],.ptr k v _ _ L J (by omega) (λ_=>rfl) rfl⟩
   .trivial
  .rename_i k au i j O;split
   .rename_i key v cont Y;refine aN.pure ?_;rintro rfl φ G a w I;have H:=I.aw x T;rw[O]at H;obtain⟨hm,A2,L,J,M,_⟩:=I.mem.get Y;simp only at M;have e:=H.nM J M;refine⟨.pointer (some ⟨L.eJ,L.base+i*L.sz+j+n,none⟩),by simp[execOp,A',e,AB A7],.dD k v _ _ _ L J (by omega) (λ_=>by rw[adv]) rfl⟩
   .trivial
  .rename_i d j O;refine aN.pure ?_;rintro _ φ G a w I;have H:=I.aw x T;rw[O]at H;generalize A1:a.eval x=av at H;cases H with
   |fg _ _ b off A9 A3 A4 AA A5=>
    refine⟨.pointer (some ⟨b,off+(j+n),none⟩),by simp[execOp,A',A1,AB A7,adv],.fg d (j+n) b off A9 A3 A4 AA A5⟩
  .trivial
 .trivial
def lN(m:Mem)(p:AV):ep:=
 match p with
 | .ptr k au off=>match Mem.get m k with
  |some ⟨_,v,_⟩=>.val (v=au) (.ptr k au off)
  |none=>.no
 | .dD k au i j=>match Mem.get m k with
  |some ⟨_,v,_⟩=>.val (v=au) (.dD k au i j)
  |none=>.no
 | .fg x j=>.val True (.fg x j)
 |_=>.no
def RH(P:Program)(S:St)(o:Oper)(x:Operand)(A':o.op=.nilCheck x)(T:(S.aw x).1=true):aN P S o (lN S.mem (S.aw x).2):=by
 unfold lN;split
 .rename_i k au off O;split
  .rename_i key v cont Y;refine aN.pure ?_;rintro rfl φ G a w I;have H:=I.aw x T;rw[O]at H;obtain⟨hm,A2,L,J,M,_⟩:=I.mem.get Y;simp only at M;have e:=H.vJ J M;exact⟨_,by simp only[execOp,A',e];rfl,.ptr k v _ _ L J (by omega) (λ_=>rfl) rfl⟩
  .trivial
 .rename_i k au i j O;split
  .rename_i key v cont Y;refine aN.pure ?_;rintro rfl φ G a w I;have H:=I.aw x T;rw[O]at H;obtain⟨hm,A2,L,J,M,_⟩:=I.mem.get Y;simp only at M;have e:=H.nM J M;exact⟨_,by simp only[execOp,A',e];rfl,.dD k v _ _ _ L J (by omega) (λ_=>rfl) rfl⟩
  .trivial
 .rename_i d j O;refine aN.pure ?_;rintro _ φ G a w I;have H:=I.aw x T;rw[O]at H;generalize A1:a.eval x=av at H;cases H with
  |fg _ _ b off A9 A3 A4 AA A5=>
   exact⟨.pointer (some ⟨b,off+j,none⟩),by simp only[execOp,A',A1];rfl,.fg d j b off A9 A3 A4 AA A5⟩
 .trivial
def mW{φ w F k n v}(h:aG φ w F (.d (.int k n)) v):v=.int k n:=by cases h with|d _ _ h=>cases h;rfl
def xW{φ w F b v}(h:aG φ w F (.d (.bool b)) v):v=.bool b:=by cases h with|d _ _ h=>cases h;rfl
def yq{φ w F s v}(h:aG φ w F (.d (.str s)) v):∃b:ByteArray,v=.string b/\b.data.toList=s:=by cases h with|d _ _ h=>cases h with|str b _ h=>exact⟨b,rfl,h⟩
def yr{P:Program}{t:TypeId}{n e}(h:tk P t=.arr n e):P.underlying t=some (.array n e):=by
 unfold tk at h;split at h<;>simp_all
def rB{P:Program}{t:TypeId}(h:tk P t=.str):P.underlying t=some .string:=by
 unfold tk at h;split at h<;>simp_all
def Ks{P:Program}{t:TypeId}(h:tk P t=.bool):P.underlying t=some .bool:=by
 unfold tk at h;split at h<;>simp_all
def Bk{P:Program}{t:TypeId}{k}(h:tk P t=.int k):P.underlying t=some (.int k):=by
 unfold tk at h;split at h<;>simp_all
def pV(P:Program)(m:Mem)(t:TypeId)(p i:AV):ep:=
 match i with
 | .d (.int _ n)=>match tk P t with
  | .slice e=>match gT P e with
   |some sz=>match p with
    | .d (.list xs)=>.val (0<=n/\n.toNat<xs.length/\(D.at xs n.toNat).size=sz) (.fg (D.at xs n.toNat) 0)
    | .vec k au off len=>match Mem.get m k with
     |some ⟨_,v,.vec A8 _⟩=>.val (v=au/\0<=n/\n.toNat<len/\A8=sz) (.dD k au (off+n.toNat) 0)
     |some ⟨_,v,.vv _ _⟩=>.val (v=au/\0<=n/\n.toNat<len/\sz=1) (.dD k au (off+n.toNat) 0)
     |_=>.no
    |_=>.no
   |none=>.no
  | .arr len e=>match gT P e with
   |some sz=>match p with
    | .ptr k au off=>match Mem.get m k with
     |some ⟨_,v,_⟩=>.val (v=au/\0<=n/\n.toNat<len) (.ptr k au (off+n.toNat*sz))
     |none=>.no
    | .dD k au i j=>match Mem.get m k with
     |some ⟨_,v,.vec A8 _⟩=>if A8=1/\sz=1/\j=0 then .val (v=au/\0<=n/\n.toNat<len) (.dD k au (i+n.toNat) 0)else .val (v=au/\0<=n/\n.toNat<len) (.dD k au i (j+n.toNat*sz))
     |some ⟨_,v,_⟩=>.val (v=au/\0<=n/\n.toNat<len) (.dD k au i (j+n.toNat*sz))
     |none=>.no
    | .fg x j=>.val (0<=n/\n.toNat<len) (.fg x (j+n.toNat*sz))
    |_=>.no
   |none=>.no
  |_=>.no
 |_=>.no
def uC{P:Program}{t e:TypeId}{sz b o len cap:Nat}{k:IntKind}{n:Int}{w:World}(A0:P.underlying t=some (.slice e))(Z:gT P e=some sz)(U:0<=n)(V:n.toNat<len):
 (Instr.indexAt t (.slice (some ⟨b,o,none⟩) len cap) (.int k n)).run P w=.ok (.pointer (some ⟨b,o+n.toNat*sz,none⟩)) w:=by
 have A7:n<(len:Int):=by omega
 simp[Instr.indexAt,asIntOf,run_underlying A0,run_sizeOf Z,U,A7,ij]
def pW{P:Program}{t e:TypeId}{sz b o len:Nat}{k:IntKind}{n:Int}{w:World}(A0:P.underlying t=some (.array len e))(Z:gT P e=some sz)(U:0<=n)(V:n.toNat<len):
 (Instr.indexAt t (.pointer (some ⟨b,o,none⟩)) (.int k n)).run P w=.ok (.pointer (some ⟨b,o+n.toNat*sz,none⟩)) w:=by
 have A7:n<(len:Int):=by omega
 simp[Instr.indexAt,Instr.sureAddr,asIntOf,run_underlying A0,run_sizeOf Z,U,A7,ij]
def aey{w F xs b off cap len}(h:aR w F (.list xs) (.slice (some ⟨b,off,none⟩) len cap)){i sz:Nat}(hi:i<xs.length)(Z:(D.at xs i).size=sz):
 len=xs.length/\b<w.heap.size/\¬F b/\∃v,aR w F (D.at xs i) v/\∀(j:Nat) c,v.cells[j]?=some c->w.cell? ⟨b,off+i*sz+j,none⟩=some c:=by
 generalize T:D.list xs=x at h;generalize H:Value.slice (some ⟨b,off,none⟩) len cap=v at h;cases h with
 |nil a c=>simp at T;subst T;simp at hi
 |list AS AT AU AW A8 vs AX A3 A4 AE AJ A5=>
  simp at T H;obtain⟨⟨rfl,rfl⟩,rfl,rfl⟩:=H;subst T;have:A8=sz:=by rw[<-Z,AE _ (ac6 (mL hi))]
  subst this;exact⟨rfl,A3,A4,vs i,AJ i _ (mL hi),λj c AK=>A5 i j c hi AK⟩
 |_=>simp at T
def WU{w F xs v}(h:aR w F (.list xs) v)(AL:xs≠[]):∃b off cap,v=.slice (some ⟨b,off,none⟩) xs.length cap:=by
 cases h with
 |nil a c=>exact absurd rfl AL
 |list b off cap sz vs=>exact⟨_,_,_,rfl⟩
def aaD(P:Program)(S:St)(o:Oper)(t:TypeId)(x i:Operand)(A':o.op=.indexAddr t x i)(T:(S.aw x).1=true)(hi:(S.aw i).1=true):aN P S o (pV P S.mem t (S.aw x).2 (S.aw i).2):=by
 unfold pV;split
 .rename_i AM n AN;have A6:∀{φ G a w},Rel φ G S a w->a.eval i=.int AM n:=λI=>by
   have:=I.aw i hi;rw[AN]at this;exact mW this
  split
  .rename_i e AF;have A0:=iO AF;split
   .rename_i sz Z;split
    .rename_i xs O;refine aN.pure ?_;rintro ⟨U,V,AE⟩ φ G a w I;have H:=I.aw x T;rw[O]at H;generalize A1:a.eval x=av at H;cases H with
     |d _ _ h=>
      obtain⟨b,off,cap,rfl⟩:=WU h (by intro hh;subst hh;simp at V);obtain⟨_,A3,A4,v,H,A5⟩:=aey h V AE;refine⟨_,by simp only[execOp,A',A1,A6 I,Sem.run_bind,uC A0 Z U V];rfl,?_⟩;exact .fg (D.at xs n.toNat) 0 b (off+n.toNat*sz) v A3 A4 H A5
    .rename_i k au off len O;split
     .rename_i key v A8 aq Y;refine aN.pure ?_;rintro ⟨rfl,U,V,rfl⟩ φ G a w I;have H:=I.aw x T;rw[O]at H;obtain⟨hm,A2,L,J,M,AC⟩:=I.mem.get Y;simp only at M;generalize A1:a.eval x=av at H;cases H with
      |vec _ _ _ _ _ L' AD _ h _=>
       rw[J]at AD;cases AD;obtain⟨ao,cap,rfl,AO,AG⟩:=h M.symm;clear h;obtain⟨rfl,AP⟩:=AG (by omega);refine⟨_,by simp only[execOp,A',A1,A6 I,Sem.run_bind,uC A0 Z U V];rfl,?_⟩;exact .dD k v _ 0 _ L J (by omega) (λ_=>by rw[AC.1,agW,ahq,adv]) rfl
     .rename_i key v aq y Y;refine aN.pure ?_;rintro ⟨rfl,U,V,rfl⟩ φ G a w I;have H:=I.aw x T;rw[O]at H;obtain⟨hm,A2,L,J,M,AC⟩:=I.mem.get Y;simp only at M;generalize A1:a.eval x=av at H;cases H with
      |vec _ _ _ _ _ L' AD _ h _=>
       rw[J]at AD;cases AD;obtain⟨ao,cap,rfl,AO,AG⟩:=h M.symm;clear h;obtain⟨rfl,AP⟩:=AG (by omega);refine⟨_,by simp only[execOp,A',A1,A6 I,Sem.run_bind,uC A0 Z U V];rfl,?_⟩;exact .dD k v _ 0 _ L J (by omega) (λ_=>by rw[AC.1.1,agW,ahq,adv]) rfl
     .trivial
    .trivial
   .trivial
  .rename_i len e AF;have A0:=yr AF;split
   .rename_i sz Z;split
    .rename_i k au off O;split
     .rename_i key v cont Y;refine aN.pure ?_;rintro ⟨rfl,U,V⟩ φ G a w I;have H:=I.aw x T;rw[O]at H;obtain⟨hm,A2,L,J,M,_⟩:=I.mem.get Y;simp only at M;have e:=H.vJ J M;refine⟨_,by simp only[execOp,A',e,A6 I,Sem.run_bind,pW A0 Z U V];rfl,.ptr k v _ _ L J (by omega) (λ_=>rfl) rfl⟩
     .trivial
    .rename_i k au AY j O;split
     .rename_i key v A8 aq Y;split
      .rename_i AQ;obtain⟨rfl,rfl,rfl⟩:=AQ;refine aN.pure ?_;rintro ⟨rfl,U,V⟩ φ G a w I;have H:=I.aw x T;rw[O]at H;obtain⟨hm,A2,L,J,M,AC⟩:=I.mem.get Y;simp only at M;have e:=H.nM J M;have AR:L.sz=1:=AC.1;refine⟨_,by simp only[execOp,A',e,A6 I,Sem.run_bind,pW A0 Z U V];rfl,.dD k v _ _ _ L J (by omega) (λ_=>by rw[AR];simp[adv]) rfl⟩
      .refine aN.pure ?_;rintro ⟨rfl,U,V⟩ φ G a w I;have H:=I.aw x T;rw[O]at H;obtain⟨hm,A2,L,J,M,_⟩:=I.mem.get Y;simp only at M;have e:=H.nM J M;refine⟨_,by simp only[execOp,A',e,A6 I,Sem.run_bind,pW A0 Z U V];rfl,.dD k v _ _ _ L J (by omega) (λ_=>by rw[adv]) rfl⟩
     .rename_i key v cont _ Y;refine aN.pure ?_;rintro ⟨rfl,U,V⟩ φ G a w I;have H:=I.aw x T;rw[O]at H;obtain⟨hm,A2,L,J,M,_⟩:=I.mem.get Y;simp only at M;have e:=H.nM J M;refine⟨_,by simp only[execOp,A',e,A6 I,Sem.run_bind,pW A0 Z U V];rfl,.dD k v _ _ _ L J (by omega) (λ_=>by rw[adv]) rfl⟩
     .trivial
    .rename_i d j O;refine aN.pure ?_;rintro ⟨U,V⟩ φ G a w I;have H:=I.aw x T;rw[O]at H;generalize A1:a.eval x=av at H;cases H with
     |fg _ _ b off A9 A3 A4 AA A5=>
      refine⟨.pointer (some ⟨b,off+(j+n.toNat*sz),none⟩),by simp[execOp,A',A1,A6 I,pW A0 Z U V,adv],.fg d _ b off A9 A3 A4 AA A5⟩
    .trivial
   .trivial
  .trivial
 .trivial
def gU(op:BinOp)(k:IntKind)(a b:Int):Option (Bool×D):=
 match op with
 | .add=>some (true,.int k (k.wrap (a+b)))
 | .sub=>some (true,.int k (k.wrap (a-b)))
 | .mul=>some (true,.int k (k.wrap (a*b)))
 | .quo=>some (b≠0,.int k (k.wrap (a.tdiv b)))
 | .rem=>some (b≠0,.int k (a.tmod b))
 | .and=>some (true,.int k (k.wrap (BitVec.ofInt k.bits a &&& BitVec.ofInt k.bits b).toNat))
 | .or=>some (true,.int k (k.wrap (BitVec.ofInt k.bits a ||| BitVec.ofInt k.bits b).toNat))
 | .xor=>some (true,.int k (k.wrap (BitVec.ofInt k.bits a ^^^ BitVec.ofInt k.bits b).toNat))
 | .andNot=>some (true,.int k (k.wrap (BitVec.ofInt k.bits a &&& ~~~BitVec.ofInt k.bits b).toNat))
 | .eql=>some (true,.bool (a == b))
 | .neq=>some (true,.bool (a != b))
 | .lss=>some (true,.bool (decide (a<b)))
 | .leq=>some (true,.bool (decide (a<=b)))
 | .gtr=>some (true,.bool (decide (b<a)))
 | .geq=>some (true,.bool (decide (b<=a)))
 |_=>none
def Hj(op:BinOp)(k:IntKind)(a b:Int):Option (Bool×D):=
 match op with
 | .shl=>some (0<=b,.int k (k.wrap (a*2^(min b.toNat k.bits))))
 | .shr=>some (0<=b,.int k (a.fdiv (2^(min b.toNat k.bits))))
 |_=>none
def pX(op:BinOp)(s t:List UInt8):Option (Bool×D):=
 match op with
 | .add=>some (s.length+t.length<=4611686018427387904,.str (s++t))
 | .eql=>some (true,.bool (s == t))
 | .neq=>some (true,.bool (!(s == t)))
 | .lss=>some (true,.bool (Op.bytesLess s t))
 | .leq=>some (true,.bool (Op.bytesLess s t||s == t))
 | .gtr=>some (true,.bool (!(Op.bytesLess s t||s == t)))
 | .geq=>some (true,.bool (!Op.bytesLess s t))
 |_=>none
def yt:TK->D->D->Option Bool
 | .int _,.int k a,.int A7 b=>if k=A7 then some (a == b)else none
 | .bool,.bool a,.bool b=>some (a == b)
 | .str,.str a,.str b=>some (a == b)
 |_,_,_=>none
def fI:List TK->List D->List D->Option Bool
 |[],[],[]=>some true
 |k::ks,x::xs,y::U=>match yt k x y,fI ks xs U with
  |some a,some b=>some (a&&b)
  |_,_=>none
 |_,_,_=>none
def D7(rec:TypeId->Option (List TK)):List Field->Nat->Option (List TK)
 |[],_=>some []
 |f::fs,o=>if f.name≠ "_" /\f.offset=o then (match rec f.type with
  |some ks=>match D7 rec fs (o+ks.length)with
   |some r=>some (ks++r)
   |none=>none
  |none=>none)else none
def Iy(P:Program):Nat->TypeId->Option (List TK)
 |0,_=>none
 |n+1,t=>match tk P t with
  | .int k=>some [.int k]
  | .bool=>some [.bool]
  | .str=>some [.str]
  | .struct=>match P.underlying t with
   |some (.struct fs)=>if P.stoodInHeld t=false then (match D7 (Iy P n) fs.toList 0 with
    |some ks=>if gT P t=some ks.length then some ks else none
    |none=>none)else none
   |_=>none
  |_=>none
def mX(P:Program)(t:TypeId):Option (List TK):=
 match P.underlying t with
 |some (.struct _)=>if P.eqGuardType P.depth t=false then Iy P 8 t else none
 |_=>none
def uD(P:Program)(op:BinOp)(t:TypeId)(x y:AV):ep:=
 match x,y with
 | .d (.int k a),.d (.int A7 b)=>match op with
  | .shl=>.val (0<=b) (.d (.int k (k.wrap (a*2^(min b.toNat k.bits)))))
  | .shr=>.val (0<=b) (.d (.int k (a.fdiv (2^(min b.toNat k.bits)))))
  |op=>match gU op k a b with
   |some (c,d)=>.val (k=A7/\c) (.d d)
   |none=>.no
 | .d (.str a),.d (.str b)=>match pX op a b with
  |some (c,d)=>.val c (.d d)
  |none=>.no
 | .d (.bool a),.d (.bool b)=>match op with
  | .eql=>.val (tk P t=.bool) (.d (.bool (a == b)))
  | .neq=>.val (tk P t=.bool) (.d (.bool (a != b)))
  |_=>.no
 | .d (.agg a),.d (.agg b)=>match mX P t with
  |some ks=>match fI ks a b with
   |some r=>match op with
    | .eql=>.val True (.d (.bool r))
    | .neq=>.val True (.d (.bool (!r)))
    |_=>.no
   |none=>.no
  |none=>.no
 |_,_=>.no
def Og(P:Program)(w:World)(op:BinOp)(t:TypeId)(x y:Operand)(a b:Value)(h:(∀c,a≠.agg c)/\a≠.nilIface):(eqGuard op t x y a b).run P w=.ok () w:=by
 unfold eqGuard;cases a<;>first|exact absurd rfl (h.1 _)|exact absurd rfl h.2|(cases op<;>simp)
def UL(P:Program)(w:World)(op:BinOp)(t:TypeId)(k:IntKind)(a b:Int)(c d)(h:gU op k a b=some (c,d))(M:c=true):∃v,(binOp op t (.int k a) (.int k b)).run P w=.ok v w/\∀F,aR w F d v:=by
 cases op<;>simp only[gU,adl,aeb,reduceCtorEq]at h<;>(try exact h.elim)<;>obtain⟨rfl,rfl⟩:=h<;>(try simp only[ac2]at M)<;>
  refine⟨_,by simp only[binOp,Op.intArith,Op.intDiv,Op.intBits,Op.intCmp,ne_eq,not_true_eq_false,adN,M,Sem.run_pure,gt_iff_lt,ge_iff_le];rfl,λF=>by first|exact .int _ _|exact .bool _⟩
def D8(P:Program)(w:World)(op:BinOp)(t:TypeId)(k A7:IntKind)(a b:Int)(c d)(h:Hj op k a b=some (c,d))(M:c=true):∃v,(binOp op t (.int k a) (.int A7 b)).run P w=.ok v w/\∀F,aR w F d v:=by
 cases op<;>simp only[Hj,adl,aeb,reduceCtorEq]at h<;>(try exact h.elim)<;>obtain⟨rfl,rfl⟩:=h<;>(try simp only[ac2]at M)<;>
  refine⟨_,by simp[binOp,Op.shift,show ¬b<0 by omega];rfl,λF=>by first|exact .int _ _|exact .bool _⟩
def UM(P:Program)(w:World)(op:BinOp)(t:TypeId)(a b:ByteArray)(c d)(h:pX op a.data.toList b.data.toList=some (c,d))(M:c=true):∃v,(binOp op t (.string a) (.string b)).run P w=.ok v w/\∀F,aR w F d v:=by
 have Ae:a.size=a.data.toList.length:=by rw[adA];rfl
 have Af:b.size=b.data.toList.length:=by rw[adA];rfl
 cases op<;>simp only[pX,adl,aeb,reduceCtorEq]at h<;>(try exact h.elim)<;>obtain⟨rfl,rfl⟩:=h
 case add=>
  simp only[ac2]at M;have B2:¬(9223372036854775807<((a.size:Int)+(b.size:Int))):=by omega
  refine⟨.string (a++b),?_,λF=>.str _ _ (by simp)⟩;have Ap:IntKind.i64.max=9223372036854775807:=by decide
  have:¬(((a.size+b.size:Nat):Int)>IntKind.i64.max):=by rw[Ap];push_cast;omega
  simp only[binOp,Op.stringOp,this,adN,Sem.run_pure]
 all_goals
  refine⟨_,by simp only[binOp,Op.stringOp,ByteArray.toList_eq,Sem.run_pure],λF=>.bool _⟩
def UN{P:Program}{w:World}{F:Nat->Prop}{x y:D}{a b:Value}{r:Bool}{t:TypeId}(d:Nat)(h:yt (tk P t) x y=some r)(A0:aR w F x a)(A1:aR w F y b):
 (Op.equalIn (d+1) t a b).run P w=.ok r w:=by
 unfold yt at h;split at h
 .rename_i A7 k n Ag m AA;split at h
  .rename_i he;subst he;simp at h;subst h;cases A0;cases A1;exact run_equalIn_int w d t k _ n m (Bk AA)
  .cases h
 .rename_i n m AA;simp at h;subst h;cases A0;cases A1;exact run_equalIn_bool' w d t n m (Ks AA)
 .rename_i n m AA;simp at h;subst h;cases A0 with|str n _ Aq=>cases A1 with|str m _ hm=>
  subst Aq;subst hm;rw[run_equalIn_string w d t n m (rB AA),ByteArray.toList_eq,ByteArray.toList_eq]
 .cases h
def yu{P:Program}{w:World}{t:TypeId}{cs:Array Value}{off:Nat}{v:Value}(h:(tk P t).agg=false)(A8:tk P t≠.other)(I:cs[off]?=some v):(part t cs off).run P w=.ok v w:=by
 simp[part,vI A8,h,I]
def vj:∀{ks:List TK}{xs U:List D}{r:Bool},fI ks xs U=some r->xs.length=ks.length/\U.length=ks.length
 |[],[],[],_,_=>⟨rfl,rfl⟩
 |k::ks,x::xs,y::U,r,h=>by
  simp only[fI]at h;split at h
  .rename_i O;obtain⟨a,b⟩:=vj O;simp[a,b]
  .cases h
 |[],[],_::_,_,h=>by simp[fI]at h
 |[],_::_,_,_,h=>by simp[fI]at h
 |_::_,[],_,_,h=>by simp[fI]at h
 |_::_,_::_,[],_,h=>by simp[fI]at h
def GG:∀{a b:List TK}{xs U:List D}{r:Bool},fI (a++b) xs U=some r->∃p q,fI a (xs.take a.length) (U.take a.length)=some p/\fI b (xs.drop a.length) (U.drop a.length)=some q/\r=(p&&q)
 |[],b,xs,U,r,h=>⟨true,r,by simp[fI],by simpa using h,by simp⟩
 |k::a,b,x::xs,y::U,r,h=>by
  simp only[ahy,fI]at h;split at h
  .rename_i u v T O;obtain⟨p,q,A4,A5,Ar⟩:=GG O;cases h;refine⟨u&&p,q,?_,by simpa using A5,by rw[Ar,Bool.and_assoc]⟩;simp only[ac5,List.take_succ_cons,fI,T,A4]
  .cases h
 |_::_,_,[],_,_,h=>by simp[fI]at h
 |_::_,_,_::_,[],_,h=>by simp[fI]at h
def Cn{P:Program}{w:World}{F:Nat->Prop}{rec:TypeId->Option (List TK)}{Ah:Nat}{Y Z:Array Value}
 (ih:∀(t:TypeId)(ks:List TK),rec t=some ks->∀(o:Nat)(xs U:List D)(r:Bool),fI ks xs U=some r->(∀(i:Nat) c v,xs[i]?=some c->Y[o+i]?=some v->aR w F c v)->(∀(i:Nat) c v,U[i]?=some c->Z[o+i]?=some v->aR w F c v)->
  o+xs.length<=Y.size->o+U.length<=Z.size->∃a b,(part t Y o).run P w=.ok a w/\(part t Z o).run P w=.ok b w/\(Op.equalIn Ah t a b).run P w=.ok r w):
 ∀(fs:List Field)(o:Nat)(ks:List TK),D7 rec fs o=some ks->∀(xs U:List D)(r:Bool),fI ks xs U=some r->(∀(i:Nat) c v,xs[i]?=some c->Y[o+i]?=some v->aR w F c v)->(∀(i:Nat) c v,U[i]?=some c->Z[o+i]?=some v->aR w F c v)->
  o+xs.length<=Y.size->o+U.length<=Z.size->(Op.eqFields Ah Y Z fs).run P w=.ok r w
 |[],o,ks,V,xs,U,r,h,_,_,_,_=>by
  simp only[D7,adl]at V;subst V;cases xs<;>cases U<;>simp[fI]at h;subst h;simp[Op.eqFields]
 |f::fs,o,ks,V,xs,U,r,h,A0,A1,AL,AM=>by
  simp only[D7]at V;split at V
  .rename_i AB;obtain⟨As,At⟩:=AB;split at V
   .rename_i AH T;split at V
    .rename_i Ag O;cases V;obtain⟨p,q,A4,A5,rfl⟩:=GG h;obtain⟨AI,AJ⟩:=vj h;simp only[acY]at AI AJ;obtain⟨a,b,g1,g2,g3⟩:=ih f.type AH T o _ _ p A4 (λi c v M I=>A0 i c v (by rw[adq]at M;split at M;exact M;cases M) I) (λi c v M I=>A1 i c v (by rw[adq]at M;split at M;exact M;cases M) I) (by simp;omega) (by simp;omega);have g4:=Cn ih fs (o+AH.length) Ag O _ _ q A5 (λi c v M I=>A0 (AH.length+i) c v (by rw[adR]at M;exact M) (by rw[<-adv];exact I)) (λi c v M I=>A1 (AH.length+i) c v (by rw[adR]at M;exact M) (by rw[<-adv];exact I)) (by simp;omega) (by simp;omega);rw[<-At]at g1 g2;simp only[Op.eqFields,As,ne_eq,not_false_eq_true,ad7,Sem.run_bind,g1,g2,g3,Result.andThen_ok,Sem.run_ite,Sem.run_pure,g4];cases p<;>simp
    .cases V
   .cases V
  .cases V
def Oi{P:Program}{w:World}{F:Nat->Prop}(d:Nat):∀(n:Nat)(Y Z:Array Value)(t:TypeId)(ks:List TK),Iy P n t=some ks->∀(o:Nat)(xs U:List D)(r:Bool),fI ks xs U=some r->
 (∀(i:Nat) c v,xs[i]?=some c->Y[o+i]?=some v->aR w F c v)->(∀(i:Nat) c v,U[i]?=some c->Z[o+i]?=some v->aR w F c v)->o+xs.length<=Y.size->o+U.length<=Z.size->
 ∃a b,(part t Y o).run P w=.ok a w/\(part t Z o).run P w=.ok b w/\(Op.equalIn (d+n) t a b).run P w=.ok r w
 |0,_,_,_,_,V,_,_,_,_,_,_,_,_,_=>by cases V
 |n+1,Y,Z,t,ks,V,o,xs,U,r,h,A0,A1,AL,AM=>by
  have one:∀k:TK,tk P t=k->k.agg=false->k≠.other->ks=[k]->∃a b,(part t Y o).run P w=.ok a w/\(part t Z o).run P w=.ok b w/\(Op.equalIn (d+(n+1)) t a b).run P w=.ok r w:=by
   rintro k A2 Ai Aj rfl;obtain⟨AI,AJ⟩:=vj h;match xs,U,AI,AJ with
   |[x],[y],_,_=>
    simp only[fI]at h;split at h
    .rename_i u v T O;cases h;have I:v=true:=by simpa using O.symm
     subst I;simp only[amr];simp only[ac5,ac7]at AL AM;have A4:=yu (P:=P) (w:=w) (t:=t) (by rw[A2];exact Ai) (by rw[A2];exact Aj) (show Y[o]?=some Y[o] by simp[show o<Y.size by omega]);have A5:=yu (P:=P) (w:=w) (t:=t) (by rw[A2];exact Ai) (by rw[A2];exact Aj) (show Z[o]?=some Z[o] by simp[show o<Z.size by omega]);exact⟨_,_,A4,A5,UN (d+n) (by rw[A2];exact T) (A0 0 x _ rfl (by simp[show o<Y.size by omega])) (A1 0 y _ rfl (by simp[show o<Z.size by omega]))⟩
    .cases h
  unfold Iy at V;split at V
  .rename_i k A2;exact one _ A2 rfl (by simp) (by cases V;rfl)
  .rename_i A2;exact one _ A2 rfl (by simp) (by cases V;rfl)
  .rename_i A2;exact one _ A2 rfl (by simp) (by cases V;rfl)
  .rename_i A2;split at V
   .rename_i fs hu;split at V
    .rename_i AN;split at V
     .rename_i AE AO;split at V
      .rename_i Au;cases V;obtain⟨AI,AJ⟩:=vj h;have Ak:∀cs:Array Value,(part t cs o).run P w=.ok (.agg (cs.extract o (o+ks.length))) w:=by
        intro cs;have Ae:=vI (P:=P) (t:=t) (w:=w) (by rw[A2];simp);simp[part,Ae,A2,TK.agg,run_sizeOf Au]
       refine⟨_,_,Ak Y,Ak Z,?_⟩;have AB:P.fieldsOf t=fs:=by simp[Program.fieldsOf,hu]
       show (Op.equalIn (d+n+1) t _ _).run P w=_;rw[run_equalIn_struct w (d+n) t _ _ (by rw[AB];exact hu) AN,AB];have hex:∀(cs:Array Value)(i:Nat)(v:Value),i<ks.length->(cs.extract o (o+ks.length))[0+i]?=some v->cs[o+i]?=some v:=by
        intro cs i v hi I;rw[agT,Array.getElem?_extract]at I;split at I
        .exact I
        .cases I
       refine Cn (F:=F) (λA9 AE AP AQ AR AS AT AU AW AX AY AZ=>Oi d n _ _ A9 AE AP AQ AR AS AT AU AW AX AY AZ) fs.toList 0 ks AO xs U r h (λi c v M I=>?_) (λi c v M I=>?_) ?_ ?_
       .have hi:=(aap.1 M).1;exact A0 i c v M (hex Y i v (by omega) I)
       .have hi:=(aap.1 M).1;exact A1 i c v M (hex Z i v (by omega) I)
       .simp;omega
       .simp;omega
      .cases V
     .cases V
    .cases V
   .cases V
  .cases V
def Sx(P:Program)(S:St)(o:Oper)(op:BinOp)(t A9:TypeId)(x y:Operand)(A8:o.op=.binOp op t x y A9)(A0:(S.aw x).1=true)(A1:(S.aw y).1=true):aN P S o (uD P op t (S.aw x).2 (S.aw y).2):=by
 have AD:∀(a:Act)(w:World)(v:Value),(∀c,a.eval x≠.agg c)->a.eval x≠.nilIface->(binOp op t (a.eval x) (a.eval y)).run P w=.ok v w->(execOp a.eval o).run P w=.ok (.value v) w:=by
  intro a w v T O h;simp[execOp,A8,Og P w op t x y _ (a.eval y) ⟨T,O⟩,h]
 unfold uD;split
 .rename_i k n A7 m A' AC;have J:∀{φ G a w},Rel φ G S a w->a.eval x=.int k n/\a.eval y=.int A7 m:=λH=>by
   have T:=H.aw x A0;have O:=H.aw y A1;rw[A']at T;rw[AC]at O;exact⟨mW T,mW O⟩
  split
  .refine aN.pure λM φ G a w H=>?_;obtain⟨v,T,O⟩:=D8 P w .shl t k A7 n m _ _ rfl (ahl M);exact⟨v,AD a w v (by simp[(J H).1]) (by simp[(J H).1]) (by rw[(J H).1,(J H).2];exact T),.d _ _ (O _)⟩
  .refine aN.pure λM φ G a w H=>?_;obtain⟨v,T,O⟩:=D8 P w .shr t k A7 n m _ _ rfl (ahl M);exact⟨v,AD a w v (by simp[(J H).1]) (by simp[(J H).1]) (by rw[(J H).1,(J H).2];exact T),.d _ _ (O _)⟩
  .split
   .rename_i c d h;refine aN.pure ?_;rintro ⟨rfl,M⟩ φ G a w H;obtain⟨v,T,O⟩:=UL P w op t k n m c d h M;exact⟨v,AD a w v (by simp[(J H).1]) (by simp[(J H).1]) (by rw[(J H).1,(J H).2];exact T),.d _ _ (O _)⟩
   .trivial
 .rename_i s u A' AC;split
  .rename_i c d h;refine aN.vh λM φ G a w H=>?_;have T:=H.aw x A0;have O:=H.aw y A1;rw[A']at T;rw[AC]at O;obtain⟨Av,A4,rfl⟩:=yq T;obtain⟨Aw,A5,rfl⟩:=yq O;obtain⟨v,A_,Aa⟩:=UM P w op t Av Aw c d h M;exact⟨v,AD a w v (by simp[A4]) (by simp[A4]) (by rw[A4,A5];exact A_),.d _ _ (Aa _)⟩
  .trivial
 .rename_i n m A' AC;have J:∀{φ G a w},Rel φ G S a w->a.eval x=.bool n/\a.eval y=.bool m:=λH=>by
   have T:=H.aw x A0;have O:=H.aw y A1;rw[A']at T;rw[AC]at O;exact⟨xW T,xW O⟩
  split
  .refine aN.pure λM φ G a w H=>⟨.bool (n == m),AD a w _ (by simp[(J H).1]) (by simp[(J H).1]) ?_,.d _ _ (.bool _)⟩;rw[(J H).1,(J H).2];simp[binOp,Op.equal,Op.maxDepth,run_equalIn_bool' w 9999 t n m (Ks M)]
  .refine aN.pure λM φ G a w H=>⟨.bool (n != m),AD a w _ (by simp[(J H).1]) (by simp[(J H).1]) ?_,.d _ _ (.bool _)⟩;rw[(J H).1,(J H).2];simp[binOp,Op.equal,Op.maxDepth,run_equalIn_bool' w 9999 t n m (Ks M),bne]
  .trivial
 .rename_i xs U A' AC;split
  .rename_i ks A3;split
   .rename_i r Ax;have key:∀{φ G a w},Rel φ G S a w->∃Y Z,a.eval x=.agg Y/\a.eval y=.agg Z/\(Op.equal t (.agg Y) (.agg Z)).run P w=.ok r w/\(eqGuard op t x y (.agg Y) (.agg Z)).run P w=.ok () w:=by
     intro φ G a w H;have T:=H.aw x A0;have O:=H.aw y A1;rw[A']at T;rw[AC]at O;generalize a.eval x=B3 at T;generalize a.eval y=B4 at O;cases T with|d _ _ T=>
     cases O with|d _ _ O=>
     cases T with|agg _ Y AL B5 Ay=>
     cases O with|agg _ Z AM B6 Az=>
     unfold mX at A3;split at A3
     .rename_i fs hu;split at A3
      .rename_i hZ;have AB:P.fieldsOf t=fs:=by simp[Program.fieldsOf,hu]
       have AA:tk P t=.struct:=by simp[tk,hu]
       unfold Iy at A3;simp only[AA,hu]at A3;split at A3
       .rename_i AN;split at A3
        .rename_i AE AO;split at A3
         .cases A3;refine⟨Y,Z,rfl,rfl,?_,?_⟩
          .unfold Op.equal Op.maxDepth;rw[run_equalIn_struct w 9999 t Y Z (by rw[AB];exact hu) AN,AB];exact Cn (F:=Fo G φ S.mem) (λA9 AE AP AQ AR AS AT AU AW AX AY AZ=>Oi 9992 7 _ _ A9 AE AP AQ AR AS AT AU AW AX AY AZ) fs.toList 0 ks AO xs U r Ax (λi c v M I=>Ay i c v M (by simpa using I)) (λi c v M I=>Az i c v M (by simpa using I)) (by omega) (by omega)
          .cases op<;>simp[eqGuard,hZ]
         .cases A3
        .cases A3
       .cases A3
      .cases A3
     .cases A3
    split
    .refine aN.pure λ_ φ G a w H=>?_;obtain⟨Y,Z,A4,A5,T,O⟩:=key H;exact⟨.bool r,by simp[execOp,A8,A4,A5,O,binOp,T],.d _ _ (.bool _)⟩
    .refine aN.pure λ_ φ G a w H=>?_;obtain⟨Y,Z,A4,A5,T,O⟩:=key H;exact⟨.bool (!r),by simp[execOp,A8,A4,A5,O,binOp,T],.d _ _ (.bool _)⟩
    .trivial
   .trivial
  .trivial
 .trivial
def mH(P:Program)(m:Mem)(neg:Bool)(t:TypeId)(x:AV):Value->ep
 | .slice none 0 0=>match tk P t with
  | .slice _=>match x with
   | .d (.list (_::_))=>.val true (.d (.bool neg))
   | .lit (.slice none 0 0)=>.val true (.d (.bool (!neg)))
   | .nn=>.val true (.d (.bool neg))
   | .vec k au _ len=>match Mem.get m k with
    |some ⟨_,v,.vec _ _⟩=>.val (v=au/\0<len) (.d (.bool neg))
    |_=>.no
   |_=>.no
  |_=>.no
 | .pointer none=>match tk P t with
  | .ptr _=>match x with
   | .lit (.pointer none)=>.val true (.d (.bool (!neg)))
   | .ptr k au _=>match Mem.get m k with
    |some ⟨_,v,_⟩=>.val (v=au) (.d (.bool neg))
    |_=>.no
   |_=>.no
  |_=>.no
 | .nilIface=>match tk P t with
  | .iface=>match x with
   | .jG _ _=>.val true (.d (.bool neg))
   | .err=>.val true (.d (.bool neg))
   | .lit .nilIface=>.val true (.d (.bool (!neg)))
   |_=>.no
  |_=>.no
 |_=>.no
def UO{φ w F d Ab v}(h:aG φ w F (.d (.list (d::Ab))) v):∃b off cap,v=.slice (some ⟨b,off,none⟩) (Ab.length+1) cap:=by
 cases h with|d _ _ h=>
 cases h with|list _ b off cap sz vs=>exact⟨b,off,cap,rfl⟩
def ag7{P:Program}{t e:TypeId}(h:tk P t=.ptr e):P.underlying t=some (.pointer e):=by
 unfold tk at h;split at h<;>simp_all
def aaE{P:Program}{t:TypeId}(h:tk P t=.iface):∃ms,P.underlying t=some (.interface ms):=by
 unfold tk at h;split at h<;>simp_all
def vk{P:Program}(w:World)(d:Nat){t e:TypeId}(a:Option Addr)(n c:Nat)(h:P.underlying t=some (.slice e)):
 (Op.equalIn (d+1) t (.slice a n c) (.slice none 0 0)).run P w=.ok a.isNone w:=by
 cases a<;>simp[Op.equalIn,run_underlying h]
def LA{P:Program}(w:World)(d:Nat){t e:TypeId}(a:Option Addr)(h:P.underlying t=some (.pointer e)):
 (Op.equalIn (d+1) t (.pointer a) (.pointer none)).run P w=.ok a.isNone w:=by
 cases a<;>simp[Op.equalIn,run_underlying h]
def GH{P:Program}(w:World)(d:Nat){t:TypeId}{ms}(B':TypeId)(v:Value)(h:P.underlying t=some (.interface ms)):
 (Op.equalIn (d+1) t (.iface B' v) .nilIface).run P w=.ok false w:=by
 simp[Op.equalIn,run_underlying h]
def Ok{P:Program}(w:World)(d:Nat){t:TypeId}{ms}(h:P.underlying t=some (.interface ms)):
 (Op.equalIn (d+1) t .nilIface .nilIface).run P w=.ok true w:=by
 simp[Op.equalIn,run_underlying h]
def aez{P:Program}{o:Oper}{neg:Bool}{t A9:TypeId}{x:Operand}{v:Value}(A8:o.op=.binOp (if neg then .neq else .eql) t x (.const v) A9){a:Act}{w:World}{b:Bool}
 (T:∀c,a.eval x≠.agg c) (Al:v=.slice none 0 0\/v=.pointer none\/v=.nilIface) (An:(∀k n,a.eval x≠.int k n)/\(∀k n,a.eval x≠.float k n)/\(∀k n m,a.eval x≠.complex k n m)/\(∀s,a.eval x≠.string s))
 (h:(Op.equalIn 10000 t (a.eval x) v).run P w=.ok b w):(execOp a.eval o).run P w=.ok (.value (.bool (if neg then !b else b))) w:=by
 have e:a.eval (.const v)=v:=rfl;have AF:(eqGuard (if neg then .neq else .eql) t x (.const v) (a.eval x) v).run P w=.ok () w:=by
  unfold eqGuard;generalize a.eval x=u at T⊢;rcases Al with rfl|rfl|rfl<;>cases u<;>cases neg<;>simp
 have Af:(binOp (if neg then .neq else .eql) t (a.eval x) v).run P w=.ok (.bool (if neg then !b else b)) w:=by
  generalize a.eval x=u at h An⊢;obtain⟨g1,g2,g3,g4⟩:=An;rcases Al with rfl|rfl|rfl<;>cases u<;>cases neg<;>simp_all [binOp,Op.equal,Op.maxDepth]
 simp only[execOp,A8,e,Sem.run_bind,AF,Result.andThen_ok,Af,Sem.run_pure]
def Sy(P:Program)(S:St)(o:Oper)(neg:Bool)(t A9:TypeId)(x:Operand)(v:Value)(A8:o.op=.binOp (if neg then .neq else .eql) t x (.const v) A9)(A0:(S.aw x).1=true):aN P S o (mH P S.mem neg t (S.aw x).2 v):=by
 have go:∀{φ G a w}{b:Bool},Rel φ G S a w->(∀c,a.eval x≠.agg c)->(v=.slice none 0 0\/v=.pointer none\/v=.nilIface)->((∀k n,a.eval x≠.int k n)/\(∀k n,a.eval x≠.float k n)/\(∀k n m,a.eval x≠.complex k n m)/\(∀s,a.eval x≠.string s))->
  (Op.equalIn 10000 t (a.eval x) v).run P w=.ok b w->∃AK,(execOp a.eval o).run P w=.ok (.value AK) w/\aG φ w (Fo G φ S.mem) (.d (.bool (if neg then !b else b))) AK:=by
  intro φ G a w b H T O A_ Aa;exact⟨_,aez A8 T O A_ Aa,.d _ _ (.bool _)⟩
 have B7:∀{b:Bool},(if neg=true then !b else b)=(if neg=true then !b else b):=rfl;unfold mH;split
 .split
  .rename_i e AG;have A6:=iO AG;split
   .rename_i d Ab A';refine aN.vh λ_ φ G a w H=>?_;have I:=H.aw x A0;rw[A']at I;obtain⟨b,off,cap,J⟩:=UO I;have:=go (b:=false) H (by simp[J]) (.inl rfl) (by simp[J]) (by rw[J];exact vk w 9999 _ _ _ A6);cases neg<;>simpa using this
   .rename_i A';refine aN.vh λ_ φ G a w H=>?_;have I:=H.aw x A0;rw[A']at I;generalize J:a.eval x=u at I;cases I;have:=go (b:=true) H (by simp[J]) (.inl rfl) (by simp[J]) (by rw[J];exact vk w 9999 _ _ _ A6);cases neg<;>simpa using this
   .rename_i A';refine aN.vh λ_ φ G a w H=>?_;have I:=H.aw x A0;rw[A']at I;generalize J:a.eval x=u at I;cases I;have:=go (b:=false) H (by simp[J]) (.inl rfl) (by simp[J]) (by rw[J];exact vk w 9999 _ _ _ A6);cases neg<;>simpa using this
   .rename_i k au off len A';split
    .rename_i key AK sz aq AF;refine aN.pure ?_;rintro ⟨rfl,B8⟩ φ G a w H;have I:=H.aw x A0;rw[A']at I;obtain⟨hm,V,L,Ac,Ad,B0⟩:=H.mem.get AF;generalize J:a.eval x=u at I;cases I with
     |vec _ _ _ _ _ L' Ao _ h _=>
      rw[Ac]at Ao;cases Ao;obtain⟨ao,cap,rfl,B9,B1⟩:=h Ad.symm;obtain⟨rfl,_⟩:=B1 (by omega);have:=go (b:=false) H (by simp[J]) (.inl rfl) (by simp[J]) (by rw[J];exact vk w 9999 _ _ _ A6);cases neg<;>simpa using this
    .trivial
   .trivial
  .trivial
 .split
  .rename_i e AG;have A6:=ag7 AG;split
   .rename_i A';refine aN.vh λ_ φ G a w H=>?_;have I:=H.aw x A0;rw[A']at I;generalize J:a.eval x=u at I;cases I;have:=go (b:=true) H (by simp[J]) (.inr (.inl rfl)) (by simp[J]) (by rw[J];exact LA w 9999 _ A6);cases neg<;>simpa using this
   .rename_i k au off A';split
    .rename_i key AK c AF;refine aN.pure ?_;rintro rfl φ G a w H;have I:=H.aw x A0;rw[A']at I;obtain⟨hm,V,L,Ac,Ad,B0⟩:=H.mem.get AF;have J:=I.vJ Ac Ad;have:=go (b:=false) H (by simp[J]) (.inr (.inl rfl)) (by simp[J]) (by rw[J];exact LA w 9999 _ A6);cases neg<;>simpa using this
    .trivial
   .trivial
  .trivial
 .split
  .rename_i AG;obtain⟨ms,A6⟩:=aaE AG;split
   .rename_i BA BB A';refine aN.vh λ_ φ G a w H=>?_;have I:=H.aw x A0;rw[A']at I;generalize J:a.eval x=u at I;cases I;have:=go (b:=false) H (by simp[J]) (.inr (.inr rfl)) (by simp[J]) (by rw[J];exact GH w 9999 _ _ A6);cases neg<;>simpa using this
   .rename_i A';refine aN.vh λ_ φ G a w H=>?_;have I:=H.aw x A0;rw[A']at I;generalize J:a.eval x=u at I;cases I;have:=go (b:=false) H (by simp[J]) (.inr (.inr rfl)) (by simp[J]) (by rw[J];exact GH w 9999 _ _ A6);cases neg<;>simpa using this
   .rename_i A';refine aN.vh λ_ φ G a w H=>?_;have I:=H.aw x A0;rw[A']at I;generalize J:a.eval x=u at I;cases I;have:=go (b:=true) H (by simp[J]) (.inr (.inr rfl)) (by simp[J]) (by rw[J];exact Ok w 9999 A6);cases neg<;>simpa using this
   .trivial
  .trivial
 .trivial
def FD(s:List UInt8)(i:Nat):UInt8:=s[i]?.getD 0
def uE(P:Program)(t:TypeId)(x i:AV):ep:=
 match i with
 | .d (.int _ n)=>match x with
  | .d (.str s)=>.val (tk P t=.str/\0<=n/\n.toNat<s.length) (.d (.int .u8 (FD s n.toNat).toNat))
  | .d (.agg cs)=>match tk P t with
   | .arr len e=>match (tk P e).agg,gT P e with
    |false,some 1=>.val (0<=n/\n.toNat<len/\len<=cs.length/\tk P e≠.other) (.d (D.at cs n.toNat))
    |true,some sz=>.val (0<=n/\n.toNat<len/\len*sz<=cs.length) (.d (.agg ((cs.drop (n.toNat*sz)).take sz)))
    |_,_=>.no
   |_=>.no
  |_=>.no
 |_=>.no
def WY(b:ByteArray)(i:Nat):b[i]?=b.data.toList[i]?:=by
 by_cases h:i<b.size
 .have AL:i<b.data.size:=h;rw[getElem?_pos b i h,ahH,getElem?_pos b.data i AL];rfl
 .have AL:¬i<b.data.size:=h;rw[getElem?_neg b i h,ahH,getElem?_neg b.data i AL]
def Ol{P:Program}{w:World}{t:TypeId}{b:ByteArray}{k:IntKind}{n:Int}(AD:tk P t=.str)(Y:0<=n)(M:n.toNat<b.data.toList.length):
 (Instr.index t (.string b) (.int k n)).run P w=.ok (.int .u8 (FD b.data.toList n.toNat).toNat) w:=by
 have e:b[n.toNat]?=some (FD b.data.toList n.toNat):=by rw[WY];simp only[FD];rw[ado M];rfl
 simp only[Instr.index,asIntOf,Sem.run_bind,Sem.run_pure,Result.andThen_ok,run_underlying (rB AD),Y,ad7,e]
def LD{P:Program}{w:World}{t:TypeId}{cs:Array Value}{off n:Nat}(h:(tk P t).agg=true)(A0:gT P t=some n):(part t cs off).run P w=.ok (.agg (cs.extract off (off+n))) w:=by
 have O:tk P t≠.other:=by intro AL;rw[AL]at h;cases h
 simp[part,vI O,h,run_sizeOf A0]
def DB{w F}{cs:List D}{a:Array Value}(h:aR w F (.agg cs) (.agg a))(o n:Nat)(hle:o+n<=cs.length):aR w F (.agg ((cs.drop o).take n)) (.agg (a.extract o (o+n))):=by
 have Z:=h.cells;cases h with|agg _ _ M Ae I=>
 have T:=aR.ss (w:=w) (F:=F) (cs:=(cs.drop o).take n) (vs:=(a.toList.drop o).take n) (by simp;omega)
  (λv AI=>Z.2.1 v (by simpa [Value.cells]using adx (adw AI)))
  (λi c v H T=>by
   rw[adq]at H T;split at H
   .rename_i hi;simp only[hi,ad7]at T;exact I (o+i) c v (by simpa using H) (by simpa using T)
   .cases H)
 have e:((a.toList.drop o).take n).toArray=a.extract o (o+n):=by
  apply Array.ext';simp
 rwa [e]at T
def WZ(P:Program)(S:St)(o:Oper)(t:TypeId)(x i:Operand)(O:o.op=.index t x i)(J:(S.aw x).1=true)(hi:(S.aw i).1=true):aN P S o (uE P t (S.aw x).2 (S.aw i).2):=by
 unfold uE;split
 .rename_i k n AZ;split
  .rename_i s U;refine aN.pure ?_;rintro ⟨AD,Y,M⟩ φ G a w I;have H:=I.aw x J;have T:=I.aw i hi;rw[U]at H;rw[AZ]at T;obtain⟨b,A4,rfl⟩:=yq H;exact⟨_,by simp only[execOp,O,A4,mW T,Sem.run_bind,Ol AD Y M];rfl,.d _ _ (.int _ _)⟩
  .rename_i cs U;split
   .rename_i len e V;split
    .rename_i A_ A0;refine aN.pure ?_;rintro ⟨Y,M,hle,Aa⟩ φ G a w I;have H:=I.aw x J;have T:=I.aw i hi;rw[U]at H;rw[AZ]at T;generalize A':a.eval x=av at H;cases H with|d _ _ H=>
     cases H with|agg _ A7 As At Af=>
     have AE:n<(len:Int):=by omega
     have Ag:n.toNat<A7.size:=by omega
     refine⟨A7[n.toNat],?_,.d _ _ (Af n.toNat _ _ (mL (by omega)) (by simp[Ag]))⟩;have AF:=yu (P:=P) (w:=w) (t:=e) (cs:=A7) (off:=n.toNat*1) A_ Aa (v:=A7[n.toNat]) (by simp[Ag]);simp only[ale]at AF;simp[execOp,O,A',mW T,Instr.index,asIntOf,run_underlying (yr V),Y,AE,run_sizeOf A0,AF]
    .rename_i sz A_ A0;refine aN.pure ?_;rintro ⟨Y,M,hle⟩ φ G a w I;have H:=I.aw x J;have T:=I.aw i hi;rw[U]at H;rw[AZ]at T;generalize A':a.eval x=av at H;cases H with|d _ _ H=>
     have Au:=H;cases H with|agg _ A7 As At Af=>
     have AE:n<(len:Int):=by omega
     have Av:n.toNat*sz+sz<=cs.length:=by
      have:(n.toNat+1)*sz<=len*sz:=adt _ M;rw[agW]at this;omega
     refine⟨_,?_,.d _ _ (DB Au (n.toNat*sz) sz Av)⟩;have AF:=LD (P:=P) (w:=w) (t:=e) (cs:=A7) (off:=n.toNat*sz) A_ A0;simp[execOp,O,A',mW T,Instr.index,asIntOf,run_underlying (yr V),Y,AE,run_sizeOf A0,AF]
    .trivial
   .trivial
  .trivial
 .trivial
def bound(m:Option AV)(AQ:Int):Option Int:=
 match m with
 |none=>some AQ
 |some (.d (.int _ n))=>some n
 |some _=>none
def nQ(P:Program)(m:Mem)(t:TypeId)(x:AV)(lo hi:Option AV):ep:=
 match x with
 | .d (.str s)=>match bound lo 0,bound hi s.length with
  |some l,some h=>.val (tk P t=.str/\0<=l/\l<=h/\h.toNat<=s.length) (.d (.str ((s.take h.toNat).drop l.toNat)))
  |_,_=>.no
 | .d (.list xs)=>match tk P t with
  | .slice e=>match gT P e,bound lo 0,bound hi xs.length with
   |some sz,some l,some h=>.val (0<=l/\l<=h/\h.toNat<=xs.length/\(∀d∈xs,d.size=sz)) (.d (.list ((xs.take h.toNat).drop l.toNat)))
   |_,_,_=>.no
  |_=>.no
 | .vec k au off len=>match tk P t,Mem.get m k with
  | .slice e,some ⟨_,v,.vec A5 _⟩=>match gT P e,bound lo 0,bound hi len with
   |some sz,some l,some h=>.val (v=au/\A5=sz/\0<=l/\l<=h/\h.toNat<=len) (.vec k au (off+l.toNat) (h.toNat-l.toNat))
   |_,_,_=>.no
  | .slice e,some ⟨_,v,.vv _ _⟩=>match gT P e,bound lo 0,bound hi len with
   |some sz,some l,some h=>.val (v=au/\sz=1/\0<=l/\l<=h/\h.toNat<=len) (.vec k au (off+l.toNat) (h.toNat-l.toNat))
   |_,_,_=>.no
  |_,_=>.no
 | .dD k au i j=>match tk P t,Mem.get m k with
  | .arr n e,some ⟨_,v,.vec A5 aq⟩=>match gT P e,bound lo 0,bound hi n with
   |some sz,some l,some h=>.val (v=au/\A5=sz/\i=0/\j=0/\n<=aq.length/\0<=l/\l<=h/\h.toNat<=n) (.vec k au l.toNat (h.toNat-l.toNat))
   |_,_,_=>.no
  |_,_=>.no
 | .ptr k au off=>match tk P t,Mem.get m k with
  | .arr n e,some ⟨_,v,.box cs⟩=>match gT P e,bound lo 0,bound hi n with
   |some sz,some l,some h=>.val (v=au/\sz=1/\off+n<=cs.length/\0<=l/\l<=h/\h.toNat<=n) (.vec k au (off+l.toNat) (h.toNat-l.toNat))
   |_,_,_=>.no
  |_,_=>.no
 |_=>.no
def kX{P:Program}{w:World}{isS:Bool}{len cap:Nat}{lo hi:Option Value}{l h:Int}
 (A9:(lo=none/\l=0)\/∃k,lo=some (.int k l)) (AA:(hi=none/\h=len)\/∃k,hi=some (.int k h)) (Y:0<=l) (hle:l<=h) (A3:h.toNat<=cap):
 (Instr.sliceBounds isS len cap lo hi none).run P w=.ok (l.toNat,h.toNat,cap) w:=by
 have H:h<=(cap:Int):=by omega
 have T:0<=h:=by omega
 have AM:l<=(h.toNat:Int):=by omega
 rcases A9 with ⟨rfl,rfl⟩|⟨k,rfl⟩<;>rcases AA with ⟨rfl,rfl⟩|⟨B8,rfl⟩<;>
  simp_all [Instr.sliceBounds,Instr.sliceBound,asIntOf]
def j7{S:St}{φ G a w}(I:Rel φ G S a w){x:Option Operand}{AQ n:Int}(J:∀y,x=some y->(S.aw y).1=true)(h:bound (x.map λy=>(S.aw y).2) AQ=some n):
 (x.map a.eval=none/\n=AQ)\/∃k,x.map a.eval=some (.int k n):=by
 cases x with
 |none=>simp[bound]at h;exact .inl ⟨rfl,h.symm⟩
 |some y=>
  right;simp only[ahK]at h⊢;unfold bound at h;split at h
  .rename_i heq;cases heq
  .rename_i k m heq;simp at h heq;subst h;have:=I.aw y (J y rfl);rw[heq]at this;exact⟨k,by rw[mW this]⟩
  .cases h
def UQ{w F xs v sz}(h:aR w F (.list xs) v)(A0:∀d∈xs,d.size=sz){l hh:Nat}(hle:l<=hh)(Aw:hh<=xs.length):
 ∃ao cap,v=.slice ao xs.length cap/\xs.length<=cap/\(ao=none->cap=0)/\∀AJ AN,(AN=none->AJ=0)->hh-l<=AJ->(AN=ao.map (·.add (l*sz))\/(hh-l=0))->aR w F (.list ((xs.take hh).drop l)) (.slice AN (hh-l) AJ):=by
 have M:((xs.take hh).drop l).length=hh-l:=by simp;omega
 generalize J:D.list xs=x at h;cases h with
 |nil a c Ab=>
  simp at J;subst J;refine⟨a,c,rfl,by simp,Ab,λAJ AN Ac _ _=>?_⟩;have H:hh-l=0:=by simp at Aw;omega
  rw[H];simp;exact .nil _ _ Ac
 |list AO b off cap A5 vs A3 Ax Ay AR AI Z=>
  simp at J;subst J;refine⟨_,cap,rfl,A3,by simp,λAJ AN Ac AS AT=>?_⟩;by_cases Ah:hh-l=0
  .have e:(xs.take hh).drop l=[]:=adf (by omega);rw[e,Ah];exact .nil _ _ Ac
  .have AT:=AT.resolve_right Ah;have Az:A5=sz:=by
    have Ai:0<xs.length:=by omega
    rw[<-AR xs[0] (ag9 Ai),A0 xs[0] (ag9 Ai)]
   subst Az;simp only[ahK,ij]at AT;rw[AT,<-M];refine .list _ b (off+l*A5) AJ A5 (λi=>vs (l+i)) (by rw[M];exact AS) Ax Ay (λd AB=>AR d (adw (adx AB))) (λi d AB=>?_) (λi j c hi B'=>?_)
   .rw[adR,adq]at AB;split at AB
    .exact AI _ d AB
    .cases AB
   .have:=Z (l+i) j c (by rw[M]at hi;omega) B';rw[agW,<-adv]at this;exact this
 |_=>simp at J
def aaF(P:Program)(S:St)(o:Oper)(t:TypeId)(x:Operand)(lo hi:Option Operand)(O:o.op=.slice t x lo hi none)(J:(S.aw x).1=true)(A9:∀y,lo=some y->(S.aw y).1=true)(AA:∀y,hi=some y->(S.aw y).1=true):
 aN P S o (nQ P S.mem t (S.aw x).2 (lo.map λy=>(S.aw y).2) (hi.map λy=>(S.aw y).2)):=by
 unfold nQ;split
 .rename_i s U;split
  .rename_i l h M hh;refine aN.pure ?_;rintro ⟨AD,Y,hle,A3⟩ φ G a w I;have H:=I.aw x J;rw[U]at H;obtain⟨b,A4,rfl⟩:=yq H;have AU:b.size=b.data.toList.length:=by rw[adA];rfl
   have A6:=kX (P:=P) (w:=w) (isS:=false) (len:=b.size) (cap:=b.size) (j7 I A9 M) (by have:=j7 I AA hh;rw[<-AU]at this;exact this) Y hle (by rw[AU];exact A3);refine⟨.string (b.extract l.toNat h.toNat),?_,.d _ _ (.str _ _ ?_)⟩
   .simp[execOp,O,A4,Instr.sliceAt,Instr.slice,run_underlying (rB AD),A6]
   .simp[ByteArray.data_extract,List.drop_take]
  .trivial
 .rename_i xs U;split
  .rename_i e V;split
   .rename_i sz l h A0 M hh;refine aN.pure ?_;rintro ⟨Y,hle,A3,AR⟩ φ G a w I;have H:=I.aw x J;rw[U]at H;generalize A':a.eval x=av at H;cases H with|d _ _ H=>
    obtain⟨ao,cap,rfl,B9,Ab,B0⟩:=UQ H AR (l:=l.toNat) (hh:=h.toNat) (by omega) A3;have Z:h.toNat<=cap:=by omega
    have A6:=kX (P:=P) (w:=w) (isS:=true) (len:=xs.length) (cap:=cap) (j7 I A9 M) (j7 I AA hh) Y hle Z;refine⟨.slice (if cap=l.toNat then ao else ao.map (·.add (l.toNat*sz))) (h.toNat-l.toNat) (cap-l.toNat),?_,.d _ _ (B0 _ _ (λAE=>?_) (by omega) ?_)⟩
    .simp[execOp,O,A',Instr.sliceAt,Instr.slice,run_underlying (iO V),A6,run_sizeOf A0]
    .have:ao=none:=by split at AE<;>simp_all
     have:=Ab this;omega
    .by_cases B1:cap=l.toNat
     .exact .inr (by omega)
     .exact .inl (by simp[B1])
   .trivial
  .trivial
 .rename_i k au off len U;split
  .rename_i e key v A5 aq V A8;split
   .rename_i sz l h A0 M hh;refine aN.pure ?_;rintro ⟨rfl,rfl,Y,hle,A3⟩ φ G a w I;have H:=I.aw x J;rw[U]at H;obtain⟨hm,AW,L,A2,A1,AG⟩:=I.mem.get A8;simp only at A1;generalize A':a.eval x=av at H;cases H with
    |vec _ _ _ _ _ L' AC _ AH _=>
     rw[A2]at AC;cases AC;obtain⟨ao,cap,rfl,Aj,AX⟩:=AH A1.symm;clear AH;have A6:=kX (P:=P) (w:=w) (isS:=true) (len:=len) (cap:=cap) (j7 I A9 M) (j7 I AA hh) Y hle (by omega);refine⟨.slice (if cap=l.toNat then ao else ao.map (·.add (l.toNat*A5))) (h.toNat-l.toNat) (cap-l.toNat),?_,?_⟩
     .simp[execOp,O,A',Instr.sliceAt,Instr.slice,run_underlying (iO V),A6,run_sizeOf A0]
     .refine .vec k v _ _ _ L A2 (by omega) (λ_=>⟨_,_,rfl,by omega,λZ=>?_⟩) rfl;obtain⟨rfl,B2⟩:=AX (by omega);refine⟨?_,by omega⟩;rw[aaf (by omega)];simp only[ahK,ij,AG.1,agW,adv]
   .trivial
  .rename_i e key v aq y V A8;split
   .rename_i sz l h A0 M hh;refine aN.pure ?_;rintro ⟨rfl,rfl,Y,hle,A3⟩ φ G a w I;have H:=I.aw x J;rw[U]at H;obtain⟨hm,AW,L,A2,A1,AG⟩:=I.mem.get A8;simp only at A1;generalize A':a.eval x=av at H;cases H with
    |vec _ _ _ _ _ L' AC _ AH _=>
     rw[A2]at AC;cases AC;obtain⟨ao,cap,rfl,Aj,AX⟩:=AH A1.symm;clear AH;have A6:=kX (P:=P) (w:=w) (isS:=true) (len:=len) (cap:=cap) (j7 I A9 M) (j7 I AA hh) Y hle (by omega);refine⟨.slice (if cap=l.toNat then ao else ao.map (·.add (l.toNat*1))) (h.toNat-l.toNat) (cap-l.toNat),?_,?_⟩
     .simp[execOp,O,A',Instr.sliceAt,Instr.slice,run_underlying (iO V),A6,run_sizeOf A0]
     .refine .vec k v _ _ _ L A2 (by omega) (λ_=>⟨_,_,rfl,by omega,λZ=>?_⟩) rfl;obtain⟨rfl,B2⟩:=AX (by omega);refine⟨?_,by omega⟩;rw[aaf (by omega)];simp only[ahK,ij,AG.1.1,agW,adv]
   .trivial
  .trivial
 .rename_i k au i j U;split
  .rename_i n e key v A5 aq V A8;split
   .rename_i sz l h A0 M hh;refine aN.pure ?_;rintro ⟨rfl,rfl,rfl,rfl,AE,Y,hle,A3⟩ φ G a w I;have H:=I.aw x J;rw[U]at H;obtain⟨hm,AW,L,A2,A1,AG⟩:=I.mem.get A8;simp only at A1;have A4:=H.nM A2 A1;have A6:=kX (P:=P) (w:=w) (isS:=false) (len:=n) (cap:=n) (j7 I A9 M) (j7 I AA hh) Y hle A3;refine⟨.slice (some (if n=l.toNat then ⟨L.eJ,L.base,none⟩else ⟨L.eJ,L.base+l.toNat*A5,none⟩)) (h.toNat-l.toNat) (n-l.toNat),?_,?_⟩
    .simp[execOp,O,A4,Instr.sliceAt,Instr.sureAddr,run_underlying (yr V),A6,run_sizeOf A0,ij]
    .refine .vec k v _ _ _ L A2 (by omega) (λ_=>⟨_,_,rfl,by omega,λZ=>⟨?_,by have:=AG.2.1;omega⟩⟩) rfl;rw[aaf (by omega),AG.1]
   .trivial
  .trivial
 .rename_i k au off U;split
  .rename_i n e key v cs V A8;split
   .rename_i sz l h A0 M hh;refine aN.pure ?_;rintro ⟨rfl,rfl,AE,Y,hle,A3⟩ φ G a w I;have H:=I.aw x J;rw[U]at H;obtain⟨hm,AW,L,A2,A1,⟨B3,z2,z3⟩,_⟩:=I.mem.get A8;simp only at A1;have A4:=H.vJ A2 A1;have A6:=kX (P:=P) (w:=w) (isS:=false) (len:=n) (cap:=n) (j7 I A9 M) (j7 I AA hh) Y hle A3;refine⟨.slice (some (if n=l.toNat then ⟨L.eJ,off,none⟩else ⟨L.eJ,off+l.toNat,none⟩)) (h.toNat-l.toNat) (n-l.toNat),?_,?_⟩
    .simp[execOp,O,A4,Instr.sliceAt,Instr.sureAddr,run_underlying (yr V),A6,run_sizeOf A0,ij]
    .refine .vec k v _ _ _ L A2 (by omega) (λ_=>⟨_,_,rfl,by omega,λZ=>⟨?_,by omega⟩⟩) rfl;rw[aaf (by omega),B3,z2];simp
   .trivial
  .trivial
 .trivial
def IA(t:Bool)(x y:D):D:=
 match x,y with
 | .bool a,.bool b=>.bool (bif t then a else b)
 |x,y=>bif t then x else y
def yw(t:Bool)(x y:AV):AV:=
 match x,y with
 | .d x,.d y=>.d (IA t x y)
 |x,y=>bif t then x else y
def Nx(c a b:Bool×AV):ep:=
 match c.2 with
 | .d (.bool t)=>.val (c.1=true/\(t=true->a.1=true)/\(t=false->b.1=true)) (yw t a.2 b.2)
 |_=>.no
def aeA(P:Program)(S:St)(o:Oper)(c x y:Operand)(O:o.op=.pick c x y):aN P S o (Nx (S.aw c) (S.aw x) (S.aw y)):=by
 unfold Nx;split
 .rename_i t Z;refine aN.pure ?_;rintro ⟨H,T,AM⟩ φ G a w I;have Ak:=I.aw c H;rw[Z]at Ak;have e:=xW Ak;cases t
  .have AY:=I.aw y (AM rfl);refine⟨a.eval y,by simp[execOp,O,e,asBool],?_⟩;have AP:yw false (S.aw x).2 (S.aw y).2=(S.aw y).2:=by
    unfold yw;split
    .rename_i u v Al An;rw[An];congr 1;unfold IA;split<;>rfl
    .rfl
   rw[AP];exact AY
  .have J:=I.aw x (T rfl);refine⟨a.eval x,by simp[execOp,O,e,asBool],?_⟩;have AP:yw true (S.aw x).2 (S.aw y).2=(S.aw x).2:=by
    unfold yw;split
    .rename_i u v Al An;rw[Al];congr 1;unfold IA;split<;>rfl
    .rfl
   rw[AP];exact J
 .trivial
def aeB(P:Program)(S:St)(o:Oper)(x:Operand)(O:o.op=.move x\/o.op=.assign x)(J:(S.aw x).1=true):aN P S o (.val True (S.aw x).2):=by
 refine aN.pure λ_ φ G a w I=>⟨a.eval x,?_,I.aw x J⟩;rcases O with O|O<;>simp[execOp,O]
def On(op:UnOp)(x:AV):ep:=
 match op,x with
 | .not,.d (.bool b)=>.val True (.d (.bool (!b)))
 | .neg,.d (.int k n)=>.val True (.d (.int k (k.wrap (0-n))))
 | .xor,.d (.int k n)=>.val True (.d (.int k (k.wrap (BitVec.ofInt k.bits (if k.signed then-1 else k.max) ^^^ BitVec.ofInt k.bits n).toNat)))
 |_,_=>.no
def am5(P:Program)(S:St)(o:Oper)(op:UnOp)(t:TypeId)(x:Operand)(O:o.op=.unOp op t x)(J:(S.aw x).1=true):aN P S o (On op (S.aw x).2):=by
 unfold On;split
 .rename_i b U;refine aN.pure λ_ φ G a w I=>?_;have H:=I.aw x J;rw[U]at H;exact⟨.bool (!b),by simp[execOp,O,xW H,Op.unary],.d _ _ (.bool _)⟩
 .rename_i k n U;refine aN.pure λ_ φ G a w I=>?_;have H:=I.aw x J;rw[U]at H;exact⟨.int k (k.wrap (0-n)),by simp only[execOp,O,mW H,Op.unary,Op.intArith,Sem.run_bind,Sem.run_pure,Result.andThen_ok],.d _ _ (.int _ _)⟩
 .rename_i k n U;refine aN.pure λ_ φ G a w I=>?_;have H:=I.aw x J;rw[U]at H;exact⟨_,by simp only[execOp,O,mW H,Op.unary,Op.intBits,Sem.run_bind,Sem.run_pure,Result.andThen_ok],.d _ _ (.int _ _)⟩
 .trivial
def yx(i:Nat)(x:AV):ep:=
 match x with
 | .bq vs=>match vs[i]? with
  |some v=>.val True v
  |none=>.no
 |_=>.no
def UR(P:Program)(S:St)(o:Oper)(x:Operand)(i:Nat)(O:o.op=.extract x i)(J:(S.aw x).1=true):aN P S o (yx i (S.aw x).2):=by
 unfold yx;split
 .rename_i vs U;split
  .rename_i v AI;refine aN.pure λ_ φ G a w I=>?_;have H:=I.aw x J;rw[U]at H;generalize A':a.eval x=av at H;cases H with|bq _ A7 M Z=>
   have hi:i<A7.size:=by rw[<-M];exact (aap.1 AI).1
   exact⟨A7[i],by simp[execOp,O,A',Instr.extract,hi],Z i v _ AI (by simp[hi])⟩
  .trivial
 .trivial
def sB(f:Fn)(first cap:List AV):ep:=
 match f,first with
 | .func f,[]=>.val (f<xe) (.fn f cap)
 | .func f,x::r=>match cap with
  |[]=>.val True (.fn (f+xe) (x::r))
  |_=>.no
 |_,_=>.no
def RJ(P:Program)(S:St)(o:Oper)(f:Fn)(first cap:Array Operand)(O:o.op=.makeFunc f first cap)(Ae:∀x∈first.toList,(S.aw x).1=true)(Z:∀x∈cap.toList,(S.aw x).1=true):aN P S o (sB f (first.toList.map λx=>(S.aw x).2) (cap.toList.map λx=>(S.aw x).2)):=by
 have key:∀(l:Array Operand),(∀x∈l.toList,(S.aw x).1=true)->∀φ G a w,Rel φ G S a w->∀(i:Nat)(c:AV)(v:Value),(l.toList.map λx=>(S.aw x).2)[i]?=some c->(l.map a.eval)[i]?=some v->aG φ w (Fo G φ S.mem) c v:=by
  intro l M φ G a w I i c v H T;simp only[adn,ahH,ac3]at H;simp only[Array.getElem?_map,ac3]at T;obtain⟨x,J,rfl⟩:=H;obtain⟨y,AY,rfl⟩:=T;rw[J]at AY;cases AY;exact I.aw x (M x (by simpa using Array.mem_of_getElem? J))
 generalize Ao:(first.toList.map λx=>(S.aw x).2)=fs;generalize Ap:(cap.toList.map λx=>(S.aw x).2)=cs;unfold sB;split
 .rename_i f;refine aN.pure λB4 φ G a w I=>?_;have B5:first=#[]:=by cases first;simp_all
  refine⟨.func (.func f) #[] (cap.map a.eval),by simp[execOp,O,Instr.makeFunc,B5],.fn f _ _ B4 (by simp[<-Ap]) (λi c v H T=>?_)⟩;rw[<-Ap]at H;exact key cap Z φ G a w I i c v H T
 .rename_i f x r;split
  .refine aN.pure λ_ φ G a w I=>?_;have B6:cap=#[]:=by cases cap;simp_all
   refine⟨.func (.func f) (first.map a.eval) #[],by simp[execOp,O,Instr.makeFunc,B6],.xf f _ _ (by rw[<-Ao];simp) (λi c v H T=>?_)⟩;rw[<-Ao]at H;exact key first Ae φ G a w I i c v H T
  .trivial
 .trivial
def xA(P:Program)(t:TypeId)(x:AV):ep:=
 match x.norm with
 | .d d=>.val (tk P t≠.iface/\tk P t≠.other) (.jG t d)
 |_=>.no
def Hk{P:Program}{t:TypeId}(h:tk P t≠.other):∃d,P.underlying t=some d:=by
 unfold tk at h;cases hu:P.underlying t with
 |none=>simp[hu]at h
 |some d=>exact⟨d,rfl⟩
def Oo(P:Program)(S:St)(o:Oper)(t:TypeId)(x:Operand)(O:o.op=.makeInterface t x)(J:(S.aw x).1=true):aN P S o (xA P t (S.aw x).2):=by
 unfold xA;split
 .rename_i d U;refine aN.pure ?_;rintro ⟨H,T⟩ φ G a w I;have AM:=(I.aw x J).norm;rw[U]at AM;obtain⟨Aq,hu⟩:=Hk T;refine⟨.iface t (a.eval x),?_,?_⟩
  .have Aa:∀ms,Aq≠.interface ms:=by rintro ms rfl;simp[tk,hu]at H
   simp only[execOp,O,Instr.makeInterface,Sem.run_bind,run_underlying hu,Result.andThen_ok];cases Aq<;>first|rfl|exact absurd rfl (Aa _)
  .cases AM with|d _ _ h=>exact .jG t d _ h
 .trivial
def r5(P:Program)(m:Mem)(t:TypeId)(x:AV):ep:=
 match x with
 | .d (.str s)=>.val (tk P t=.str) (.d (.int .i64 s.length))
 | .d (.list xs)=>match tk P t with
  | .slice _=>.val True (.d (.int .i64 xs.length))
  |_=>.no
 | .vec k au _ len=>match tk P t,Mem.get m k with
  | .slice _,some ⟨_,v,_⟩=>.val (v=au) (.d (.int .i64 len))
  |_,_=>.no
 | .lit (.slice none 0 0)=>match tk P t with
  | .slice _=>.val True (.d (.int .i64 0))
  |_=>.no
 | .nn=>match tk P t with
  | .slice _=>.val True (.d (.int .i64 0))
  |_=>.no
 |_=>match tk P t with
  | .arr n _=>.val True (.d (.int .i64 n))
  |_=>.no
def run_len_slice{P:Program}{w:World}{t ty e:TypeId}{ao len cap}(h:tk P t=.slice e):(Builtin.len_ #[t] ty #[.slice ao len cap]).run P w=.ok (.int .i64 len) w:=by
 simp[Builtin.len_,run_underlying (iO h),goInt]
def ag8(P:Program)(S:St)(o:Oper)(x:Operand)(t:TypeId)(O:o.op=.call {callee:=.builtin .len,args:=#[x],argTypes:=#[t]})(J:(S.aw x).1=true):aN P S o (r5 P S.mem t (S.aw x).2):=by
 have AK:∀(a:Act)(w:World)(v:Value),(Builtin.len_ #[t] o.type #[a.eval x]).run P w=.ok v w->(execOp a.eval o).run P w=.ok (.value v) w:=by
  intro a w v h;simp[execOp,O,resolve,invoke,builtin,h]
 unfold r5;split
 .rename_i s U;refine aN.pure λAD φ G a w I=>?_;have H:=I.aw x J;rw[U]at H;obtain⟨b,A4,rfl⟩:=yq H;have AU:b.size=b.data.toList.length:=by rw[adA];rfl
  refine⟨.int .i64 b.data.toList.length,AK a w _ ?_,.d _ _ (.int _ _)⟩;simp only[Builtin.len_,A4,ahA,List.getElem?_cons_zero,Sem.run_bind,run_underlying (rB AD),Result.andThen_ok,Sem.run_pure,goInt,<-AU]
 .rename_i xs U;split
  .rename_i e V;refine aN.pure λ_ φ G a w I=>?_;have H:=I.aw x J;rw[U]at H;generalize A':a.eval x=av at H;cases H with|d _ _ h=>
   have M:∃ao cap,av=.slice ao xs.length cap:=by cases h<;>exact⟨_,_,rfl⟩
   obtain⟨ao,cap,rfl⟩:=M;exact⟨_,AK a w _ (by rw[A'];exact run_len_slice V),.d _ _ (.int _ _)⟩
  .trivial
 .rename_i k au off len U;split
  .rename_i e key v cont V A8;refine aN.pure ?_;rintro rfl φ G a w I;have H:=I.aw x J;rw[U]at H;obtain⟨hm,AW,L,A2,A1,AG⟩:=I.mem.get A8;simp only at A1;generalize A':a.eval x=av at H;cases H with
   |vec _ _ _ _ _ L' AC _ AH _=>
    rw[A2]at AC;cases AC;obtain⟨ao,cap,rfl,Aj,AX⟩:=AH A1.symm;exact⟨_,AK a w _ (by rw[A'];exact run_len_slice V),.d _ _ (.int _ _)⟩
  .trivial
 .rename_i U;split
  .rename_i e V;refine aN.pure λ_ φ G a w I=>?_;have H:=I.aw x J;rw[U]at H;generalize A':a.eval x=av at H;cases H;exact⟨_,AK a w _ (by rw[A'];exact run_len_slice V),.d _ _ (.int _ _)⟩
  .trivial
 .rename_i U;split
  .rename_i e V;refine aN.pure λ_ φ G a w I=>?_;have H:=I.aw x J;rw[U]at H;generalize A':a.eval x=av at H;cases H;exact⟨_,AK a w _ (by rw[A'];exact run_len_slice V),.d _ _ (.int _ _)⟩
  .trivial
 .split
  .rename_i n e V;refine aN.pure λ_ φ G a w I=>?_;refine⟨.int .i64 n,AK a w _ ?_,.d _ _ (.int _ _)⟩;simp[Builtin.len_,run_underlying (yr V),goInt]
  .trivial
def qD(isMax:Bool):AV->List AV->Option D
 | .d (.int k a),[]=>some (.int k a)
 | .d (.int k a),y::r=>match y with
  | .d (.int _ b)=>qD isMax (.d (.int k (if isMax then (if b>a then b else a)else (if b<a then b else a)))) r
  |_=>none
 |_,_=>none
def Ku(isMax:Bool)(xs:List AV):ep:=
 match xs with
 |x::r=>match qD isMax x r with
  |some d=>.val True (.d d)
  |none=>.no
 |[]=>.no
def RL{P:Program}{φ w F}(isMax:Bool):∀(xs:List AV)(x:AV)(vs:List Value)(v:Value)(d:D),qD isMax x xs=some d->aG φ w F x v->xs.length=vs.length->
 (∀(i:Nat) c u,xs[i]?=some c->vs[i]?=some u->aG φ w F c u)->
 ∃u,(vs.foldlM (if isMax then Builtin.max2 else Builtin.min2) v).run P w=.ok u w/\aR w F d u:=by
 intro xs;induction xs with
 |nil=>
  intro x vs v d h J M Z;have:vs=[]:=adf (by simpa using M.symm);subst this;unfold qD at h;split at h<;>simp_all;subst h;rw[mW J];exact .int _ _
 |cons y AO ih=>
  intro x vs v d h J M Z;cases vs with
  |nil=>simp at M
  |cons u us=>
   unfold qD at h;split at h
   .simp_all
   .rename_i k a BA r heq;simp at heq;obtain⟨rfl,rfl⟩:=heq;split at h
    .rename_i B7 b;have A4:=mW J;have AP:=mW (Z 0 (.d (.int B7 b)) u (by simp) (by simp));subst A4;subst AP;have AS:∀(i:Nat) c u,AO[i]?=some c->us[i]?=some u->aG φ w F c u:=λi c u H T=>Z (i+1) c u (by simpa using H) (by simpa using T);cases isMax
     .obtain⟨Ad,H,T⟩:=ih _ us (.int k (if b<a then b else a)) d h (.d _ _ (.int _ _)) (by simpa using M) AS;refine⟨Ad,?_,T⟩;simp only[ahs,adN]at H⊢;simp only[List.foldlM_cons,Builtin.min2,pure_bind];exact H
     .obtain⟨Ad,H,T⟩:=ih _ us (.int k (if b>a then b else a)) d h (.d _ _ (.int _ _)) (by simpa using M) AS;refine⟨Ad,?_,T⟩;simp only[ad7]at H⊢;simp only[List.foldlM_cons,Builtin.max2,pure_bind];exact H
    .cases h
   .cases h
def W1(P:Program)(S:St)(o:Oper)(isMax:Bool)(args:Array Operand)(ts:Array TypeId)(O:o.op=.call {callee:=.builtin (if isMax then .max else .min),args,argTypes:=ts})(J:∀x∈args.toList,(S.aw x).1=true):aN P S o (Ku isMax (args.toList.map λx=>(S.aw x).2)):=by
 unfold Ku;split
 .rename_i x r heq;split
  .rename_i d AB;refine aN.pure λ_ φ G a w I=>?_;obtain⟨l,M⟩:∃l,args.toList=l:=⟨_,rfl⟩;rw[M]at heq J;cases l with
   |nil=>simp at heq
   |cons y AO=>
    simp at heq;obtain⟨rfl,rfl⟩:=heq;obtain⟨u,H,T⟩:=RL (P:=P) (φ:=φ) (w:=w) (F:=Fo G φ S.mem) isMax _ _ (AO.map a.eval) (a.eval y) d AB (I.aw y (J y (by simp))) (by simp) (λi c u H T=>by
     simp only[adn,ac3]at H T;obtain⟨p,AF,rfl⟩:=H;obtain⟨q,Ar,rfl⟩:=T;rw[AF]at Ar;cases Ar;exact I.aw p (J p (by simp[ac6 AF])))
    refine⟨u,?_,.d _ _ T⟩;have BB:(args.map a.eval).toList=a.eval y::AO.map a.eval:=by simp[M]
    cases isMax
    .simp only[ahs,adN]at H O;simp[execOp,O,resolve,invoke,builtin,Builtin.min_,M,H]
    .simp only[ad7]at H O;simp[execOp,O,resolve,invoke,builtin,Builtin.max_,M,H]
  .trivial
 .trivial
def LF(off:Nat):∀(l:List Value)(k:Nat)(cs:Array Value),off+k+l.length<=cs.size->
 ((l.zipIdx k).foldl (λcs x=>cs.setIfInBounds (off+x.2) x.1) cs).toList=cs.toList.take (off+k)++l++cs.toList.drop (off+k+l.length)
 |[],k,cs,_=>by simp
 |v::l,k,cs,h=>by
  simp only[List.zipIdx_cons,List.foldl_cons,ac5]at h⊢;rw[LF off l (k+1) _ (by simp;omega),Array.toList_setIfInBounds];have:=list_seg_step cs.toList (off+k) v l (by simp;omega);rw[show off+(k+1)=off+k+1 by omega,show off+k+(l.length+1)=off+k+1+l.length by omega];simpa [ac5,adv,Nat.add_comm 1]using this
def Oq(cs v:Array Value)(off:Nat)(h:off+v.size<=cs.size):
 (v.zipIdx.foldl (λcs (x:Value×Nat)=>cs.setIfInBounds (off+x.2) x.1) cs).toList=bL cs.toList off v.toList:=by
 rw[<-Array.foldl_toList,Array.toList_zipIdx,LF off v.toList 0 cs (by simpa using h),ea _ _ _ (by simpa using h)];simp
def vm(place:Nat->Option (Nat×Nat)):List (Nat×AV)->Bool->List AV->Option (Bool×List AV)
 |[],c,cs=>some (c,cs)
 |(i,x)::r,c,cs=>match place i with
  |some (off,n)=>vm place r (c/\x.oC=true/\x.cells.length=n/\off+n<=cs.length) (bL cs off x.cells)
  |none=>none
def D9{φ w F}(place:Nat->Option (Nat×Nat)):∀(ps:List (Nat×AV))(Y c:Bool)(cs U:List AV)(vs:List (Nat×Value))(I:Array Value),
 vm place ps Y cs=some (c,U)->c=true->cs.length=I.size->(∀v∈I,dk v=true)->(∀(i:Nat) x v,cs[i]?=some x->I[i]?=some v->aG φ w F x v)->
 ps.length=vs.length->(∀(i:Nat) p v,ps[i]?=some p->vs[i]?=some v->p.1=v.1/\aG φ w F p.2 v.2)->
 ∃H,Instr.fill place I vs=some H/\Y=true/\U.length=H.size/\(∀v∈H,dk v=true)/\∀(i:Nat) x v,U[i]?=some x->H[i]?=some v->aG φ w F x v
 |[],Y,c,cs,U,vs,I,h,T,M,J,O,Z,A0=>by
  have:vs=[]:=adf (by simpa using Z.symm);subst this;simp only[vm,adl,aeb]at h;obtain⟨rfl,rfl⟩:=h;exact⟨I,rfl,T,M,J,O⟩
 |(i,x)::ps,Y,c,cs,U,vs,I,h,T,M,J,O,Z,A0=>by
  cases vs with
  |nil=>simp at Z
  |cons v vs=>
   obtain⟨j,v⟩:=v;obtain⟨AF,A1⟩:=A0 0 (i,x) (j,v) (by simp) (by simp);simp only at AF A1;subst AF;simp only[vm]at h;split at h
   .rename_i off n AR
    --AG condition of AG rest holds AG condition of this part
    obtain⟨q,A4⟩:∃q:Bool,q=decide (Y=true/\x.oC=true/\x.cells.length=n/\off+n<=cs.length):=⟨_,rfl⟩;have AS:c=true->q=true:=by
     rw[<-A4]at h;clear A4;revert h
     generalize bL cs off x.cells=AT;clear A0 Z O J M A1 T;induction ps generalizing q AT with
     |nil=>intro h;simp only[vm,adl,aeb]at h;obtain⟨rfl,_⟩:=h;exact id
     |cons p ps ih=>
      intro h AH;simp only[vm]at h;split at h
      .exact (adI (ih _ _ h AH)).1
      .cases h
    have A2:=AS T;rw[A4]at A2;replace A2:=adI A2;obtain⟨AU,AW,Ae,hle⟩:=A2;obtain⟨AI,AJ⟩:=A1.oC AW;have AK:off+v.cells.size<=I.size:=by omega
    have A3:=Oq I v.cells off AK;obtain⟨A5,AL⟩:∃A5,A5=v.cells.zipIdx.foldl (λcs (x:Value×Nat)=>cs.setIfInBounds (off+x.2) x.1) I:=⟨_,rfl⟩;rw[<-AL]at A3;have AM:off+v.cells.toList.length<=I.toList.length:=by simpa using AK
    obtain⟨H,A',AH,AX,AY,AZ⟩:=D9 (φ:=φ) (w:=w) (F:=F) place ps _ c _ U vs A5 h T
     (by rw[cJ _ _ _ (by omega),<-adA,A3,cJ _ _ _ AM];simpa using M)
     (λu hu=>by
      rw[<-Array.mem_toList_iff,A3]at hu;rcases nP AM hu with hu|hu
      .exact J u (by simpa using hu)
      .exact AJ u (by simpa using hu))
     (λi y u A_ hu=>by
      rw[<-ahH,A3]at hu;exact yl (R:=λx v=>aG φ w F x v) (by simpa using M) (by simpa using AI.symm) (by omega) (λi c v h D=>O i c v h (by simpa using D)) (λi c v h D=>A1.cells AJ AI i c v h (by simpa using D)) i y u A_ hu)
     (by simpa using Z) (λi p v h D=>A0 (i+1) p v (by simpa using h) (by simpa using D))
    refine⟨H,?_,AU,AX,AY,AZ⟩;simp only[Instr.fill,AR];rw[aaf (by simp;omega)];rw[<-A',AL]
   .cases h
def jv(P:Program)(t:TypeId):Option (List (Nat×Nat)):=
 match P.underlying t with
 |some (.struct fs)=>fs.toList.mapM λf=>(P.info? f.type).map λi=>(f.offset,i.size)
 |_=>none
def GI{P:Program}{w:World}:∀(fs:List Field)(l:List (Nat×Nat)),(fs.mapM λf=>(P.info? f.type).map λi=>(f.offset,i.size))=some l->
 (fs.mapM λf=>(do pure (f.offset,<-sizeOf f.type):Sem (Nat×Nat))).run P w=.ok l w
 |[],l,h=>by simp at h;subst h;simp
 |f::fs,l,h=>by
  simp only[List.mapM_cons]at h⊢;cases hi:P.info? f.type with
  |none=>simp[hi]at h
  |some i=>
   simp only[hi,ahK,Option.pure_def,Option.bind_eq_bind,ad8]at h;cases hm:(fs.mapM λf=>(P.info? f.type).map λi=>(f.offset,i.size))with
   |none=>simp[hm]at h
   |some Aa=>
    simp[hm]at h;subst h;have A6:(sizeOf f.type).run P w=.ok i.size w:=run_sizeOf (by simp[gT,hi]);have ih:=GI (P:=P) (w:=w) fs Aa hm;simp only[Sem.run_bind,A6,Result.andThen_ok,Sem.run_pure,ih]
def IB(P:Program)(t:TypeId)(ps:List (Nat×AV)):ep:=
 match vi P t with
 |some zs=>match jv P t with
  |some l=>match vm (λi=>l[i]?) ps true zs with
   |some (c,cs)=>.val c (FC cs)
   |none=>.no
  |none=>match tk P t with
   | .arr _ e=>match gT P e with
    |some sz=>match vm (λi=>some (i*sz,sz)) ps true zs with
     |some (c,cs)=>.val c (FC cs)
     |none=>.no
    |none=>.no
   |_=>.no
 |none=>.no
def aaG(P:Program)(S:St)(o:Oper)(t:TypeId)(ps:Array (Nat×Operand))(AN:o.op=.build t ps)(Ab:∀x∈ps.toList,(S.aw x.2).1=true):
 aN P S o (IB P t (ps.toList.map λx=>(x.1,(S.aw x.2).2))):=by
 have parts:∀{φ G a w},Rel φ G S a w->∀(i:Nat)(p:Nat×AV)(v:Nat×Value),(ps.toList.map λx=>(x.1,(S.aw x.2).2))[i]?=some p->(ps.toList.map λx=>(x.1,a.eval x.2))[i]?=some v->p.1=v.1/\aG φ w (Fo G φ S.mem) p.2 v.2:=by
  intro φ G a w O i p v J V;simp only[adn,ac3]at J V;obtain⟨x,AO,rfl⟩:=J;obtain⟨y,AP,rfl⟩:=V;rw[AO]at AP;cases AP;exact⟨rfl,O.aw _ (Ab x (ac6 AO))⟩
 unfold IB;split
 .rename_i zs AQ;split
  .rename_i l M;split
   .rename_i c cs A';refine aN.vh λT φ G a w O=>?_;obtain⟨z,A7,A8,J,A9⟩:=su AQ w;obtain⟨H,V,_,AA,AB,AC⟩:=D9 (φ:=φ) (w:=w) (F:=Fo G φ S.mem) _ _ _ _ _ _ (ps.toList.map λx=>(x.1,a.eval x.2)) z.cells A' T A8.symm J (λi x v h D=>A9 _ _ _ i x v h D) (by simp) (parts O);unfold jv at M;split at M
    .rename_i fs hu;have hm:=GI (P:=P) (w:=w) fs.toList l M;refine⟨.agg H,?_,?_⟩
     .have Ac:(fs.mapM λf=>(do pure (f.offset,<-sizeOf f.type):Sem (Nat×Nat))).run P w=.ok l.toArray w:=by
       rw[Array.mapM_eq_mapM_toList];simp only[Sem.run_map,hm,Result.andThen_ok]
      simp only[execOp,AN,Instr.build,Sem.run_bind,A7,Result.andThen_ok,run_underlying hu,Ac];have e:(λ(i:Nat)=>l.toArray[i]?)=λ(i:Nat)=>l[i]?:=by funext i;simp
      have AD:(Array.map (λx=>(x.1,a.eval x.2)) ps).toList=ps.toList.map λx=>(x.1,a.eval x.2):=by simp
      rw[e,AD,V];rfl
     .have:=DX (φ:=φ) (w:=w) (F:=Fo G φ S.mem) (cs:=cs) (vs:=H.toList) (by simpa using AA) (λv AE=>AB v (by simpa using AE)) (λi c v h D=>AC i c v h (by simpa using D));simpa using this
    .cases M
   .trivial
  .split
   .rename_i n e Ad;split
    .rename_i sz A6;split
     .rename_i c cs A';refine aN.vh λT φ G a w O=>?_;obtain⟨z,A7,A8,J,A9⟩:=su AQ w;obtain⟨H,V,_,AA,AB,AC⟩:=D9 (φ:=φ) (w:=w) (F:=Fo G φ S.mem) _ _ _ _ _ _ (ps.toList.map λx=>(x.1,a.eval x.2)) z.cells A' T A8.symm J (λi x v h D=>A9 _ _ _ i x v h D) (by simp) (parts O);refine⟨.agg H,?_,?_⟩
      .simp only[execOp,AN,Instr.build,Sem.run_bind,A7,Result.andThen_ok,run_underlying (yr Ad),run_sizeOf A6];have AD:(Array.map (λx=>(x.1,a.eval x.2)) ps).toList=ps.toList.map λx=>(x.1,a.eval x.2):=by simp
       rw[AD,V];rfl
      .have:=DX (φ:=φ) (w:=w) (F:=Fo G φ S.mem) (cs:=cs) (vs:=H.toList) (by simpa using AA) (λv AE=>AB v (by simpa using AE)) (λi c v h D=>AC i c v h (by simpa using D));simpa using this
     .trivial
    .trivial
   .trivial
 .trivial
def Hl(sz:Nat):∀(vs:List (Nat×Value))(k:Nat)(cells:Array Value),vs.map (·.1)=List.range' k vs.length->(∀v∈vs,v.2.cells.size=sz)->(k+vs.length)*sz=cells.size->
 ∃out,Instr.fill (λi=>some (i*sz,sz)) cells vs=some out/\out.toList=cells.toList.take (k*sz)++vs.flatMap (λv=>v.2.cells.toList)
 |[],k,cells,_,_,V=>by
  refine⟨cells,rfl,?_⟩;simp only[ac7,ahq]at V;simp only[V,List.flatMap_nil,agV];rw[<-adA,List.take_length]
 |(i,v)::vs,k,cells,hi,Y,V=>by
  simp only[adz,ac5,aie,List.cons.injEq]at hi;obtain⟨rfl,hi⟩:=hi;have T:=Y (i,v) (by simp);simp only at T;simp only[ac5]at V;have Ad:i*sz+v.cells.size<=cells.size:=by
   rw[T,<-V,<-ahP];exact adt _ (by omega)
  have J:=Oq cells v.cells (i*sz) Ad;obtain⟨AS,As⟩:∃AS,AS=v.cells.zipIdx.foldl (λcs (x:Value×Nat)=>cs.setIfInBounds (i*sz+x.2) x.1) cells:=⟨_,rfl⟩;rw[<-As]at J;have At:i*sz+v.cells.toList.length<=cells.toList.length:=by simpa using Ad
  have A7:AS.size=cells.size:=by rw[<-adA,J,cJ _ _ _ At];simp
  obtain⟨out,Z,AT⟩:=Hl sz vs (i+1) AS hi (λx O=>Y x (by simp[O])) (by rw[A7,<-V];congr 1;omega);refine⟨out,?_,?_⟩
  .simp only[Instr.fill];rw[aaf (by simp;omega),<-Z,As]
  .rw[AT,J,ea _ _ _ At];have BR:v.cells.toList.length=sz:=by simpa using T
   rw[ahP,ahb (by simp;omega),adK (by simp;omega)];simp
def IC{φ w F}{sz:Nat}:∀(H:List D)(vs:List Value),H.length=vs.length->(∀d∈H,d.size=sz)->(∀(i:Nat) d v,H[i]?=some d->vs[i]?=some v->aG φ w F (.d d) v)->
 dg w F sz H (vs.flatMap λv=>v.cells.toList)
 |[],vs,V,_,_=>by
  have:vs=[]:=adf (by simpa using V.symm);subst this;exact dg.nil ..
 |d::H,vs,V,Y,I=>by
  cases vs with
  |nil=>simp at V
  |cons v vs=>
   have ih:=IC (φ:=φ) (w:=w) (F:=F) H vs (by simpa using V) (λx O=>Y x (by simp[O])) (λi d v h AA=>I (i+1) d v (by simpa using h) (by simpa using AA));have AB:=I 0 d v (by simp) (by simp);cases AB with|d _ _ AB=>
   have AC:=Y d (by simp);have AU:v.cells.size=sz:=by rw[AB.size,AC]
   have one:dg w F sz [d] v.cells.toList:=by
    refine⟨by simp[AU],λu hu=>AB.cells.2.1 u (by simpa using hu),λx O=>by simp at O;subst O;exact AC,λi x O=>?_⟩;cases i with
    |zero=>simp at O;subst O;exact⟨v,AB,λj c AF=>by simpa using AF⟩
    |succ i=>simp at O
   simpa using one.append ih
def Ou{w:World}{F F':Nat->Prop}{sz:Nat}{H:List D}{cs rest:List Value}{elem:TypeId}{fr}{U:World}{arr:Array Value}(I:dg w F sz H cs)(hh:U.heap[w.heap.size]?=some (.cells arr elem fr))(AG:arr.toList=cs++rest)
 (hm:∀x v,aR w F x v->aR U F' x v) (B1:¬F' w.heap.size) (cap:Nat) (AL:H.length<=cap):aR U F' (.list H) (.slice (some ⟨w.heap.size,0,none⟩) H.length cap):=by
 obtain⟨BS,a2,a3,a4⟩:=I;have Ae:∀i,∃v,∀d,H[i]?=some d->aR w F d v/\∀(j:Nat) c,v.cells[j]?=some c->cs[i*sz+j]?=some c:=by
  intro i;cases M:H[i]? with
  |none=>exact⟨undef,λd h=>by cases h⟩
  |some d=>obtain⟨v,J,Z⟩:=a4 i d M;exact⟨v,λAu h=>by cases h;exact⟨J,Z⟩⟩
 obtain⟨vs,AU⟩:=ahg Ae;refine .list H w.heap.size 0 cap sz vs AL ?_ B1 a3 (λi d M=>hm _ _ (AU i d M).1) (λi j c hi AF=>?_)
 .exact (aet.1 hh).1
 .obtain⟨J,Z⟩:=AU i H[i] (by simp[hi]);have AT:=Z j c AF;rw[Lo hh,<-ahH,AG,agT,ac9 (aap.1 AT).1];exact AT
def Ov{φ:cC}{G:Fr}{m:Mem}{w U:World}(hold:∀b,b<w.heap.size->U.heap[b]?=w.heap[b]?)(Y:w.heap.size<=U.heap.size)(x v)(O:aR w (Fo G φ m) x v):aR U (Fo G φ m) x v:=
 O.mono (λb A1 _=>hold b A1) Y (λ_ _ h=>h)
def vQ:List (Nat×AV)->Option (List D)
 |[]=>some []
 |(_,x)::r=>match x.norm,vQ r with
  | .d d,some H=>some (d::H)
  |_,_=>none
def ID{φ w F}:∀(ps:List (Nat×AV))(H:List D)(vs:List Value),vQ ps=some H->ps.length=vs.length->(∀(i:Nat) p v,ps[i]?=some p->vs[i]?=some v->aG φ w F p.2 v)->
 H.length=vs.length/\∀(i:Nat) d v,H[i]?=some d->vs[i]?=some v->aG φ w F (.d d) v
 |[],H,vs,h,V,_=>by
  simp[vQ]at h;subst h;exact⟨by simpa using V,λi d v AA=>by simp at AA⟩
 |(i,x)::ps,H,vs,h,V,I=>by
  simp only[vQ]at h;split at h<;>simp at h;rename_i d B2 O AC;subst h;cases vs with
  |nil=>simp at V
  |cons v vs=>
   have ih:=ID (φ:=φ) (w:=w) (F:=F) ps B2 vs AC (by simpa using V) (λi p v h AA=>I (i+1) p v (by simpa using h) (by simpa using AA));refine⟨by simp[ih.1],λj Au Av h AA=>?_⟩;cases j with
   |zero=>
    simp at h AA;subst h;subst AA;have:=(I 0 (i,x) v (by simp) (by simp)).norm;simp only[O]at this;exact this
   |succ j=>exact ih.2 j Au Av (by simpa using h) (by simpa using AA)
def pY(P:Program)(t:TypeId)(A4:Nat)(len:Nat):List (Nat×AV)->Option dn->Option ep
 |[(0,.lit (.slice none 0 0))],some ⟨_,v,_⟩=>match tk P t with
  | .slice e=>match gT P e,oW P e with
   |some sz,some _=>some (.dU (sz=1/\len=1) (.vec A4 (v+1) 0 1) ⟨A4,v+1,.box [.lit (.slice none 0 0)]⟩)
   |_,_=>none
  |_=>none
 |_,_=>none
def vo(P:Program)(m:Mem)(A4:Nat)(t:TypeId)(len:Nat)(ps:List (Nat×AV)):ep:=
 match tk P t with
 | .slice e=>match gT P e,oW P e,vQ ps with
  |some sz,some A8,some H=>match Mem.get m A4 with
   |some ⟨_,v,_⟩=>.dU (A8.size=sz/\len*sz<=2^24/\ps.map (·.1)=List.range' 0 len/\(∀d∈H,d.size=sz)) (.vec A4 (v+1) 0 len) ⟨A4,v+1,.vec sz H⟩
   |none=>.val (A8.size=sz/\len*sz<=2^24/\ps.map (·.1)=List.range' 0 len/\(∀d∈H,d.size=sz)) (.d (.list H))
  |_,_,_=>.no
 |_=>.no
def nk(P:Program)(m:Mem)(A4:Nat)(t:TypeId)(len:Nat)(ps:List (Nat×AV)):ep:=
 match pY P t A4 len ps (Mem.get m A4)with
 |some r=>r
 |none=>vo P m A4 t len ps
def Bm{P:Program}{w:World}{t e:TypeId}{sz len:Nat}{A8:D}(AW:tk P t=.slice e)(Y:gT P e=some sz)(AH:oW P e=some A8)(A1:len*sz<=2^24)
 {vs:List (Nat×Value)} (hi:vs.map (·.1)=List.range' 0 len) (T:∀v∈vs,v.2.cells.size=sz):
 ∃arr:Array Value,arr.toList=vs.flatMap (λv=>v.2.cells.toList)/\(Instr.buildSlice t len vs.toArray).run P w=.ok (.slice (some ⟨w.heap.size,0,none⟩) len len) (w.alloc (.cells arr e)):=by
 obtain⟨z,A2,BT,BU,_⟩:=Iw AH w;have A':vs.length=len:=by
  have:=ahw List.length hi;simpa using this
 have B3:¬(len*sz>2^24):=by omega
 by_cases AB:len*sz=0
 .obtain⟨out,J,Z⟩:=Hl sz vs 0 #[] (by rw[A'];exact hi) T (by rw[A'];simp[AB]);refine⟨out,by simpa using Z,?_⟩;simp only[Instr.buildSlice,Sem.run_bind,run_underlying (iO AW),Result.andThen_ok,run_sizeOf Y,AB,ad7,show Array.range 0=#[]from rfl,Array.map_empty,J,show ¬(0>2^24) by decide,adN,Sem.run_bind,Sem.run_pure,kE]
 .obtain⟨out,J,Z⟩:=Hl sz vs 0 ((Array.range (len*sz)).map (z.cells[·%z.cells.size]!)) (by rw[A'];exact hi) T (by rw[A'];simp);refine⟨out,by simpa using Z,?_⟩;simp only[Instr.buildSlice,Sem.run_bind,run_underlying (iO AW),Result.andThen_ok,run_sizeOf Y,B3,adN,AB,A2,Sem.run_pure,J,kE]
def Nn(P:Program)(S:St)(o:Oper)(t:TypeId)(len:Nat)(ps:Array (Nat×Operand))(AX:o.op=.buildSlice t len ps)(O:∀x∈ps.toList,(S.aw x.2).1=true):
 aN P S o (nk P S.mem (keyOf o) t len (ps.toList.map λx=>(x.1,(S.aw x.2).2))):=by
 have parts:∀{φ G a w},Rel φ G S a w->∀(i:Nat)(p:Nat×AV)(v:Value),(ps.toList.map λx=>(x.1,(S.aw x.2).2))[i]?=some p->(ps.toList.map λx=>a.eval x.2)[i]?=some v->aG φ w (Fo G φ S.mem) p.2 v:=by
  intro φ G a w I i p v J Z;simp only[adn,ac3]at J Z;obtain⟨x,Aw,rfl⟩:=J;obtain⟨y,Ax,rfl⟩:=Z;rw[Aw]at Ax;cases Ax;exact I.aw _ (O x (ac6 Aw))
 have main:∀{e sz A8 H},tk P t=.slice e->gT P e=some sz->oW P e=some A8->vQ (ps.toList.map λx=>(x.1,(S.aw x.2).2))=some H->A8.size=sz->len*sz<=2^24->
  (ps.toList.map λx=>(x.1,(S.aw x.2).2)).map (·.1)=List.range' 0 len->(∀d∈H,d.size=sz)->∀{φ G a w},Rel φ G S a w->
  H.length=len/\∃arr:Array Value,dg w (Fo G φ S.mem) sz H arr.toList/\(execOp a.eval o).run P w=.ok (.value (.slice (some ⟨w.heap.size,0,none⟩) len len)) (w.alloc (.cells arr e)):=by
  intro e sz A8 H AW Y AH AC AY A1 hi A7 φ G a w I;obtain⟨J,Z⟩:=ID (φ:=φ) (w:=w) (F:=Fo G φ S.mem) _ H (ps.toList.map λx=>a.eval x.2) AC (by simp) (parts I);have AI:=IC H _ J A7 Z;have B4:(ps.toList.map λx=>(x.1,a.eval x.2)).map (·.1)=List.range' 0 len:=by rw[<-hi];simp
  have T:∀v∈(ps.toList.map λx=>(x.1,a.eval x.2)),v.2.cells.size=sz:=by
   intro v T;simp only[adk]at T;obtain⟨x,B5,rfl⟩:=T;obtain⟨i,Ay,B6⟩:=apS.1 B5;have hid:i<H.length:=by rw[J];simpa using Ay
   have:=Z i H[i] (a.eval x.2) (by simp[hid]) (by simp[ado Ay,B6]);cases this with|d _ _ h=>rw[h.size];exact A7 _ (ag9 hid)
  obtain⟨arr,Af,A2⟩:=Bm (P:=P) (w:=w) AW Y AH A1 B4 T;refine⟨?_,arr,?_,?_⟩
  .have:=ahw List.length hi;simp at this;rw[J];simp;exact this
  .rw[Af];have e:(ps.toList.map λx=>(x.1,a.eval x.2)).flatMap (λv=>v.2.cells.toList)=(ps.toList.map λx=>a.eval x.2).flatMap (λv=>v.cells.toList):=by simp[List.flatMap_map]
   rw[e];exact AI
  .have B7:(ps.map λx=>(x.1,a.eval x.2))=(ps.toList.map λx=>(x.1,a.eval x.2)).toArray:=by apply Array.ext';simp
   simp only[execOp,AX,Sem.run_bind];have Ag:(ps.map λ(i,x)=>(i,a.eval x))=(ps.toList.map λx=>(x.1,a.eval x.2)).toArray:=B7;rw[Ag,A2];rfl
 have nil:∀r,pY P t (keyOf o) len (ps.toList.map λx=>(x.1,(S.aw x.2).2)) (Mem.get S.mem (keyOf o))=some r->aN P S o r:=by
  intro r A5;unfold pY at A5;split at A5
  .rename_i key v cont AO AM;split at A5
   .rename_i e AZ;split at A5
    .rename_i sz A8 Y AH;cases A5;refine aN.wO ?_;rintro ⟨rfl,rfl⟩ φ G a w I;have B8:ps.toList.length=1:=by have:=ahw List.length AO;simpa using this
     obtain⟨q,Ah⟩:∃q,ps.toList=[q]:=by
      match BV:ps.toList,B8 with
      |[q],_=>exact⟨q,rfl⟩
     have Ai:=parts I 0 (0,.lit (.slice none 0 0)) (a.eval q.2) (by rw[AO];rfl) (by rw[Ah];rfl);simp only at Ai;have Aj:a.eval q.2=.slice none 0 0:=by
      generalize a.eval q.2=u at Ai;cases Ai;rfl
     have B9:q.1=0:=by
      rw[Ah]at AO;simp only[adz,List.map_nil,List.cons.injEq,aeb]at AO;exact AO.1.1
     obtain⟨arr,Af,A2⟩:=Bm (P:=P) (w:=w) (len:=1) AZ Y AH (by decide) (vs:=[(0,.slice none 0 0)]) rfl (by simp[Value.cells]);have AG:arr=#[.slice none 0 0]:=by apply Array.ext';rw[Af];simp[Value.cells]
     subst AG;obtain⟨hm,AJ,L,AP,AK,_⟩:=I.mem.get AM;simp only at AJ AK;subst AJ;obtain⟨φ',Ak,Al,An,Ao⟩:=I.mem.fresh (e:=⟨keyOf o,v,cont⟩) hm AP AK w rfl rfl rfl rfl #[.slice none 0 0] e 1 1 (.box [.lit (.slice none 0 0)]) (λ_ A1=>A1) (λφ' hle BA B' AD=>by
      refine⟨⟨rfl,rfl,rfl⟩,#[.slice none 0 0],e,.new AD,rfl,by simp[dk],λn c u A6 hu=>?_⟩;cases n with
      |zero=>simp at A6 hu;subst A6;subst hu;exact .lit _ rfl
      |succ n=>simp at A6)
     refine⟨.slice (some ⟨w.heap.size,0,none⟩) 1 1,_,φ',.inl ?_,.vec _ (v+1) 0 _ _ _ An (aar _) (λ_=>⟨_,_,rfl,aar _,λ_=>⟨by simp,by simp⟩⟩) rfl,Ak,Al,Ao⟩;have Ag:(ps.map λ(i,x)=>(i,a.eval x))=#[(0,.slice none 0 0)]:=by
      apply Array.ext';simp[Ah,B9,Aj]
     simp only[execOp,AX,Sem.run_bind];rw[Ag];have BB:(Instr.buildSlice t 1 #[(0,Value.slice none 0 0)]).run P w=_:=A2;rw[BB];rfl
    .cases A5
   .cases A5
  .cases A5
 unfold nk;split
 .rename_i r A5;exact nil r A5
 rename_i A5;clear A5 nil;unfold vo;split
 .rename_i e AZ;split
  .rename_i sz A8 H Y AH AC;split
   .rename_i key v cont AM;refine aN.wO ?_;rintro ⟨AY,A1,hi,A7⟩ φ G a w I;obtain⟨A',arr,AI,A2⟩:=main AZ Y AH AC AY A1 hi A7 I;obtain⟨hm,AJ,L,AP,AK,_⟩:=I.mem.get AM;simp only at AJ AK;subst AJ;obtain⟨φ',Ak,Al,An,Ao⟩:=I.mem.fresh (e:=⟨keyOf o,v,cont⟩) hm AP AK w rfl rfl rfl rfl arr e sz len (.vec sz H) (λ_ A1=>A1.2) (λφ' hle BA B' AD=>by
     refine Az (cs:=arr.toList) (rest:=[]) (elem:=e) rfl rfl (AI.mono B') (by simp) (by simpa using Nat.le_of_eq A') (by rw[agV,AI.1,A']) (λ_=>?_);refine gL.new ?_;rw[AD,agV,apW])
    exact⟨_,_,φ',.inl A2,.vec _ (v+1) 0 _ _ _ An (aar _) (λ_=>⟨_,_,rfl,aar _,λ_=>⟨by simp,by simp⟩⟩) rfl,Ak,Al,Ao⟩
   .refine aN.aqG ?_;rintro ⟨AY,A1,hi,A7⟩ φ G a w I;obtain⟨A',arr,AI,A2⟩:=main AZ Y AH AC AY A1 hi A7 I;have hold:∀b,b<w.heap.size->(w.alloc (.cells arr e)).heap[b]?=w.heap[b]?:=λb A1=>RowKit.Below.heap_alloc w _ b A1;have AD:=heap_alloc_new w (.cells arr e);refine⟨_,_,.inl A2,.d _ _ ?_,hold,by simp,rfl,rfl,rfl⟩;have:=Ou (cap:=len) AI AD (rest:=[]) (by simp) (λx v h=>Ov hold (by simp) x v h) (λh=>absurd (Hi I.mem _ h) (Nat.lt_irrefl _)) (Nat.le_of_eq A');rw[A']at this;exact this
  .trivial
 .trivial
def vS(s:List UInt8):List D:=s.map λb=>.int .u8 b.toNat
def byteOf:D->UInt8
 | .int _ n=>UInt8.ofNat n.toNat
 |_=>0
def D.isByte:D->Bool
 | .int .u8 _=>true
 |_=>false
def D.W3{d:D}(h:d.isByte=true):∃n,d=.int .u8 n:=by
 unfold D.isByte at h;split at h<;>simp_all
def pK(P:Program)(m:Mem)(A4:Nat)(src dst:TypeId)(x:AV):ep:=
 match tk P dst,x with
 | .int k,.d (.int _ n)=>.val (tk P src≠.other) (.d (.int k (k.wrap n)))
 | .str,.d (.int _ n)=>.val (tk P src≠.other) (.d (.str (Utf8.encode n).data.toList))
 | .str,.d (.str s)=>.val (tk P src=.str) (.d (.str s))
 | .str,x=>match tk P src with
  | .slice e=>match jZ m 1 x with
   |some (c,A9)=>.val (c/\tk P e=.int .u8/\gT P e=some 1/\∀d∈A9,d.isByte=true) (.d (.str (A9.map byteOf)))
   |none=>.no
  |_=>.no
 | .slice e,.d (.str s)=>match tk P src,tk P e,Mem.get m A4 with
  | .str,.int .u8,none=>.val True (.d (.list (vS s)))
  |_,_,_=>.no
 |_,_=>.no
def IE{P:Program}{w:World}:∀(cs:List Value)(s0:ByteArray)(A0:List Int),cs=A0.map (Value.int .u8)->
 (forIn cs s0 (λc s=>(match c with| .int .u8 n=>pure (ForInStep.yield (s.push (UInt8.ofNat n.toNat)))|_=>(do stuck "bytesToString: byte expected";pure (ForInStep.yield s)):Sem (ForInStep ByteArray)))).run P w=.ok ⟨(s0.data.toList++A0.map λn=>UInt8.ofNat n.toNat).toArray⟩ w
 |[],s0,A0,h=>by
  have:A0=[]:=by simpa using h.symm
  subst this;simp
 |c::cs,s0,A0,h=>by
  cases A0 with
  |nil=>simp at h
  |cons n A0=>
   simp at h;obtain⟨rfl,rfl⟩:=h;simp only[List.forIn_cons,Sem.run_bind,Sem.run_pure,Result.andThen_ok];rw[IE (A0.map (Value.int .u8)) (s0.push (UInt8.ofNat n.toNat)) A0 rfl];simp
def RN{P:Program}{w:World}{e:TypeId}{b:ByteArray}:∃(arr:Array Value)(fr:Nat×Nat)(w':World)(cap:Nat)(rest:List Value),b.size<=cap/\(Conv.stringToBytes e b).run P w=.ok (.slice (some ⟨w.heap.size,0,none⟩) b.size cap) w'/\
 arr.toList=(b.data.toList.map λx=>Value.int .u8 x.toNat)++rest/\w'.heap[w.heap.size]?=some (.cells arr e fr)/\(∀k,k<w.heap.size->w'.heap[k]?=w.heap[k]?)/\w.heap.size<=w'.heap.size/\w'.os=w.os/\w'.tape=w.tape/\w'.output=w.output:=by
 obtain⟨cap,AL⟩:∃cap,cap=(Question.appendCap b.size 0 e).cut (w.tape w.drawn (.appendCap b.size 0 e)):=⟨_,rfl⟩;obtain⟨arr,AG⟩:∃arr:Array Value,arr=(b.data.map λx=>Value.int .u8 x.toNat)++Array.replicate (cap-b.size) (.int .u8 0):=⟨_,rfl⟩;obtain⟨U,AN⟩:∃U,U=w.drew.alloc (.cells arr e):=⟨_,rfl⟩;have AD:U.heap[w.heap.size]?=some (.cells arr e (0,0)):=by
  have:=heap_alloc_new w.drew (.cells arr e);rw[<-AN]at this;exact this
 have Ad:w.heap.size<U.heap.size:=(aet.1 AD).1;have BC:U.shape? w.heap.size=some (e,arr.size):=by simp[World.shape?,AD]
 refine⟨arr,(arr.size,arr.size+1),U.freeze ⟨w.heap.size,arr.size,none⟩ 1,cap,List.replicate (cap-b.size) (.int .u8 0),?_,?_,?_,?_,?_,?_,?_,?_,?_⟩
 .rw[AL];simp[Question.cut]
 .have Ae:(choose (.appendCap b.size 0 e)).run P w=.ok cap w.drew:=by
   rw[AL];rfl
  have BD:(newRow e arr).run P w.drew=.ok ⟨w.heap.size,0,none⟩ U:=by rw[AN];rfl
  have BE:(markStringish ⟨w.heap.size,0,none⟩).run P U=.ok () (U.freeze ⟨w.heap.size,arr.size,none⟩ 1):=by
   simp only[markStringish,shape,Sem.run_bind,Sem.run,BC,Result.andThen_ok,freeze]
  simp only[Conv.stringToBytes,Sem.run_bind,Ae,Result.andThen_ok,<-AG,BD,BE,Sem.run_pure]
 .rw[AG];simp
 .simp[World.freeze,alS,AD]
 .intro k AJ;have J:(U.freeze ⟨w.heap.size,arr.size,none⟩ 1).heap[k]?=U.heap[k]?:=by
   simp only[World.freeze,Nat.one_ne_zero,adN,alS];rw[aaf (by omega)]
  rw[J,AN];exact RowKit.Below.heap_alloc w.drew _ k AJ
 .simp[World.freeze];omega
 .simp[World.freeze,AN];rfl
 .simp[World.freeze,AN]
 .simp[World.freeze,AN];rfl
def US(n:Int):byteOf (.int .u8 n)=UInt8.ofNat n.toNat:=rfl
def Sz(P:Program)(S:St)(o:Oper)(src dst:TypeId)(x:Operand)(AX:o.op=.convert src dst x)(O:(S.aw x).1=true):aN P S o (pK P S.mem (keyOf o) src dst (S.aw x).2):=by
 have A2:∀(a:Act)(w w':World)(v:Value),(convert src dst (a.eval x)).run P w=.ok v w'->(execOp a.eval o).run P w=.ok (.value v) w':=by
  intro a w w' v h;simp[execOp,AX,h]
 unfold pK;split
 .rename_i k BW n M A3;refine aN.pure λA6 φ G a w I=>?_;have J:=I.aw x O;rw[A3]at J;obtain⟨BF,hu⟩:=Hk A6;refine⟨.int k (k.wrap n),A2 a w w _ ?_,.d _ _ (.int _ _)⟩;rw[mW J];simp[convert,run_underlying hu,run_underlying (Bk M),Conv.intToInt]
 .rename_i k n M A3;refine aN.pure λA6 φ G a w I=>?_;have J:=I.aw x O;rw[A3]at J;obtain⟨BF,hu⟩:=Hk A6;refine⟨.string (Utf8.encode n),A2 a w w _ ?_,.d _ _ (.str _ _ rfl)⟩;rw[mW J];simp[convert,run_underlying hu,run_underlying (rB M),Conv.intToString]
 .rename_i s M A3;refine aN.pure λA6 φ G a w I=>?_;have J:=I.aw x O;rw[A3]at J;obtain⟨b,Ap,rfl⟩:=yq J;refine⟨.string b,A2 a w w _ ?_,.d _ _ (.str _ _ rfl)⟩;rw[Ap];simp[convert,run_underlying (rB A6),run_underlying (rB M)]
 .rename_i M _ _;split
  .rename_i e A_;split
   .rename_i c A9 AE;refine aN.pure ?_;rintro ⟨A6,Aa,BX,AQ⟩ φ G a w I;replace AQ:=λd M=>D.W3 (AQ d M);have A3:=I.aw x O;obtain⟨BG,Aq⟩:=N7 (P:=P) I.mem A3 AE A6 (λd M=>by obtain⟨n,rfl⟩:=AQ d M;rfl);have A':=Aq.len w;have AR:=Aq.first w (λ_ _=>rfl);obtain⟨BH,BY,BZ,BI⟩:=Aq.aq
    --B_ cells as numbers
    have Ab:∃A0:List Int,BG=A0.map (Value.int .u8)/\A9=A0.map (D.int .u8):=by
     refine⟨A9.map λd=>(match d with| .int _ n=>n|_=>0),?_,?_⟩
     .apply List.ext_getElem?;intro i;by_cases hi:i<A9.length
      .obtain⟨v,T,BJ⟩:=BI i A9[i] (by simp[hi]);obtain⟨n,Ac⟩:=AQ A9[i] (ag9 hi);rw[Ac]at T;cases T;have:=BJ 0 (.int .u8 n) rfl;simp only[ale,ahq]at this;rw[this];simp[hi,Ac]
      .rw[ahU (by rw[BH];omega),ahU (by simp;omega)]
     .apply List.ext_getElem?;intro i;by_cases hi:i<A9.length
      .obtain⟨n,Ac⟩:=AQ A9[i] (ag9 hi);simp[hi,Ac]
      .rw[ahU (by omega),ahU (by simp;omega)]
    obtain⟨A0,rfl,rfl⟩:=Ab;generalize Aj:a.eval x=Ar at A' AR A3;have T:(∃ao m cap,Ar=.slice ao m cap)\/(∃b,Ar=.string b):=by
     cases Ar<;>first|exact .inl ⟨_,_,_,rfl⟩|exact .inr ⟨_,rfl⟩|(simp[Builtin.lenOf,stuck]at A')
    refine⟨.string ⟨(A0.map λn=>UInt8.ofNat n.toNat).toArray⟩,A2 a w w _ ?_,.d _ _ (.str _ _ ?_)⟩
    .rw[Aj];rcases T with ⟨ao,m,cap,rfl⟩|⟨b,rfl⟩
     .simp only[Builtin.lenOf,Sem.run_pure,Result.ok.injEq,and_true]at A';subst A';cases ao with
      |none=>
       have BK:A0=[]:=by
        simp only[Builtin.firstCells,Sem.run_pure,Result.ok.injEq,and_true]at AR;have:=ahw Array.size AR;simp at this;exact adf this.symm
       subst BK;simp[convert,run_underlying (iO A_),run_underlying (rB M),run_underlying (Bk Aa),Conv.bytesToString];rfl
      |some Ba=>
       simp only[Builtin.firstCells,ale]at AR;have A1:=IE (P:=P) (w:=w) (A0.map (Value.int .u8)) ByteArray.empty A0 rfl;simp only[convert,run_underlying (iO A_),run_underlying (rB M),run_underlying (Bk Aa),Sem.run_bind,Result.andThen_ok,Conv.bytesToString,AR];rw[<-Array.forIn_toList];simp only[Sem.run_pure];refine Eq.trans (ahw (λr=>Result.andThen r λa w'=>Result.ok (Value.string a) w') A1) ?_;rfl
     .exfalso;have Ab:∀s,(S.aw x).2=.d (.str s)->False:=by assumption
      generalize (S.aw x).2=y at AE A3 Ab;unfold jZ at AE;split at AE
      .cases A3 with|d _ _ h=>cases h
      .exact Ab _ rfl
      .cases A3
      .cases A3
      .split at AE
       .rename_i key Av Bb aq AM;simp only[adl,aeb]at AE;obtain⟨rfl,_⟩:=AE;obtain⟨_,_,L,AP,AK,_⟩:=I.mem.get AM;cases A3 with
        |vec _ _ _ _ _ L' B0 _ h _=>
         rw[AP]at B0;cases B0;obtain⟨_,_,Z,_⟩:=h (by rw[<-(adI A6).1];exact AK.symm);cases Z
       .cases AE
      .cases AE
    .simp[US,Function.comp_def]
   .trivial
  .trivial
 .rename_i e s M A3;split
  .rename_i A_ Aa AM;intro _ φ G a w I;have J:=I.aw x O;rw[A3]at J;obtain⟨b,Ap,rfl⟩:=yq J;have BL:b.size=b.data.toList.length:=by rw[adA];rfl
   obtain⟨arr,fr,w',cap,rest,AL,BM,AG,hh,hold,A7,BN,BO,BP⟩:=RN (P:=P) (w:=w) (e:=e) (b:=b);have AI:dg w (Fo G φ S.mem) 1 (vS b.data.toList) (b.data.toList.map λx=>Value.int .u8 x.toNat):=by
    refine⟨by simp[vS],?_,?_,?_⟩
    .intro v T;simp only[adk]at T;obtain⟨y,_,rfl⟩:=T;rfl
    .intro d M;simp only[vS,adk]at M;obtain⟨y,_,rfl⟩:=M;rfl
    .intro i d M;simp only[vS,adn,ac3]at M;obtain⟨y,BQ,rfl⟩:=M;refine⟨.int .u8 y.toNat,.int _ _,λj c AF=>?_⟩;cases j with
     |zero=>simp only[Value.cells]at AF;simp at AF;subst AF;simp only[adn,ale,ahq,BQ];rfl
     |succ j=>simp[Value.cells]at AF
   have V:=Ou (cap:=cap) AI hh AG (λx v h=>Ov hold A7 x v h) (λh=>absurd (Hi I.mem _ h) (Nat.lt_irrefl _)) (by simp[vS];exact AL);refine⟨_,w',.inl (A2 a w w' _ ?_),.d _ _ V,hold,A7,BN,BO,BP⟩;have A':(vS b.data.toList).length=b.size:=by rw[BL];simp[vS]
   rw[Ap,A'];simp only[convert,run_underlying (rB A_),run_underlying (iO M),run_underlying (Bk Aa),Sem.run_bind,Result.andThen_ok];exact BM
  .trivial
 .trivial
end Go.Am
end

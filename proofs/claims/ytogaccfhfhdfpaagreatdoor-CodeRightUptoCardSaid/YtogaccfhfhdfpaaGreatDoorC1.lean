/-
  Texts of one proof, one behind the other.
-/
import Derived.SizedLaws
import Derived.Handed
import Derived.Shelf.Vars
import Derived.WalkKit
import Derived.Laws.Rows
import Derived.Laws.CopyRow
import Derived.Laws.StructEq
set_option linter.all false
namespace Go.Am
open Go
def Ds:=@Bool.and_eq_true
def aaf:=@if_neg
def aai:=@List.getElem?_eq_some_iff
def aak:=@Nat.le_refl
def aal:=@List.length_append
def aam:=@List.mem_cons
def aao:=@List.length_cons
def aap:=@Option.map_eq_some_iff
def aav:=@if_pos
def aaw:=@decide_eq_true_eq
def aay:=@List.length_nil
def aaz:=@List.mem_of_getElem?
def aaA:=@List.mem_append
def aaB:=@List.eq_nil_of_length_eq_zero
def aaC:=@List.getElem?_append_left
def aaD:=@List.mem_map
def aaG:=@Nat.mul_le_mul_right
def aaH:=@List.not_mem_nil
def aaJ:=@List.getElem?_append_right
def aaK:=@List.map_cons
def aaM:=@List.getElem?_take
def aaR:=@List.all_eq_true
def aaT:=@Option.some.injEq
def aaV:=@List.getElem?_map
def aaX:=@Nat.add_assoc
def aa5:=@Array.length_toList
def aa6:=@of_decide_eq_true
def aba:=@List.nil_append
def abb:=@List.mem_map_of_mem
def abc:=@if_false
def abd:=@Bool.false_ne_true
def abe:=@List.mem_of_mem_drop
def abf:=@List.mem_of_mem_take
def abk:=@Array.getD_eq_getD_getElem?
def abn:=@Prod.mk.injEq
def abo:=@List.mem_range
def abp:=@List.getElem?_drop
def abq:=@List.mem_cons_of_mem
def adX:=@List.append_assoc
def ad1:=@if_true
def ad4:=@List.getElem?_eq_getElem
def aec:=@List.getElem_mem
def aee:=@List.append_nil
def aeh:=@Nat.add_mul
def aei:=@Array.getElem?_eq_some_iff
def aej:=@List.drop_eq_getElem_cons
def aek:=@Option.bind_some
def aep:=@decide_eq_true
def aeu:=@List.size_toArray
def aez:=@List.mem_filter
def aeA:=@decide_eq_false_iff_not
def aeC:=@Bool.false_eq_true
def aeE:=@List.getElem?_toArray
def aeF:=@Nat.zero_add
def aeG:=@Nat.add_zero
def aeH:=@congrArg
def aeI:=@decide_eq_decide
def aeJ:=@List.take_of_length_le
def aeQ:=@List.length_drop
def aeR:=@List.cons_append
def aeT:=@List.length_singleton
def aeV:=@Array.getElem?_toList
def aeX:=@Option.getD_some
def ae0:=@List.length_take
def aff:=@Ne.symm
def afl:=@Nat.succ_mul
def afv:=@List.filter_eq_nil_iff
def afz:=@Bool.not_eq_true'
def afK:=@Array.getElem?_append_left
def afL:=@List.getElem?_eq_none
def afO:=@Nat.lt_of_lt_of_le
def afS:=@Option.map_some
def afV:=@Nat.min_eq_left
def ahP:=@List.all_cons
def ah2:=@List.range'_succ
def ah4:=@List.filter_filter
def ah7:=@List.filter_append
def aih:=@Bool.false_and
def aiq:=@List.takeWhile_prefix
def aiu:=@List.eq_nil_or_concat
def aiv:=@Array.getElem?_eq_getElem
def aiB:=@Bool.or_eq_true
def aiK:=@Nat.mul_comm
def ai3:=@Option.isSome_iff_exists
def ai6:=@Bool.true_and
def ai7:=@List.map_congr_left
def ai8:=@Option.bind_eq_some_iff
def ai9:=@Nat.mul_one
def ajb:=@Nat.le_succ
def aje:=@Int.le_refl
def ajf:=@Nat.le_trans
def ajl:=@or_false
def ajm:=@Nat.le_add_left
def ajn:=@Nat.div_le_self
def ajp:=@List.foldl_cons
def ajr:=@List.sum_cons
def ajt:=@List.concat_eq_append
def ajw:=@Array.getElem?_modify
def ajA:=@List.filter_congr
def ajB:=@List.length_filter_lt_length_iff_exists
def amD:=@true_and
def amE:=@List.map_append
def amF:=@List.filter_cons_of_neg
def amG:=@not_or
def amH:=@List.map_nil
def amI:=@List.foldl_nil
def amJ:=@List.drop_eq_nil_of_le
def amK:=@Iff.rfl
def amL:=@List.take_append_drop
def amM:=@List.sizeOf_lt_of_mem
def amN:=@Bool.and_true
def amO:=@Nat.zero_le
def amP:=@List.take_append_of_le_length
def amQ:=@List.mem_iff_getElem
def amR:=@List.mem_append_left
def amS:=@List.getElem?_of_mem
def amT:=@Array.toArray_toList
end Go.Am
section
namespace Go.Am
open Go
set_option maxRecDepth 100000
set_option maxHeartbeats 8000000
inductive D where
 |int (k:IntKind) (n:Int)
 |bool (b:Bool)
 |str (s:List UInt8)
 |list (xs:List D)
 |agg (cs:List D)
 |B1
def D.size:D->Nat
 | .agg cs=>cs.length
 |_=>1
def D.flat:D->Bool
 | .agg _=>false
 |_=>true
def cR:Value->Bool
 | .agg _=>false
 | .tuple _=>false
 |_=>true
def eP{v:Value}(h:cR v=true):v.cells=#[v]:=by cases v<;>simp_all [cR,Value.cells]
inductive aP(w:World)(F:Nat->Prop):D->Value->Prop
 |int (k n):aP w F (.int k n) (.int k n)
 |bool (b):aP w F (.bool b) (.bool b)
 |B1 (v:Value) (h:v=.nilIface\/∃t p,v=.iface t p):aP w F .B1 v
 |str (b:ByteArray) (s:List UInt8) (h:b.data.toList=s):aP w F (.str s) (.string b)
 |agg (cs:List D) (a:Array Value) (H:cs.length=a.size)
  (V:∀d∈cs,d.flat=true) (I:∀(i:Nat)(d:D)(v:Value),cs[i]?=some d->a[i]?=some v->aP w F d v):aP w F (.agg cs) (.agg a)
 |nil (a:Option Addr) (cap:Nat) (A4:a=none->cap=0):aP w F (.list []) (.slice a 0 cap)
 |list (xs:List D) (b off cap sz:Nat) (vs:Nat->Value) (A5:xs.length<=cap) (O:b<w.heap.size) (N:¬F b) (A6:∀d∈xs,d.size=sz)
  (Z:∀(i:Nat)(d:D),xs[i]?=some d->aP w F d (vs i))
  (I:∀(i j:Nat)(c:Value),i<xs.length->(vs i).cells[j]?=some c->w.cell? ⟨b,off+i*sz+j,none⟩=some c):
  aP w F (.list xs) (.slice (some ⟨b,off,none⟩) xs.length cap)
def aP.size{w F d v}(h:aP w F d v):v.cells.size=d.size:=by
 cases h
 case B1 h=>rcases h with rfl|⟨t,p,rfl⟩<;>rfl
 all_goals simp_all [D.size,Value.cells]
def aP.one{w F d v}(h:aP w F d v)(V:d.flat=true):cR v=true:=by
 cases h
 case B1 h=>rcases h with rfl|⟨t,p,rfl⟩<;>rfl
 all_goals simp_all [D.flat,Am.cR]
def lH{w w':World}{b o:Nat}(h:w'.heap[b]?=w.heap[b]?):w'.cell? ⟨b,o,none⟩=w.cell? ⟨b,o,none⟩:=by
 simp[World.cell?,h]
def aP.mono{w w':World}{F F':Nat->Prop}{d v}(h:aP w F d v)
 (y:∀b,b<w.heap.size->¬F b->w'.heap[b]?=w.heap[b]?) (A1:w.heap.size<=w'.heap.size) (N:∀b,b<w.heap.size->F' b->F b):aP w' F' d v:=by
 induction h with
 |int k n=>exact .int k n
 |bool b=>exact .bool b
 |B1 v h=>exact .B1 v h
 |str b s h=>exact .str b s h
 |agg cs a H V _ ih=>exact .agg cs a H V ih
 |nil a cap A4=>exact .nil a cap A4
 |list xs b off cap sz vs A5 O A' A6 _ I ih=>
  exact .list xs b off cap sz vs A5 (by omega) (λh=>A' (N b O h)) A6 ih (λi j c hi AC=>by
   rw[lH (y b O A')];exact I i j c hi AC)
def uY:Nat:=1000000
inductive AV where
 |bC
 |d (x:D)
 |agg (cs:List AV)
 |ptr (k ar off:Nat)
 |vec (k ar off len:Nat)
 |df (k ar i j:Nat)
 |eA (x:D) (j:Nat)
 |fn (f:FuncId) (cap:List AV)
 |bh (vs:List AV)
 |jb (t:TypeId) (x:D)
 |lit (v:Value)
 |nn
 |err
structure Loc where
 ar:Nat
 dU:Nat
 sz:Nat
 cap:Nat
 base:Nat
 ea:List (Option Nat):=[]
abbrev cj:=Nat->Option Loc
inductive aG(φ:cj)(w:World)(F:Nat->Prop):AV->Value->Prop
 |bC (v):aG φ w F .bC v
 |d (x v) (h:aP w F x v):aG φ w F (.d x) v
 |agg (cs:List AV) (a:Array Value) (H:cs.length=a.size) (E:∀v∈a,cR v=true) (I:∀(i:Nat)(c:AV)(v:Value),cs[i]?=some c->a[i]?=some v->aG φ w F c v):aG φ w F (.agg cs) (.agg a)
 |ptr (k ar off:Nat) (v:Value) (L:Loc) (J:φ k=some L) (Z:ar<=L.ar) (h:ar=L.ar->v=.pointer (some ⟨L.dU,off,none⟩)) (E:cR v=true):aG φ w F (.ptr k ar off) v
 |vec (k ar off len:Nat) (v:Value) (L:Loc) (J:φ k=some L) (Z:ar<=L.ar)
  (h:ar=L.ar->∃a cap,v=.slice a len cap/\len<=cap/\(cap>0->a=some ⟨L.dU,L.base+off*L.sz,none⟩/\off+cap<=L.cap)) (E:cR v=true):aG φ w F (.vec k ar off len) v
 |df (k ar i j:Nat) (v:Value) (L:Loc) (J:φ k=some L) (Z:ar<=L.ar) (h:ar=L.ar->v=.pointer (some ⟨L.dU,L.base+i*L.sz+j,none⟩)) (E:cR v=true):aG φ w F (.df k ar i j) v
 |eA (x:D) (j:Nat) (b off:Nat) (A2:Value) (O:b<w.heap.size) (N:¬F b) (A7:aP w F x A2)
  (I:∀(i:Nat)(c:Value),A2.cells[i]?=some c->w.cell? ⟨b,off+i,none⟩=some c):aG φ w F (.eA x j) (.pointer (some ⟨b,off+j,none⟩))
 |fn (f:FuncId) (cap:List AV) (a:Array Value) (V:f<uY) (H:cap.length=a.size) (I:∀(i:Nat)(c:AV)(v:Value),cap[i]?=some c->a[i]?=some v->aG φ w F c v):aG φ w F (.fn f cap) (.func (.func f) #[] a)
 |uZ (f:FuncId) (cap:List AV) (a:Array Value) (H:cap.length=a.size) (I:∀(i:Nat)(c:AV)(v:Value),cap[i]?=some c->a[i]?=some v->aG φ w F c v):aG φ w F (.fn (f+uY) cap) (.func (.func f) a #[])
 |bh (vs:List AV) (a:Array Value) (H:vs.length=a.size) (I:∀(i:Nat)(c:AV)(v:Value),vs[i]?=some c->a[i]?=some v->aG φ w F c v):aG φ w F (.bh vs) (.tuple a)
 |jb (t:TypeId) (x:D) (v:Value) (h:aP w F x v):aG φ w F (.jb t x) (.iface t v)
 |lit (v) (E:cR v=true):aG φ w F (.lit v) v
 |nn (a:Addr) (cap:Nat):aG φ w F .nn (.slice (some a) 0 cap)
 |err (t:TypeId) (v:Value):aG φ w F .err (.iface t v)
def cj.le(φ φ':cj):Prop:=∀k L,φ k=some L->∃L',φ' k=some L'/\L.ar<=L'.ar/\(L'.ar=L.ar->L'={L with ea:=L'.ea})
def cj.le_refl(φ:cj):φ.le φ:=λ_ L h=>⟨L,h,aak _,λ_=>rfl⟩
def cj.le_trans{φ φ' A8:cj}(h:φ.le φ')(AD:φ'.le A8):φ.le A8:=by
 intro k L J;obtain⟨A9,E,AH,AE⟩:=h k L J;obtain⟨AF,AG,AI,AA⟩:=AD k A9 E;refine⟨AF,AG,by omega,λe=>?_⟩;have M:A9.ar=L.ar:=by omega
 have U:=AE M;rw[U]at AA;exact AA (by rw[e])
def aG.mono{φ φ':cj}{w w':World}{F F':Nat->Prop}{x v}(h:aG φ w F x v)(A3:φ.le φ')
 (y:∀b,b<w.heap.size->¬F b->w'.heap[b]?=w.heap[b]?) (A1:w.heap.size<=w'.heap.size) (N:∀b,b<w.heap.size->F' b->F b):aG φ' w' F' x v:=by
 induction h with
 |bC v=>exact .bC v
 |d x v h=>exact .d x v (h.mono y A1 N)
 |agg cs a H E _ ih=>exact .agg cs a H E ih
 |ptr k ar off v L J Z h E=>
  obtain⟨L',A0,AB,he⟩:=A3 k L J;exact .ptr k ar off v L' A0 (by omega) (λe=>by
   have M:L'.ar=L.ar:=by omega
   have U:=he M;rw[U];exact h (by rw[e,M])) E
 |vec k ar off len v L J Z h E=>
  obtain⟨L',A0,AB,he⟩:=A3 k L J;exact .vec k ar off len v L' A0 (by omega) (λe=>by
   have M:L'.ar=L.ar:=by omega
   have U:=he M;rw[U];exact h (by rw[e,M])) E
 |df k ar i j v L J Z h E=>
  obtain⟨L',A0,AB,he⟩:=A3 k L J;exact .df k ar i j v L' A0 (by omega) (λe=>by
   have M:L'.ar=L.ar:=by omega
   have U:=he M;rw[U];exact h (by rw[e,M])) E
 |eA x j b off A2 O A' A7 I=>
  exact .eA x j b off A2 (by omega) (λh=>A' (N b O h)) (A7.mono y A1 N) (λi c hi=>by rw[lH (y b O A')];exact I i c hi)
 |fn f cap a V H _ ih=>exact .fn f cap a V H ih
 |uZ f cap a H _ ih=>exact .uZ f cap a H ih
 |bh vs a H _ ih=>exact .bh vs a H ih
 |jb t x v h=>exact .jb t x v (h.mono y A1 N)
 |lit v E=>exact .lit v E
 |nn a cap=>exact .nn a cap
 |err t v=>exact .err t v
inductive aE where
 |dead
 |box (cs:List AV)
 |vec (sz:Nat) (aq:List D)
 |vv (aq:List (List D)) (y:Option AV)
structure cL where
 key:Nat
 ar:Nat
 cont:aE
abbrev Mem:=List cL
def Mem.get:Mem->Nat->Option cL
 |[],_=>none
 |e::r,k=>if e.key=k then some e else Mem.get r k
def Mem.set:Mem->cL->Mem
 |[],_=>[]
 |e::r,x=>if e.key=x.key then x::r else e::Mem.set r x
def Mem.get_mem{m:Mem}{k e}(h:Mem.get m k=some e):e∈m/\e.key=k:=by
 induction m with
 |nil=>simp[Mem.get]at h
 |cons x r ih=>
  simp only[Mem.get]at h;split at h
  .simp_all
  .have:=ih h;simp_all
def Mem.get_of_mem{m:Mem}{e}(J:(m.map (·.key)).Nodup)(h:e∈m):Mem.get m e.key=some e:=by
 induction m with
 |nil=>simp at h
 |cons x r ih=>
  simp only[aaK,List.nodup_cons]at J;simp only[Mem.get];rcases aam.1 h with rfl|h
  .simp
  .have:x.key≠e.key:=λhe=>J.1 (by rw[he];exact abb h);simp[this,ih J.2 h]
def Mem.iM(m:Mem)(x:cL):(Mem.set m x).map (·.key)=m.map (·.key):=by
 induction m with
 |nil=>rfl
 |cons e r ih=>
  simp only[Mem.set];split
  .simp_all
  .simp[ih]
def Mem.mem_set{m:Mem}{x e:cL}(J:(m.map (·.key)).Nodup):e∈Mem.set m x↔(e=x/\x.key∈m.map (·.key))\/(e∈m/\e.key≠x.key):=by
 induction m with
 |nil=>simp[Mem.set]
 |cons y r ih=>
  simp only[aaK,List.nodup_cons]at J;simp only[Mem.set];split
  .rename_i N;constructor
   .intro h;rcases aam.1 h with rfl|h
    .left;simp[N]
    .right;refine⟨by simp[h],λhe=>J.1 ?_⟩;rw[N,<-he];exact abb h
   .rintro (⟨rfl,_⟩|⟨h,A'⟩)
    .simp
    .rcases aam.1 h with rfl|h
     .exact absurd N A'
     .simp[h]
  .rename_i N;simp only[aam,ih J.2,aaK];constructor
   .rintro (rfl|⟨rfl,h⟩|⟨h,A'⟩)
    .right;exact⟨.inl rfl,N⟩
    .left;exact⟨rfl,.inr h⟩
    .right;exact⟨.inr h,A'⟩
   .rintro (⟨rfl,h⟩|⟨h,A'⟩)
    .rcases h with h|h
     .exact absurd h.symm N
     .right;left;exact⟨rfl,h⟩
    .rcases h with rfl|h
     .left;rfl
     .right;right;exact⟨h,A'⟩
def Mem.qX{m:Mem}{x:cL}(h:x.key∈m.map (·.key)):Mem.get (Mem.set m x) x.key=some x:=by
 induction m with
 |nil=>simp at h
 |cons y r ih=>
  simp only[Mem.set];split
  .simp[Mem.get]
  .rename_i N;simp only[Mem.get,N,abc];exact ih (by simp only[aaK,aam]at h;rcases h with h|h;exact absurd h.symm N;exact h)
def Mem.qY{m:Mem}{x:cL}{k:Nat}(h:x.key≠k):Mem.get (Mem.set m x) k=Mem.get m k:=by
 induction m with
 |nil=>rfl
 |cons y r ih=>
  simp only[Mem.set];split
  .rename_i N;have:y.key≠k:=by rw[N];exact h
   simp[Mem.get,h,this]
  .simp only[Mem.get,ih]
def aE.dw(L:Loc):aE->Nat->Prop
 | .dead,_=>False
 | .box _,b=>L.dU=b
 | .vec _ _,b=>0<L.cap/\L.dU=b
 | .vv _ _,b=>(0<L.cap/\L.dU=b)\/some b∈L.ea
def jN(φ:cj)(m:Mem)(b:Nat):Prop:=∃e∈m,∃L,φ e.key=some L/\e.cont.dw L b
structure Fr where
 g:Nat->Prop
 dv:List Deferred
instance:CoeFun Fr (λ_=>Nat->Prop):=⟨Fr.g⟩
def Fo(G:Fr)(φ:cj)(m:Mem)(b:Nat):Prop:=G b\/jN φ m b
def fS(w:World)(b:Nat)(arr:Array Value)(elem:TypeId):Prop:=∃fr:Nat×Nat,w.heap[b]?=some (.cells arr elem fr)/\(fr=(0,0)\/arr.size<=fr.1)
def fS.same{w w':World}{b:Nat}{arr:Array Value}{elem:TypeId}(h:fS w b arr elem)(U:w'.heap[b]?=w.heap[b]?):fS w' b arr elem:=by
 obtain⟨fr,V,A0⟩:=h;exact⟨fr,by rw[U];exact V,A0⟩
def fS.lt{w:World}{b:Nat}{arr:Array Value}{elem:TypeId}(h:fS w b arr elem):b<w.heap.size:=by
 obtain⟨fr,V,A0⟩:=h;exact (aei.1 V).1
def fS.new{w:World}{b:Nat}{arr:Array Value}{elem:TypeId}(h:w.heap[b]?=some (.cells arr elem (0,0))):fS w b arr elem:=⟨(0,0),h,.inl rfl⟩
def Cp(w:World)(F:Nat->Prop)(v:Option Value)(xs:List D)(o:Option Nat):Prop:=
 match o with
 |none=>xs=[]/\∃a,v=some (.slice a 0 0)
 |some b=>∃(row:Array Value)(AJ:TypeId)(off cap:Nat),v=some (.slice (some ⟨b,off,none⟩) xs.length cap)/\0<cap/\xs.length<=cap/\off+cap<=row.size/\fS w b row AJ/\(∀u∈row,cR u=true)/\
  ∀(i:Nat)(d:D),xs[i]?=some d->d.size=1/\∃u,aP w F d u/\∀(j:Nat)(c:Value),u.cells[j]?=some c->row[off+i*1+j]?=some c
def Cp.mono{w w':World}{F F':Nat->Prop}{v xs o}(h:Cp w F v xs o)(A4:∀d u,d∈xs->aP w F d u->aP w' F' d u)
 (A5:∀b,o=some b->w'.heap[b]?=w.heap[b]?):Cp w' F' v xs o:=by
 cases o with
 |none=>exact h
 |some b=>
  obtain⟨row,AJ,off,cap,V,A0,A7,AB,AO,Aj,Ak⟩:=h;exact⟨row,AJ,off,cap,V,A0,A7,AB,AO.same (A5 b rfl),Aj,λj d AK=>let ⟨g1,u,g2,g3⟩:=Ak j d AK;⟨g1,u,A4 d u (aaz AK) g2,g3⟩⟩
def mf(φ:cj)(w:World)(F:Nat->Prop)(L:Loc)(aq:List (List D))(y:Option AV):Prop:=
 (L.sz=1/\aq.length+y.toList.length<=L.cap/\L.ea.length=aq.length)/\
  (∀(i j:Nat)(b:Nat),L.ea[i]?=some (some b)->L.ea[j]?=some (some b)->i=j)/\(∀b,some b∈L.ea->0<L.cap/\b≠L.dU)/\
  (0<L.cap->∃(arr:Array Value)(elem:TypeId),fS w L.dU arr elem/\arr.size=L.base+L.cap/\(∀v∈arr,cR v=true)/\
   (∀(i:Nat)(xs:List D)(o:Option Nat),aq[i]?=some xs->L.ea[i]?=some o->Cp w F arr[L.base+i]? xs o)/\
   ∀x,y=some x->∃v,arr[L.base+aq.length]?=some v/\aG φ w F x v)
def mf.mono{φ φ':cj}{w w':World}{F F':Nat->Prop}{L aq y}(f:AV->AV)(h:mf φ w F L aq y)
 (A4:∀xs∈aq,∀d∈xs,∀u,aP w F d u->aP w' F' d u) (AP:∀x,y=some x->∀v,aG φ w F x v->aG φ' w' F' (f x) v)
 (A5:∀b,((0<L.cap/\L.dU=b)\/some b∈L.ea)->w'.heap[b]?=w.heap[b]?):mf φ' w' F' L aq (y.map f):=by
 obtain⟨A1,V,A0,h⟩:=h;refine⟨by cases y<;>exact A1,V,A0,λM=>?_⟩;obtain⟨arr,elem,g1,g2,g3,g4,g5⟩:=h M;refine⟨arr,elem,g1.same (A5 _ (.inl ⟨M,rfl⟩)),g2,g3,λi xs o hi H=>(g4 i xs o hi H).mono (λd u hm=>A4 xs (aaz hi) d hm u) (λb e=>A5 b (.inr (by subst e;exact aaz H))),λx I=>?_⟩;cases y with
 |none=>cases I
 |some z=>
  cases I;obtain⟨v,q1,q2⟩:=g5 z rfl;exact⟨v,q1,AP z rfl v q2⟩
def mf.ajH{φ φ':cj}{w w':World}{F F':Nat->Prop}{L aq y}(h:mf φ w F L aq y)
 (A4:∀xs∈aq,∀d∈xs,∀u,aP w F d u->aP w' F' d u) (AP:∀x,y=some x->∀v,aG φ w F x v->aG φ' w' F' x v)
 (A5:∀b,((0<L.cap/\L.dU=b)\/some b∈L.ea)->w'.heap[b]?=w.heap[b]?):mf φ' w' F' L aq y:=by
 have:=h.mono id A4 AP A5;cases y<;>exact this
def mf.ar{φ w F L aq y}(h:mf φ w F L aq y)(v:Nat):mf φ w F {L with ar:=v} aq y:=h
def eQ(φ:cj)(w:World)(F:Nat->Prop)(L:Loc):aE->Prop
 | .dead=>True
 | .box cs=>(L.sz=1/\L.base=0/\L.cap=cs.length)/\∃(arr:Array Value)(elem:TypeId),fS w L.dU arr elem/\arr.size=cs.length/\(∀v∈arr,cR v=true)/\
  ∀(i:Nat)(c:AV)(v:Value),cs[i]?=some c->arr[i]?=some v->aG φ w F c v
 | .vec sz aq=>L.sz=sz/\aq.length<=L.cap/\(∀d∈aq,d.size=L.sz)/\(0<L.cap->∃(arr:Array Value)(elem:TypeId),fS w L.dU arr elem/\
  arr.size=L.base+L.cap*L.sz/\(∀v∈arr,cR v=true)/\
  ∀(i:Nat)(d:D),aq[i]?=some d->∃v,aP w F d v/\∀(j:Nat)(c:Value),v.cells[j]?=some c->arr[L.base+i*L.sz+j]?=some c)
 | .vv aq y=>mf φ w F L aq y
def adU(φ:cj)(w:World)(F:Nat->Prop)(e:cL):Prop:=∃L,φ e.key=some L/\L.ar=e.ar/\eQ φ w F L e.cont
def eQ.lt{φ w F L c b}(h:eQ φ w F L c)(H:c.dw L b):b<w.heap.size:=by
 cases c with
 |dead=>exact H.elim
 |box cs=>obtain⟨_,arr,elem,h,_⟩:=h;have:L.dU=b:=H;subst this;exact h.lt
 |vec sz aq=>obtain⟨M,rfl⟩:=H;obtain⟨_,_,_,h⟩:=h;obtain⟨arr,elem,h,_⟩:=h M;exact h.lt
 |vv aq y=>
  obtain⟨⟨_,_,Aw⟩,_,A7,h⟩:=h;rcases H with ⟨M,rfl⟩|H
  .obtain⟨arr,elem,h,_⟩:=h M;exact h.lt
  .obtain⟨i,hi⟩:=amS H;obtain⟨arr,elem,_,_,_,AO,_⟩:=h (A7 b H).1;have Ax:=(aai.1 hi).1;obtain⟨row,AJ,_,_,_,_,_,_,g,_⟩:=AO i (aq[i]'(by omega)) (some b) (by simp[show i<aq.length by omega]) hi
   exact g.lt
def eQ.mono{φ φ':cj}{w w':World}{F F':Nat->Prop}{L c}(h:eQ φ w F L c)(AX:φ.le φ')
 (O:∀b,b<w.heap.size->¬F b->w'.heap[b]?=w.heap[b]?) (U:w.heap.size<=w'.heap.size) (AC:∀b,b<w.heap.size->F' b->F b)
 (A5:∀b,c.dw L b->w'.heap[b]?=w.heap[b]?):eQ φ' w' F' L c:=by
 cases c with
 |dead=>trivial
 |box cs=>
  obtain⟨A1,arr,elem,V,A0,A7,AB⟩:=h;exact⟨A1,arr,elem,V.same (A5 _ rfl),A0,A7,λi c v M AD=>(AB i c v M AD).mono AX O U AC⟩
 |vec sz aq=>
  obtain⟨Al,A1,An,h⟩:=h;refine⟨Al,A1,An,λM=>?_⟩;obtain⟨arr,elem,V,A0,A7,AB⟩:=h M;exact⟨arr,elem,V.same (A5 _ ⟨M,rfl⟩),A0,A7,λi d A4=>let ⟨v,AD,AK⟩:=AB i d A4;⟨v,AD.mono O U AC,AK⟩⟩
 |vv aq y=>exact mf.ajH h (λ_ _ _ _ u hu=>hu.mono O U AC) (λx _ v I=>I.mono AX O U AC) A5
structure bF(φ:cj)(G:Fr)(m:Mem)(w:World):Prop where
 nodup:(m.map (·.key)).Nodup
 rZ:∀k L,φ k=some L->k∈m.map (·.key)
 gg:∀e∈m,adU φ w (Fo G φ m) e
 apart:∀e∈m,∀e'∈m,∀L L',φ e.key=some L->φ e'.key=some L'->(∃b,e.cont.dw L b/\e'.cont.dw L' b)->e.key=e'.key
 mg:∀b,jN φ m b->¬G b
 bound:∀b,G b->b<w.heap.size
def bF.G8{φ G m w}(h:bF φ G m w){b}(E:jN φ m b):b<w.heap.size:=by
 obtain⟨e,he,L,A9,H⟩:=E;obtain⟨L',AY,_,M⟩:=h.gg e he;rw[A9]at AY;cases AY;exact M.lt H
structure bj(φ:cj)(m:Mem)(w:World)(φ':cj)(m':Mem)(w':World):Prop where
 le:φ.le φ'
 Cq:∀b,b<w.heap.size->¬jN φ m b->w'.heap[b]?=w.heap[b]?
 own:∀b,b<w.heap.size->jN φ' m' b->jN φ m b
 size:w.heap.size<=w'.heap.size
 os:w'.os=w.os
 tape:w'.tape=w.tape
 output:w'.output=w.output
def bj.refl(φ m w):bj φ m w φ m w:=⟨cj.le_refl _,λ_ _ _=>rfl,λ_ _ h=>h,aak _,rfl,rfl,rfl⟩
def bj.trans{φ m w AZ A_ Aa Ab Ac Ad}(h:bj φ m w AZ A_ Aa)(k:bj AZ A_ Aa Ab Ac Ad):bj φ m w Ab Ac Ad where
 le:=cj.le_trans h.le k.le
 Cq:=λb E J=>by
  rw[k.Cq b (afO E h.size) (λV=>J (h.own b E V)),h.Cq b E J]
 own:=λb E J=>h.own b E (k.own b (afO E h.size) J)
 size:=ajf h.size k.size
 os:=k.os.trans h.os
 tape:=k.tape.trans h.tape
 output:=k.output.trans h.output
def bj.av{φ m w φ' m' w' G}(h:bj φ m w φ' m' w'){x v}(I:aG φ w (Fo G φ m) x v):aG φ' w' (Fo G φ' m') x v:=
 I.mono h.le (λb E J=>h.Cq b E (λH=>J (.inr H))) h.size (λb E=>Or.imp id (h.own b E))
def bF.dA{φ G m w w'}(h:bF φ G m w){e e':cL}(he:e∈m){L L':Loc}(A9:φ e.key=some L)(A6:e'.key=e.key)
 (Ao:L.ar<=L'.ar) (Ap:L'.ar=L.ar->L'={L with ea:=L'.ea})
 (AD:L'.ar=e'.ar)
 (hold:∀b,b<w.heap.size->¬e.cont.dw L b->w'.heap[b]?=w.heap[b]?) (U:w.heap.size<=w'.heap.size)
 (AQ:∀b,e'.cont.dw L' b->e.cont.dw L b\/w.heap.size<=b)
 (AR:w'.os=w.os) (Aq:w'.tape=w.tape) (Ar:w'.output=w.output)
 (M:∀φ':cj,φ'=(λk=>if k=e.key then some L' else φ k)->φ.le φ'->eQ φ' w' (Fo G φ' (Mem.set m e')) L' e'.cont):
 ∃φ',bF φ' G (Mem.set m e') w'/\bj φ m w φ' (Mem.set m e') w'/\φ' e.key=some L'/\∀k,k≠e.key->φ' k=φ k:=by
 have hle:φ.le (λk=>if k=e.key then some L' else φ k):=by
  intro k AS A1;by_cases O:k=e.key
  .subst O;rw[A9]at A1;cases A1;exact⟨L',by simp,Ao,Ap⟩
  .exact⟨AS,by simp[O,A1],aak _,λ_=>rfl⟩
 have Ay:e'.key∈m.map (·.key):=by rw[A6];exact abb he
 have AT:∀x∈m,x.key≠e.key->∀A2,φ x.key=some A2->∀b,x.cont.dw A2 b->e.cont.dw L b->False:=
  λx I A' A2 Z b A3 A8=>A' (h.apart x I e he A2 L Z A9 ⟨b,A3,A8⟩)
 have AU:∀b,b<w.heap.size->jN (λk=>if k=e.key then some L' else φ k) (Mem.set m e') b->jN φ m b:=by
  rintro b E ⟨x,I,A2,Z,A3⟩;rcases (Mem.mem_set h.nodup).1 I with ⟨rfl,_⟩|⟨AA,A'⟩
  .simp[A6]at Z;subst Z;rcases AQ b A3 with A8|Ae
   .exact⟨e,he,L,A9,A8⟩
   .omega
  .rw[A6]at A';simp[A']at Z;exact⟨x,AA,A2,Z,A3⟩
 have Af:∀b,b<w.heap.size->¬jN φ m b->w'.heap[b]?=w.heap[b]?:=λb E J=>
  hold b E λH=>J ⟨e,he,L,A9,H⟩
 refine⟨_,⟨by rw[Mem.iM];exact h.nodup,?_,?_,?_,?_,?_⟩,⟨hle,Af,AU,U,AR,Aq,Ar⟩,by simp,λk O=>by simp[O]⟩
 .intro k AS A1;rw[Mem.iM];by_cases O:k=e.key
  .subst O;exact abb he
  .simp[O]at A1;exact h.rZ k AS A1
 .intro x I;rcases (Mem.mem_set h.nodup).1 I with ⟨rfl,_⟩|⟨AA,A'⟩
  .exact⟨L',by simp[A6],AD,M _ rfl hle⟩
  .rw[A6]at A';obtain⟨A2,Z,As,AL⟩:=h.gg x AA;refine⟨A2,by simp[A',Z],As,AL.mono hle (λb E J=>Af b E (λH=>J (.inr H))) U (λb E=>Or.imp id (AU b E)) (λb A3=>?_)⟩;exact hold _ (AL.lt A3) (λA8=>AT x AA A' A2 Z b A3 A8)
 .rintro x I y N A2 Ag Z AE ⟨b,A3,AM⟩;rcases (Mem.mem_set h.nodup).1 I with ⟨rfl,_⟩|⟨AA,AG⟩<;>rcases (Mem.mem_set h.nodup).1 N with ⟨rfl,_⟩|⟨AW,AH⟩
  .rfl
  .rw[A6]at AH;simp[A6]at Z;subst Z;simp[AH]at AE;obtain⟨Az,Ah,_,At⟩:=h.gg y AW;rw[AE]at Ah;cases Ah;rcases AQ b A3 with A8|Ae
   .exact (AT y AW AH Ag AE b AM A8).elim
   .have:=At.lt AM;omega
  .rw[A6]at AG;simp[A6]at AE;subst AE;simp[AG]at Z;obtain⟨B',Ai,_,AL⟩:=h.gg x AA;rw[Z]at Ai;cases Ai;rcases AQ b AM with A8|Ae
   .exact (AT x AA AG A2 Z b A3 A8).elim
   .have:=AL.lt A3;omega
  .rw[A6]at AG AH;simp[AG]at Z;simp[AH]at AE;exact h.apart x AA y AW A2 Ag Z AE ⟨b,A3,AM⟩
 .intro b E AF;exact h.mg b (AU b (h.bound b AF) E) AF
 .intro b AF;exact afO (h.bound b AF) U
def bF.grow{φ G m w w'}(h:bF φ G m w)(hold:∀b,b<w.heap.size->w'.heap[b]?=w.heap[b]?)(U:w.heap.size<=w'.heap.size):bF φ G m w' where
 nodup:=h.nodup
 rZ:=h.rZ
 gg:=λe he=>by
  obtain⟨L,A9,AD,M⟩:=h.gg e he;exact⟨L,A9,AD,M.mono (cj.le_refl _) (λb E _=>hold b E) U (λ_ _ h=>h) (λb H=>hold _ (M.lt H))⟩
 apart:=h.apart
 mg:=h.mg
 bound:=λb AF=>afO (h.bound b AF) U
def bj.grow{φ m w w'}(hold:∀b,b<w.heap.size->w'.heap[b]?=w.heap[b]?)(U:w.heap.size<=w'.heap.size)(AR:w'.os=w.os)(AI:w'.tape=w.tape)(H:w'.output=w.output):bj φ m w φ m w':=
 ⟨cj.le_refl _,λb E _=>hold b E,λ_ _ h=>h,U,AR,AI,H⟩
abbrev Env:=List (Nat×Bool×AV)
def Env.lk:Env->Nat->Option (Bool×AV)
 |[],_=>none
 |(t,x)::r,u=>if t=u then some x else Env.lk r u
structure St where
 n:Nat
 gl:List (Nat×D)
 env:Env
 mem:Mem
def fG(w:World)(F:Nat->Prop)(gl:List (Nat×D)):Prop:=
 ∀x∈gl,(x.1<w.heap.size/\∀cs,x.2=.agg cs->∃cur e Au,w.heap[x.1]?=some (.cells cur e Au)/\cur.size=cs.length)/\¬F x.1/\∃AN,aP w F x.2 AN/\∀(i:Nat)(c:Value),AN.cells[i]?=some c->w.cell? ⟨x.1,i,none⟩=some c
def fG.mono{w w':World}{F F':Nat->Prop}{gl}(h:fG w F gl)(O:∀b,b<w.heap.size->¬F b->w'.heap[b]?=w.heap[b]?)(U:w.heap.size<=w'.heap.size)
 (AC:∀b,b<w.heap.size->F' b->F b):fG w' F' gl:=λx I=>by
 obtain⟨⟨V,A1⟩,A0,AN,A7,AB⟩:=h x I;exact⟨⟨by omega,by rw[O _ V A0];exact A1⟩,λAv=>A0 (AC _ V Av),AN,A7.mono O U AC,λi c M=>by rw[lH (O _ V A0)];exact AB i c M⟩
def bj.mh{φ m w φ' m' w' G gl}(h:bj φ m w φ' m' w')(I:fG w (Fo G φ m) gl):fG w' (Fo G φ' m') gl:=
 I.mono (λb E J=>h.Cq b E (λH=>J (.inr H))) h.size (λb E=>Or.imp id (h.own b E))
structure Rel(φ:cj)(G:Fr)(S:St)(a:Act)(w:World):Prop where
 size:a.tmps.size=S.n
 defers:a.defers=G.dv
 env:∀t x,Env.lk S.env t=some (true,x)->aG φ w (Fo G φ S.mem) x (a.tmps.getD t undef)
 mem:bF φ G S.mem w
 mh:fG w (Fo G φ S.mem) S.gl
def St.put(S:St)(d:Option Nat)(g:Bool)(x:AV):St:=
 match d with
 |some d=>{S with env:=(d,g,x)::S.env}
 |none=>S
def Rel.put{φ G S a w}(h:Rel φ G S a w)(d:Option Nat)(A4:∀t,d=some t->t<S.n)(g:Bool)(x:AV)(v:Value)
 (I:g=true->aG φ w (Fo G φ S.mem) x v):Rel φ G (S.put d g x) (a.put d v) w:=by
 cases d with
 |none=>exact h
 |some d=>
  have A4:=A4 d rfl;refine⟨by simp[Act.put,St.put,h.size],by simp[Act.put,h.defers],?_,h.mem,h.mh⟩;intro t y N;simp only[St.put,Env.lk]at N;by_cases AI:d=t
  .subst AI;simp only[ad1,aaT,abn]at N;obtain⟨rfl,rfl⟩:=N;have:d<a.tmps.size:=by rw[h.size];exact A4
   have e:(a.put (some d) v).tmps.getD d undef=v:=by simp[Act.put,this]
   rw[e];exact I rfl
  .simp only[AI,abc]at N;have e:(a.put (some d) v).tmps.getD t undef=a.tmps.getD t undef:=by simp[Act.put,AI]
   rw[e];exact h.env t y N
def Rel.Ct{φ G S a w φ' m' w'}(h:Rel φ G S a w)(hm:bF φ' G m' w')(O:bj φ S.mem w φ' m' w'):Rel φ' G {S with mem:=m'} a w':=
 ⟨h.size,h.defers,λt x I=>O.av (h.env t x I),hm,O.mh h.mh⟩
def qi{v:Value}(h:cR v=true):v.oneCell'=true:=by cases v<;>simp_all [cR,Value.oneCell']
inductive TK where
 |int (k:IntKind)
 |bool
 |str
 |slice (e:TypeId)
 |arr (n:Nat) (e:TypeId)
 |struct
 |iface
 |ptr (e:TypeId)
 |func
 |other
 deriving DecidableEq
def tk(P:Program)(t:TypeId):TK:=
 match P.underlying t with
 |some (.int k)=>.int k
 |some .bool=>.bool
 |some .string=>.str
 |some (.slice e)=>.slice e
 |some (.array n e)=>.arr n e
 |some (.struct _)=>.struct
 |some (.interface _)=>.iface
 |some (.pointer e)=>.ptr e
 |some (.func _ _ _)=>.func
 |_=>.other
def fW(P:Program)(t:TypeId):Option Nat:=(P.info? t).map (·.size)
def AO(P:Program)(s:TypeId)(f:Nat):Option Nat:=
 match P.underlying s with
 |some (.struct fs)=>match fs[f]? with
  |some fl=>match P.info? fl.type with
   |some i=>if i.size=0 then none else some fl.offset
   |none=>none
  |none=>none
 |_=>none
def TK.agg:TK->Bool
 | .arr _ _=>true
 | .struct=>true
 |_=>false
def tT{P:Program}{t:TypeId}{w:World}(h:tk P t≠.other):(isAgg t).run P w=.ok (tk P t).agg w:=by
 unfold isAgg;cases hu:P.underlying t with
 |none=>simp[tk,hu]at h
 |some d=>
  rw[Sem.run_bind,run_underlying hu];cases d<;>simp_all [tk,TK.agg]
def run_sizeOf{P:Program}{t:TypeId}{n:Nat}{w:World}(h:fW P t=some n):(sizeOf t).run P w=.ok n w:=by
 unfold fW at h;cases hi:P.info? t with
 |none=>simp[hi]at h
 |some i=>simp[hi]at h;simp[sizeOf,typeInfo,hi,h]
def gq(b o j:Nat):(⟨b,o,none⟩:Addr).add j=⟨b,o+j,none⟩:=by unfold Addr.add;split<;>simp_all
def xH{P:Program}{t:TypeId}{w:World}{a:Addr}{v:Value}(AI:(tk P t).agg=false)(AJ:tk P t≠.other)(I:w.cell? a=some v):
 (Instr.loadAt t (.pointer (some a))).run P w=.ok v w:=by
 simp[Instr.loadAt,Instr.sureAddr,loadVar,Sem.run_bind,tT AJ,AI,load,Sem.run,I]
def xI{P:Program}{t:TypeId}{w:World}{b o:Nat}{vs:List Value}(AI:(tk P t).agg=true)(AY:fW P t=some vs.length)
 (I:∀j v,vs[j]?=some v->w.cell? ⟨b,o+j,none⟩=some v):
 (Instr.loadAt t (.pointer (some ⟨b,o,none⟩))).run P w=.ok (.agg vs.toArray) w:=by
 have AJ:tk P t≠.other:=by intro h;rw[h]at AI;cases AI
 have U:=run_loadCells_list (P:=P) w ⟨b,o,none⟩ vs (λj v h=>by rw[gq];exact I j v h);simp[Instr.loadAt,Instr.sureAddr,loadVar,Sem.run_bind,tT AJ,AI,run_sizeOf AY,U]
def kW{P:Program}(g o:Nat)(t:TypeId)(A6:Nat×Nat):∀(vs:List Value)(i:Nat)(cur:Array Value)(w:World),w.heap[g]?=some (.cells cur t A6)->(A6=(0,0)\/cur.size<=A6.1)->o+i+vs.length<=cur.size->(∀v∈vs,v.oneCell'=true)->
 (storeCells ⟨g,o,none⟩ vs i).run P w=.ok () (w.setRow g (cur.toList.take (o+i)++vs++cur.toList.drop (o+i+vs.length)).toArray)
 |[],i,cur,w,V,_,_,_=>by
  simp only[storeCells,aee,aay,aeG,amL,amT];rw[setRow_self w g cur t A6 V];rfl
 |v::rest,i,cur,w,V,AS,U,H=>by
  have hi:o+i<cur.size:=by simp at U;omega
  have Aj:(⟨g,o,none⟩:Addr).add i=⟨g,o+i,none⟩:=by unfold Addr.add;split<;>simp_all
  have Ak:w.cell? ⟨g,o+i,none⟩=some cur[o+i]:=by simp[World.cell?,V,hi]
  have Al:w.frozen? ⟨g,o+i,none⟩=false:=by
   obtain⟨lo,AF⟩:=A6;simp only[World.frozen?,V,Bool.and_eq_false_iff,aeA];rcases AS with h|h
   .cases h;omega
   .simp only at h;omega
  have An:(store ((⟨g,o,none⟩:Addr).add i) v).run P w=.ok () (w.setRow g (cur.setIfInBounds (o+i) v)):=by
   rw[Aj,run_store P w _ v _ (H v (by simp)),Ak];simp[Al,setCell_eq_setRow w g (o+i) cur t A6 v V]
  have ih:=kW (P:=P) g o t A6 rest (i+1) (cur.setIfInBounds (o+i) v) (w.setRow g (cur.setIfInBounds (o+i) v)) (setRow_heap w g cur _ t _ V) (by simpa using AS) (by simp at U⊢;omega) (λx N=>H x (by simp[N]));simp only[storeCells,Sem.run_bind,An,Result.andThen_ok,ih,setRow_setRow];congr 3;have e:=list_seg_step cur.toList (o+i) v rest (by simp at U⊢;omega);simpa [Array.toList_setIfInBounds,aaX]using e
def Qe{P:Program}{t:TypeId}{w:World}{b o:Nat}{arr:Array Value}{elem:TypeId}{v:Value}(AY:fW P t=some v.cells.size)
 (V:fS w b arr elem) (U:o+v.cells.size<=arr.size) (H:∀x∈v.cells,cR x=true):
 (Instr.storeAt t (.pointer (some ⟨b,o,none⟩)) v).run P w=.ok () (w.setRow b (arr.toList.take o++v.cells.toList++arr.toList.drop (o+v.cells.size)).toArray):=by
 obtain⟨A6,V,AS⟩:=V;have h:=kW (P:=P) b o elem A6 v.cells.toList 0 arr w V AS (by simpa using U) (λx N=>qi (H x (by simpa using N)));simp only[aeG,aa5]at h;simp[Instr.storeAt,Instr.sureAddr,storeVar,Sem.run_bind,run_sizeOf AY,h]
def D.cells:D->List D
 | .agg cs=>cs
 |x=>[x]
def D.at(xs:List D)(i:Nat):D:=xs[i]?.getD (.bool false)
def D.cell(x:D)(j:Nat):D:=x.cells[j]?.getD (.bool false)
def toD1:AV->Option D
 | .d x=>some x
 | .lit (.slice none 0 0)=>some (.list [])
 | .nn=>some (.list [])
 |_=>none
def toDs:List AV->Option (List D)
 |[]=>some []
 |x::r=>match x,toDs r with
  | .d y,some AK=>some (y::AK)
  |_,_=>none
def toDsN:List AV->Option (List D)
 |[]=>some []
 |x::r=>match toD1 x,toDsN r with
  |some y,some AK=>some (y::AK)
  |_,_=>none
def Ec(cs:List AV):AV:=match toDs cs with|some Z=>.d (.agg Z)|none=>.agg cs
def AV.norm:AV->AV
 | .agg cs=>match toDsN cs with|some Z=>.d (.agg Z)|none=>.agg cs
 | .lit (.slice none 0 0)=>.d (.list [])
 | .nn=>.d (.list [])
 |x=>x
def AV.cells:AV->List AV
 | .agg cs=>cs
 | .d (.agg Z)=>Z.map .d
 |x=>[x]
def D.hZ(x:D):x.cells.length=x.size:=by cases x<;>rfl
def Sy{w:World}{F:Nat->Prop}{x:D}{v:Value}(A2:x.flat=true)(h:aP w F x v)(N:x.cells=[x])(M:v.cells=#[v]):
 v.cells.toList.length=x.cells.length/\(∀u∈v.cells,cR u=true)/\∀(i:Nat)(c:D)(u:Value),x.cells[i]?=some c->v.cells[i]?=some u->aP w F c u/\c.flat=true:=by
 rw[N,M];refine⟨rfl,λu hu=>by simp at hu;subst hu;exact h.one A2,λi c u H E=>?_⟩;cases i with
 |zero=>simp at H E;subst H;subst E;exact⟨h,A2⟩
 |succ i=>simp at H
def aP.cells{w F x v}(h:aP w F x v):v.cells.toList.length=x.cells.length/\(∀u∈v.cells,cR u=true)/\∀(i:Nat)(c:D)(u:Value),x.cells[i]?=some c->v.cells[i]?=some u->aP w F c u/\c.flat=true:=by
 cases AG:x with
 |agg cs=>
  subst AG;cases h with
  |agg cs a U A2 I=>
   refine⟨by simp[D.cells,Value.cells,U],?_,λi c u H E=>⟨I i c u H E,A2 c (aaz H)⟩⟩;intro u hu;have hu:u∈a:=hu;obtain⟨i,hi,rfl⟩:=Array.mem_iff_getElem.1 hu;have AF:i<cs.length:=by rw[U];exact hi
   exact (I i cs[i] a[i] (by simp[AF]) (by simp[hi])).one (A2 _ (aec AF))
 |_=>subst AG;exact Sy rfl h rfl (eP (h.one rfl))
def aP.qv{w F}{cs:List D}{vs:List Value}(U:cs.length=vs.length)(H:∀v∈vs,cR v=true)
 (I:∀(i:Nat) c v,cs[i]?=some c->vs[i]?=some v->aP w F c v):aP w F (.agg cs) (.agg vs.toArray):=by
 refine .agg cs vs.toArray (by simpa using U) ?_ (λi d v h AL=>I i d v h (by simpa using AL));intro d AG;obtain⟨i,hi,rfl⟩:=amQ.1 AG;have AF:i<vs.length:=by omega
 have A4:=I i cs[i] vs[i] (by simp[hi]) (by simp[AF]);have E:=H vs[i] (aec AF);revert A4 E
 generalize vs[i]=v;generalize cs[i]=c;intro A4 E;cases A4<;>simp_all [D.flat,cR]
def toDs_rel{φ w F}:∀{cs:List AV}{Z:List D}{vs:List Value},toDs cs=some Z->(∀(i:Nat) c v,cs[i]?=some c->vs[i]?=some v->aG φ w F c v)->
 cs.length=Z.length/\∀(i:Nat) d v,Z[i]?=some d->vs[i]?=some v->aP w F d v
 |[],Z,vs,h,_=>by simp[toDs]at h;subst h;simp
 |x::r,Z,vs,h,I=>by
  simp only[toDs]at h;split at h<;>simp at h;rename_i y AK AB;subst h;cases vs with
  |nil=>
   have ih:=toDs_rel (φ:=φ) (w:=w) (F:=F) (vs:=[]) AB (λi c v _ E=>by simp at E);exact⟨by simp[ih.1],λi d v _ E=>by simp at E⟩
  |cons v0 vs=>
   have ih:=toDs_rel (vs:=vs) AB (λi c v H E=>I (i+1) c v (by simpa using H) (by simpa using E));refine⟨by simp[ih.1],λi d v H E=>?_⟩;cases i with
   |zero=>
    simp at H E;subst H;subst E;have:=I 0 (.d y) v0 (by simp) (by simp);cases this with|d _ _ h=>exact h
   |succ i=>exact ih.2 i d v (by simpa using H) (by simpa using E)
def toD1_rel{φ w F x d v}(h:toD1 x=some d)(N:aG φ w F x v):aP w F d v:=by
 unfold toD1 at h;split at h<;>simp at h
 .subst h;cases N with|d _ _ h=>exact h
 .subst h;cases N;exact .nil none 0 λ_=>rfl
 .subst h;cases N;exact .nil _ _ (by simp)
def toDsN_rel{φ w F}:∀{cs:List AV}{Z:List D}{vs:List Value},toDsN cs=some Z->(∀(i:Nat) c v,cs[i]?=some c->vs[i]?=some v->aG φ w F c v)->
 cs.length=Z.length/\∀(i:Nat) d v,Z[i]?=some d->vs[i]?=some v->aP w F d v
 |[],Z,vs,h,_=>by simp[toDsN]at h;subst h;simp
 |x::r,Z,vs,h,I=>by
  simp only[toDsN]at h;split at h<;>simp at h;rename_i y AK N AB;subst h;cases vs with
  |nil=>
   have ih:=toDsN_rel (φ:=φ) (w:=w) (F:=F) (vs:=[]) AB (λi c v _ E=>by simp at E);exact⟨by simp[ih.1],λi d v _ E=>by simp at E⟩
  |cons v0 vs=>
   have ih:=toDsN_rel (vs:=vs) AB (λi c v H E=>I (i+1) c v (by simpa using H) (by simpa using E));refine⟨by simp[ih.1],λi d v H E=>?_⟩;cases i with
   |zero=>
    simp at H E;subst H;subst E;exact toD1_rel N (I 0 x v0 (by simp) (by simp))
   |succ i=>exact ih.2 i d v (by simpa using H) (by simpa using E)
def Cu{φ w F}{cs:List AV}{vs:List Value}(U:cs.length=vs.length)(H:∀v∈vs,cR v=true)
 (I:∀(i:Nat) c v,cs[i]?=some c->vs[i]?=some v->aG φ w F c v):aG φ w F (Ec cs) (.agg vs.toArray):=by
 unfold Ec;split
 .rename_i Z AZ;have:=toDs_rel AZ I;exact .d _ _ (.qv (by omega) H this.2)
 .exact .agg cs vs.toArray (by simpa using U) (λv M=>H v (by simpa using M)) (λi c v h AL=>I i c v h (by simpa using AL))
def aG.norm{φ w F x v}(h:aG φ w F x v):aG φ w F x.norm v:=by
 unfold AV.norm;split
 .rename_i cs;split
  .rename_i Z AZ;cases h with
   |agg _ a U H I=>
    have:=toDsN_rel (vs:=a.toList) AZ (λi c v h AL=>I i c v h (by simpa using AL));have E:=aP.qv (w:=w) (F:=F) (cs:=Z) (vs:=a.toList) (by simp;omega) (λv M=>H v (by simpa using M)) this.2;rw[amT]at E;exact .d _ _ E
  .exact h
 .cases h;exact .d _ _ (.nil none 0 λ_=>rfl)
 .cases h;exact .d _ _ (.nil _ _ (by simp))
 .exact h
def aG.cells{φ w F x v}(h:aG φ w F x v)(H:∀u∈v.cells,cR u=true)(U:v.cells.size=x.cells.length):
 ∀(i:Nat) c u,x.cells[i]?=some c->v.cells[i]?=some u->aG φ w F c u:=by
 cases h with
 |agg cs a U H I=>exact λi c u J hu=>I i c u J hu
 |d x v h=>
  intro i c u J hu;have:=h.cells;cases x with
  |agg cs=>
   simp only[AV.cells,aaV,aap]at J;obtain⟨y,AB,rfl⟩:=J;exact .d _ _ (this.2.2 i y u AB hu).1
  |_=>
   simp only[AV.cells]at J;cases i with
   |zero=>simp at J;subst J;exact .d _ _ (this.2.2 0 _ u rfl hu).1
   |succ i=>simp at J
 |bC v=>
  intro i c u J hu;cases i with
  |zero=>simp[AV.cells]at J;subst J;exact .bC _
  |succ i=>simp[AV.cells]at J
 |ptr k ar off v L A' M h E=>
  intro i c u J hu;rw[eP E]at hu;cases i with
  |zero=>simp[AV.cells]at J hu;subst J;subst hu;exact .ptr k ar off v L A' M h E
  |succ i=>simp[AV.cells]at J
 |vec k ar off len v L A' M h E=>
  intro i c u J hu;rw[eP E]at hu;cases i with
  |zero=>simp[AV.cells]at J hu;subst J;subst hu;exact .vec k ar off len v L A' M h E
  |succ i=>simp[AV.cells]at J
 |df k ar p j v L A' M h E=>
  intro i c u J hu;rw[eP E]at hu;cases i with
  |zero=>simp[AV.cells]at J hu;subst J;subst hu;exact .df k ar p j v L A' M h E
  |succ i=>simp[AV.cells]at J
 |eA x j b off A3 AT AU N I=>
  intro i c u J hu;cases i with
  |zero=>simp[AV.cells,Value.cells]at J hu;subst J;subst hu;exact .eA x j b off A3 AT AU N I
  |succ i=>simp[AV.cells]at J
 |fn f cap a A2 A_ I=>
  intro i c u J hu;cases i with
  |zero=>simp[AV.cells,Value.cells]at J hu;subst J;subst hu;exact .fn f cap a A2 A_ I
  |succ i=>simp[AV.cells]at J
 |uZ f cap a A_ I=>
  intro i c u J hu;cases i with
  |zero=>simp[AV.cells,Value.cells]at J hu;subst J;subst hu;exact .uZ f cap a A_ I
  |succ i=>simp[AV.cells]at J
 |bh vs a U I=>
  have:=H (.tuple a) (by simp[Value.cells]);simp[cR]at this
 |jb t x v h=>
  intro i c u J hu;cases i with
  |zero=>simp[AV.cells,Value.cells]at J hu;subst J;subst hu;exact .jb t x v h
  |succ i=>simp[AV.cells]at J
 |lit v E=>
  intro i c u J hu;rw[eP E]at hu;cases i with
  |zero=>simp[AV.cells]at J hu;subst J;subst hu;exact .lit _ E
  |succ i=>simp[AV.cells]at J
 |nn a cap=>
  intro i c u J hu;cases i with
  |zero=>simp[AV.cells,Value.cells]at J hu;subst J;subst hu;exact .nn a cap
  |succ i=>simp[AV.cells]at J
 |err t v=>
  intro i c u J hu;cases i with
  |zero=>simp[AV.cells,Value.cells]at J hu;subst J;subst hu;exact .err t v
  |succ i=>simp[AV.cells]at J
def oQ:Value->AV
 | .int k n=>.d (.int k n)
 | .bool b=>.d (.bool b)
 | .string s=>.d (.str s.data.toList)
 | .agg _=>.bC
 | .tuple _=>.bC
 |v=>.lit v
def E4(φ w F v):aG φ w F (oQ v) v:=by
 cases v<;>first|exact .d _ _ (.int _ _)|exact .d _ _ (.bool _)|exact .d _ _ (.str _ _ rfl)|exact .bC _|exact .lit _ rfl
def J6:List (Nat×D)->Nat->Option D
 |[],_=>none
 |(g,d)::r,k=>if g=k then some d else J6 r k
def QL:∀{l:List (Nat×D)}{g d},J6 l g=some d->(g,d)∈l
 |[],g,d,h=>by simp[J6]at h
 |(Ar,As)::r,g,d,h=>by
  simp only[J6]at h;split at h
  .rename_i V;subst V;cases h;simp
  .have:=QL h;simp[this]
def St.au(S:St):Operand->Bool×AV
 | .tmp t=>(Env.lk S.env t).getD (true,.bC)
 | .const v=>(true,oQ v)
 | .global g=>match J6 S.gl g with
  |some d=>(true,.eA d 0)
  |none=>(true,.lit (.pointer (some ⟨g,0,none⟩)))
 | .func f=>(decide (f<uY),.fn f [])
def Rel.au{φ G S a w}(h:Rel φ G S a w)(x:Operand)(N:(S.au x).1=true):aG φ w (Fo G φ S.mem) (S.au x).2 (a.eval x):=by
 cases x with
 |tmp t=>
  simp only[St.au]at N⊢;cases U:Env.lk S.env t with
  |none=>exact .bC _
  |some y=>
   obtain⟨g,x⟩:=y;rw[U]at N;simp only[aeX]at N⊢;subst N;exact h.env t x U
 |const v=>exact E4 ..
 |global g=>
  simp only[St.au]at N⊢;split
  .rename_i d AG;obtain⟨⟨H,_⟩,E,A3,A4,Ao⟩:=h.mh _ (QL AG);have e:a.eval (.global g)=.pointer (some ⟨g,0+0,none⟩):=rfl;rw[e];exact .eA d 0 g 0 A3 H E A4 (λi c hi=>by simpa using Ao i c hi)
  .exact .lit _ rfl
 |func f=>exact .fn f [] #[] (by simpa [St.au]using N) rfl (by simp)
inductive dO where
 |no
 |val (c:Bool) (x:AV)
 |dA (c:Bool) (x:AV) (e:cL)
def Hb(P:Program)(o:Oper)(a:Act)(w:World)(v:Value)(w':World):Prop:=
 (execOp a.eval o).run P w=.ok (.value v) w'\/((execOp a.eval o).run P w=.ok .skip w'/\v=undef)
def aL(P:Program)(S:St)(o:Oper):dO->Prop
 | .no=>True
 | .val c x=>c=true->∀φ G a w,Rel φ G S a w->∃v w',Hb P o a w v w'/\aG φ w' (Fo G φ S.mem) x v/\
  (∀b,b<w.heap.size->w'.heap[b]?=w.heap[b]?)/\w.heap.size<=w'.heap.size/\w'.os=w.os/\w'.tape=w.tape/\w'.output=w.output
 | .dA c x e=>c=true->∀φ G a w,Rel φ G S a w->∃v w' φ',Hb P o a w v w'/\aG φ' w' (Fo G φ' (Mem.set S.mem e)) x v/\
  bF φ' G (Mem.set S.mem e) w'/\bj φ S.mem w φ' (Mem.set S.mem e) w'/\∀k,k≠e.key->φ' k=φ k
def aL.pure{P S o x}{c:Prop}[Decidable c](h:c->∀φ G a w,Rel φ G S a w->∃v,(execOp a.eval o).run P w=.ok (.value v) w/\aG φ w (Fo G φ S.mem) x v):aL P S o (.val (decide c) x):=by
 intro I φ G a w O;obtain⟨v,H,E⟩:=h (aa6 I) φ G a w O;exact⟨v,w,.inl H,E,λ_ _=>rfl,aak _,rfl,rfl,rfl⟩
def aL.uM{P S o x e}{c:Prop}[Decidable c](h:c->∀φ G a w,Rel φ G S a w->∃v w' φ',Hb P o a w v w'/\aG φ' w' (Fo G φ' (Mem.set S.mem e)) x v/\
 bF φ' G (Mem.set S.mem e) w'/\bj φ S.mem w φ' (Mem.set S.mem e) w'/\∀k,k≠e.key->φ' k=φ k):aL P S o (.dA (decide c) x e):=λI=>h (aa6 I)
def aL.anM{P S o x}{c:Prop}[Decidable c](h:c->∀φ G a w,Rel φ G S a w->∃v w',Hb P o a w v w'/\aG φ w' (Fo G φ S.mem) x v/\
 (∀b,b<w.heap.size->w'.heap[b]?=w.heap[b]?)/\w.heap.size<=w'.heap.size/\w'.os=w.os/\w'.tape=w.tape/\w'.output=w.output):aL P S o (.val (decide c) x):=λI=>h (aa6 I)
def aL.tw{P S o x}{c:Bool}(h:c=true->∀φ G a w,Rel φ G S a w->∃v,(execOp a.eval o).run P w=.ok (.value v) w/\aG φ w (Fo G φ S.mem) x v):aL P S o (.val c x):=by
 intro I φ G a w O;obtain⟨v,H,E⟩:=h I φ G a w O;exact⟨v,w,.inl H,E,λ_ _=>rfl,aak _,rfl,rfl,rfl⟩
def mi(P:Program)(S:St)(o:Oper):dO->Prop
 | .no=>True
 | .val c x=>c=true->∀φ G a w,Rel φ G S a w->∃v,(execOp a.eval o).run P w=.ok (.value v) w/\aG φ w (Fo G φ S.mem) x v
 | .dA _ _ _=>False
def mi.of{P S o x}{c:Prop}[Decidable c](h:c->∀φ G a w,Rel φ G S a w->∃v,(execOp a.eval o).run P w=.ok (.value v) w/\aG φ w (Fo G φ S.mem) x v):mi P S o (.val (decide c) x):=λI=>h (aa6 I)
def mi.res{P S o r}(h:mi P S o r):aL P S o r:=by
 cases r with
 |no=>trivial
 |val c x=>
  intro I φ G a w O;obtain⟨v,H,E⟩:=h I φ G a w O;exact⟨v,w,.inl H,E,λ_ _=>rfl,aak _,rfl,rfl,rfl⟩
 |dA c x e=>exact h.elim
def nQ(P:Program)(m:Mem)(t:TypeId)(p:AV):dO:=
 match p with
 | .ptr k ar off=>match Mem.get m k with
  |some ⟨_,v,.box cs⟩=>match (tk P t).agg with
   |true=>match fW P t with
    |some n=>.val (v=ar/\off+n<=cs.length) (Ec ((cs.drop off).take n))
    |none=>.no
   |false=>.val (v=ar/\tk P t≠.other/\off<cs.length) (cs[off]?.getD .bC)
  |_=>.no
 | .df k ar i j=>match Mem.get m k with
  |some ⟨_,v,.vec sz aq⟩=>match (tk P t).agg with
   |true=>.val (v=ar/\i<aq.length/\fW P t=some sz/\j=0/\(D.at aq i).flat=false) (.d (D.at aq i))
   |false=>.val (v=ar/\tk P t≠.other/\i<aq.length/\j<sz) (.d (D.cell (D.at aq i) j))
  |some ⟨_,v,.vv aq (some y)⟩=>match (tk P t).agg with
   |true=>.no
   |false=>.val (v=ar/\tk P t≠.other/\i=aq.length/\j=0) y
  |_=>.no
 | .eA x j=>match (tk P t).agg with
  |true=>match j with
   |0=>.val (fW P t=some x.size/\x.flat=false) (.d x)
   |j=>match fW P t with
    |some n=>.val (j+n<=x.size) (.d (.agg ((x.cells.drop j).take n)))
    |none=>.no
  |false=>.val (tk P t≠.other/\j<x.size) (.d (x.cell j))
 |_=>.no
def bF.get{φ G m w}(h:bF φ G m w){k e}(V:Mem.get m k=some e):e∈m/\e.key=k/\∃L,φ k=some L/\L.ar=e.ar/\eQ φ w (Fo G φ m) L e.cont:=by
 obtain⟨hm,AC⟩:=Mem.get_mem V;obtain⟨L,H,E,A4⟩:=h.gg e hm;rw[AC]at H;exact⟨hm,AC,L,H,E,A4⟩
def aG.tU{φ w F k ar off v L}(h:aG φ w F (.ptr k ar off) v)(A':φ k=some L)(M:L.ar=ar):v=.pointer (some ⟨L.dU,off,none⟩):=by
 cases h with|ptr _ _ _ _ L' AM _ h _=>rw[A']at AM;cases AM;exact h M.symm
def aG.mj{φ w F k ar i j v L}(h:aG φ w F (.df k ar i j) v)(A':φ k=some L)(M:L.ar=ar):v=.pointer (some ⟨L.dU,L.base+i*L.sz+j,none⟩):=by
 cases h with|df _ _ _ _ _ L' AM _ h _=>rw[A']at AM;cases AM;exact h M.symm
def J7{w:World}{b:Nat}{arr:Array Value}{e:TypeId}{fr}(h:w.heap[b]?=some (.cells arr e fr))(o:Nat):w.cell? ⟨b,o,none⟩=arr[o]?:=by
 simp[World.cell?,h]
def iN{w:World}{b:Nat}{arr:Array Value}{e:TypeId}(h:fS w b arr e)(o:Nat):w.cell? ⟨b,o,none⟩=arr[o]?:=by
 obtain⟨fr,h,_⟩:=h;exact J7 h o
def kV{xs:List D}{i:Nat}(h:i<xs.length):xs[i]?=some (D.at xs i):=by simp[D.at,h]
def yO{w F x v}(h:aP w F x v)(A2:x.flat=false):∃arr,v=.agg arr:=by
 cases h<;>simp_all [D.flat]
def QM(P:Program)(S:St)(o:Oper)(t:TypeId)(x:Operand)(AJ:o.op=.load t x)(N:(S.au x).1=true):mi P S o (nQ P S.mem t (S.au x).2):=by
 have A9:∀(a:Act)(w:World)(v:Value),(Instr.loadAt t (a.eval x)).run P w=.ok v w->(execOp a.eval o).run P w=.ok (.value v) w:=by
  intro a w v h;simp[execOp,AJ,h]
 unfold nQ;split
 .rename_i k ar off A5;split
  .rename_i key v cs V;split
   .rename_i A0;split
    .rename_i n Aa;refine mi.of ?_;rintro ⟨rfl,hle⟩ φ G a w O;have M:=O.au x N;rw[A5]at M;obtain⟨hm,AC,L,A',A7,_,arr,elem,hh,AW,H,A8⟩:=O.mem.get V;have e:=M.tU A' A7;have AN:((arr.toList.drop off).take n).length=n:=by simp;omega
     refine⟨.agg ((arr.toList.drop off).take n).toArray,A9 a w _ ?_,?_⟩
     .rw[e];refine xI A0 (by rw[AN];exact Aa) (λj v A1=>?_);rw[iN hh];rw[aaM]at A1;split at A1
      .simpa using A1
      .cases A1
     .refine Cu (by rw[AN];simp;omega) (λv M=>H v ?_) (λi c v I M=>?_)
      .have:=abf M;simpa using abe this
      .rw[aaM]at I M;split at I
       .rename_i hi;simp only[hi,ad1]at M;exact A8 (off+i) c v (by simpa using I) (by simpa using M)
       .cases I
    .trivial
   .rename_i A0;refine mi.of ?_;rintro ⟨rfl,AD,AE⟩ φ G a w O;have M:=O.au x N;rw[A5]at M;obtain⟨hm,AC,L,A',A7,_,arr,elem,hh,AW,H,A8⟩:=O.mem.get V;have e:=M.tU A' A7;have Ai:off<arr.size:=by omega
    refine⟨arr[off],A9 a w _ ?_,A8 off _ _ ?_ (by simp[Ai])⟩
    .rw[e];exact xH A0 AD (by rw[iN hh];simp[Ai])
    .simp[AE]
  .trivial
 .rename_i k ar i j A5;split
  .rename_i key v sz aq V;split
   .rename_i A0;refine mi.of ?_;rintro ⟨rfl,AE,Ab,rfl,A2⟩ φ G a w O;have M:=O.au x N;rw[A5]at M;obtain⟨hm,AC,L,A',A7,Ac,Ad,Ae,AP⟩:=O.mem.get V;have e:=M.mj A' A7;obtain⟨arr,elem,hh,AW,H,A8⟩:=AP (by omega);obtain⟨u,hu,Af⟩:=A8 i _ (kV AE);obtain⟨AH,rfl⟩:=yO hu A2;refine⟨.agg AH,A9 a w _ ?_,.d _ _ hu⟩;rw[e];have AX:AH.toList.length=sz:=by
     have A4:=hu.size;rw[Ae _ (aaz (kV AE)),Ac]at A4;simpa [Value.cells]using A4
    have:=xI (P:=P) (t:=t) (w:=w) (b:=L.dU) (o:=L.base+i*L.sz+0) (vs:=AH.toList) A0 (by rw[AX];exact Ab) (λj v A1=>by
     rw[iN hh];exact Af j v (by simpa [Value.cells]using A1))
    simpa using this
   .rename_i A0;refine mi.of ?_;rintro ⟨rfl,AD,AE,A1⟩ φ G a w O;have M:=O.au x N;rw[A5]at M;obtain⟨hm,AC,L,A',A7,Ac,Ad,Ae,AP⟩:=O.mem.get V;have e:=M.mj A' A7;obtain⟨arr,elem,hh,AW,H,A8⟩:=AP (by omega);obtain⟨u,hu,Af⟩:=A8 i _ (kV AE);have AX:(D.at aq i).size=sz:=by rw[Ae _ (aaz (kV AE)),Ac]
    have AQ:j<u.cells.size:=by rw[hu.size,AX];exact A1
    have Ag:j<(D.at aq i).cells.length:=by rw[D.hZ,AX];exact A1
    refine⟨u.cells[j],A9 a w _ ?_,.d _ _ (hu.cells.2.2 j _ _ (by simp[D.cell,Ag]) (by simp[AQ])).1⟩;rw[e];exact xH A0 AD (by rw[iN hh];exact Af j _ (by simp[AQ]))
  .rename_i key v aq y V;split
   .trivial
   .rename_i A0;refine mi.of ?_;rintro ⟨rfl,AD,rfl,rfl⟩ φ G a w O;have M:=O.au x N;rw[A5]at M;obtain⟨hm,AC,L,A',A7,⟨Ap,Ad,_⟩,_,_,AP⟩:=O.mem.get V;have e:=M.mj A' A7;simp only[Option.toList_some,aeT]at Ad;obtain⟨arr,elem,hh,AW,H,_,A8⟩:=AP (by omega);obtain⟨u,hu,Aq⟩:=A8 y rfl;refine⟨u,A9 a w _ ?_,Aq⟩;rw[e];exact xH A0 AD (by rw[iN hh,Ap,ai9,aeG];exact hu)
  .trivial
 .rename_i d j A5;split
  .rename_i A0;split
   .refine mi.of ?_;rintro ⟨Ab,A2⟩ φ G a w O;have M:=O.au x N;rw[A5]at M;generalize AR:a.eval x=av at M;cases M with
    |eA _ _ b off A3 AT AU AA I=>
     obtain⟨AH,rfl⟩:=yO AA A2;refine⟨.agg AH,A9 a w _ ?_,.d _ _ AA⟩;rw[AR];exact xI (vs:=AH.toList) A0 (by rw[Ab];have:=AA.size;simp[Value.cells]at this;simp[this]) (λj v A1=>I j v (by simpa [Value.cells]using A1))
   .split
    .rename_i n Aa;refine mi.of ?_;intro hle φ G a w O;have M:=O.au x N;rw[A5]at M;generalize AR:a.eval x=av at M;cases M with
     |eA _ _ b off A3 AT AU AA I=>
      have Ah:=AA.cells;have U:A3.cells.toList.length=d.size:=by rw[Ah.1,D.hZ]
      have AN:((A3.cells.toList.drop j).take n).length=n:=by simp at U⊢;omega
      refine⟨.agg ((A3.cells.toList.drop j).take n).toArray,A9 a w _ ?_,.d _ _ (.qv ?_ ?_ ?_)⟩
      .rw[AR];refine xI A0 (by rw[AN];exact Aa) (λi v hi=>?_);rw[aaM]at hi;split at hi
       .rw[show off+j+i=off+(j+i) by omega];exact I (j+i) v (by simpa using hi)
       .cases hi
      .rw[AN];simp[D.hZ];omega
      .intro v M;exact Ah.2.1 v (by simpa using abe (abf M))
      .intro i c v H E;rw[aaM]at H E;split at H
       .rename_i hi;simp only[hi,ad1]at E;exact (Ah.2.2 (j+i) c v (by simpa using H) (by simpa using E)).1
       .cases H
    .trivial
  .rename_i A0;refine mi.of ?_;rintro ⟨AD,A1⟩ φ G a w O;have M:=O.au x N;rw[A5]at M;generalize AR:a.eval x=av at M;cases M with
   |eA _ _ b off A3 AT AU AA I=>
    have AQ:j<A3.cells.size:=by rw[AA.size];exact A1
    have Ag:j<d.cells.length:=by rw[D.hZ];exact A1
    refine⟨A3.cells[j],A9 a w _ ?_,.d _ _ (AA.cells.2.2 j _ _ (by simp[D.cell,Ag]) (by simp[AQ])).1⟩;rw[AR];exact xH A0 AD (I j _ (by simp[AQ]))
 .trivial
def AV.mU:AV->Bool
 | .bC=>false
 | .bh _=>false
 |_=>true
def aG.mU{φ w F x v}(h:aG φ w F x v)(A6:x.mU=true):v.cells.size=x.cells.length/\∀u∈v.cells,cR u=true:=by
 have one:∀{v:Value}{x:AV},cR v=true->x.cells.length=1->v.cells.size=x.cells.length/\∀u∈v.cells,cR u=true:=by
  intro v x E A5;rw[eP E,A5];exact⟨rfl,λu hu=>by simp at hu;subst hu;exact E⟩
 cases h with
 |bC=>simp[AV.mU]at A6
 |bh=>simp[AV.mU]at A6
 |d x v h=>
  have A':=h.cells;refine⟨?_,A'.2.1⟩;have:=A'.1;cases x<;>simp_all [AV.cells,D.cells]
 |agg cs a A5 E A'=>exact⟨by simp[Value.cells,AV.cells,A5],E⟩
 |ptr _ _ _ _ _ _ _ _ E=>exact one E rfl
 |vec _ _ _ _ _ _ _ _ _ E=>exact one E rfl
 |df _ _ _ _ _ _ _ _ _ E=>exact one E rfl
 |eA=>exact one rfl rfl
 |fn=>exact one rfl rfl
 |uZ=>exact one rfl rfl
 |jb=>exact one rfl rfl
 |lit _ E=>exact one E rfl
 |nn=>exact one rfl rfl
 |err=>exact one rfl rfl
def bL{α:Type}(cs:List α)(off:Nat)(I:List α):List α:=
 match I with
 |[y]=>cs.set off y
 |I=>cs.take off++I++cs.drop (off+I.length)
def dR{α:Type}(cs:List α)(off:Nat)(I:List α)(h:off+I.length<=cs.length):bL cs off I=cs.take off++I++cs.drop (off+I.length):=by
 unfold bL;split
 .rename_i y;simp at h;rw[List.set_eq_take_append_cons_drop,aav (by omega)];simp
 .rfl
def cm{α:Type}(cs:List α)(off:Nat)(I:List α)(h:off+I.length<=cs.length):(bL cs off I).length=cs.length:=by
 rw[dR cs off I h];simp;omega
def iO{α:Type}(cs:List α)(off:Nat)(I:List α)(h:off+I.length<=cs.length)(i:Nat):
 (bL cs off I)[i]?=if i<off then cs[i]? else if i<off+I.length then I[i-off]? else cs[i]?:=by
 rw[dR cs off I h];by_cases E:i<off
 .rw[aav E,adX,aaC (by simp;omega),aaM,aav E]
 .rw[aaf E,adX,aaJ (by simp;omega)];simp only[ae0,afV (show off<=cs.length by omega)];by_cases A0:i<off+I.length
  .rw[aav A0,aaC (by omega)]
  .rw[aaf A0,aaJ (by omega),abp];congr 1;omega
def vZ{α β:Type}{R:α->β->Prop}{cs I:List α}{vs us:List β}{off:Nat}(A5:cs.length=vs.length)(BE:I.length=us.length)(h:off+I.length<=cs.length)
 (A':∀(i:Nat) c v,cs[i]?=some c->vs[i]?=some v->R c v) (AB:∀(i:Nat) c v,I[i]?=some c->us[i]?=some v->R c v):
 ∀(i:Nat) c v,(bL cs off I)[i]?=some c->(bL vs off us)[i]?=some v->R c v:=by
 intro i c v;rw[iO cs off I h,iO vs off us (by omega),<-BE];split
 .exact A' i c v
 .split
  .exact AB _ c v
  .exact A' i c v
def FU{φ G m w}(h:bF φ G m w):∀b,Fo G φ m b->b<w.heap.size:=λb N=>N.elim (h.bound b) (λA8=>h.G8 A8)
def p9(w:World)(g k:Nat)(cs:Array Value)(h:k≠g):(w.setRow g cs).heap[k]?=w.heap[k]?:=by
 simp only[World.setRow,ajw];rw[aaf (λe=>h e.symm)]
def bF.Mn{φ G m w}(h:bF φ G m w){e:cL}(he:e∈m){L:Loc}(V:φ e.key=some L)(A1:L.ar=e.ar){b0:Nat}(A8:e.cont.dw L b0)(O:Array Value)
 (L':Loc) (Z:e.ar<=L'.ar) (BF:L'.ar=L.ar->L'={L with ea:=L'.ea}) (H:aE) (AI:∀b,H.dw L' b->e.cont.dw L b)
 (A':∀φ':cj,φ.le φ'->(∀x v,aG φ w (Fo G φ m) x v->aG φ' (w.setRow b0 O) (Fo G φ' (Mem.set m ⟨e.key,L'.ar,H⟩)) x v)->
  (∀x v,aP w (Fo G φ m) x v->aP (w.setRow b0 O) (Fo G φ' (Mem.set m ⟨e.key,L'.ar,H⟩)) x v)->
  eQ φ' (w.setRow b0 O) (Fo G φ' (Mem.set m ⟨e.key,L'.ar,H⟩)) L' H):
 ∃φ',bF φ' G (Mem.set m ⟨e.key,L'.ar,H⟩) (w.setRow b0 O)/\bj φ m w φ' (Mem.set m ⟨e.key,L'.ar,H⟩) (w.setRow b0 O)/\φ' e.key=some L'/\∀k,k≠e.key->φ' k=φ k:=by
 have BG:jN φ m b0:=⟨e,he,L,V,A8⟩;refine h.dA (e':=⟨e.key,L'.ar,H⟩) he V rfl (L':=L') (by rw[A1];exact Z) BF rfl
  (λb N AC=>p9 w b0 b O (λheq=>AC (heq▸A8))) (by simp) (λb N=>.inl (AI b N)) rfl rfl rfl ?_
 intro φ' AZ hle;have A_:∀b,b<w.heap.size->Fo G φ' (Mem.set m ⟨e.key,L'.ar,H⟩) b->Fo G φ m b:=by
  rintro b BU (As|⟨x,J,At,AJ,Aa⟩)
  .exact .inl As
  .right;rcases (Mem.mem_set h.nodup).1 J with ⟨rfl,_⟩|⟨Au,AM⟩
   .subst AZ;simp at AJ;subst AJ;exact⟨e,he,L,V,AI b Aa⟩
   .subst AZ;simp at AM;simp[AM]at AJ;exact⟨x,Au,At,AJ,Aa⟩
 have AD:∀b,b<w.heap.size->¬Fo G φ m b->(w.setRow b0 O).heap[b]?=w.heap[b]?:=
  λb N AC=>p9 w b0 b O (λheq=>AC (.inr (heq▸BG)))
 exact A' φ' hle (λx v J=>J.mono hle AD (by simp) A_) (λx v J=>J.mono AD (by simp) A_)
def bF.store{φ G m w}(h:bF φ G m w){e:cL}(he:e∈m){L:Loc}(V:φ e.key=some L)(A1:L.ar=e.ar){b0:Nat}(A8:e.cont.dw L b0)(O:Array Value)
 (AE:Nat) (Z:e.ar<=AE) (H:aE) (AI:∀b,H.dw {L with ar:=AE} b->e.cont.dw L b)
 (A':∀φ':cj,φ.le φ'->(∀x v,aG φ w (Fo G φ m) x v->aG φ' (w.setRow b0 O) (Fo G φ' (Mem.set m ⟨e.key,AE,H⟩)) x v)->
  (∀x v,aP w (Fo G φ m) x v->aP (w.setRow b0 O) (Fo G φ' (Mem.set m ⟨e.key,AE,H⟩)) x v)->
  eQ φ' (w.setRow b0 O) (Fo G φ' (Mem.set m ⟨e.key,AE,H⟩)) {L with ar:=AE} H):
 ∃φ',bF φ' G (Mem.set m ⟨e.key,AE,H⟩) (w.setRow b0 O)/\bj φ m w φ' (Mem.set m ⟨e.key,AE,H⟩) (w.setRow b0 O)/\φ' e.key=some {L with ar:=AE}/\∀k,k≠e.key->φ' k=φ k:=
 h.Mn he V A1 A8 O {L with ar:=AE} Z (λhh=>by simp at hh;cases L;simp_all) H AI A'
def bF.UQ{φ G m w}(h:bF φ G m w){e:cL}(he:e∈m){L:Loc}(V:φ e.key=some L)(A1:L.ar=e.ar)(M:World)(AS:M.heap=w.heap)(Av:M.os=w.os)(Aw:M.tape=w.tape)(Ax:M.output=w.output)
 (arr:Array Value) (elem:TypeId) (H:aE) (L':Loc) (Z:L'.ar=e.ar+1) (AI:∀b,H.dw L' b->e.cont.dw L b\/w.heap.size=b)
 (A':∀φ':cj,φ.le φ'->(∀x v,aG φ w (Fo G φ m) x v->aG φ' (M.alloc (.cells arr elem)) (Fo G φ' (Mem.set m ⟨e.key,e.ar+1,H⟩)) x v)->
  (∀x v,aP w (Fo G φ m) x v->aP (M.alloc (.cells arr elem)) (Fo G φ' (Mem.set m ⟨e.key,e.ar+1,H⟩)) x v)->
  (M.alloc (.cells arr elem)).heap[w.heap.size]?=some (.cells arr elem (0,0))->(∀b,b<w.heap.size->(M.alloc (.cells arr elem)).heap[b]?=w.heap[b]?)->
  eQ φ' (M.alloc (.cells arr elem)) (Fo G φ' (Mem.set m ⟨e.key,e.ar+1,H⟩)) L' H):
 ∃φ',bF φ' G (Mem.set m ⟨e.key,e.ar+1,H⟩) (M.alloc (.cells arr elem))/\bj φ m w φ' (Mem.set m ⟨e.key,e.ar+1,H⟩) (M.alloc (.cells arr elem))/\
  φ' e.key=some L'/\∀k,k≠e.key->φ' k=φ k:=by
 have hold:∀b,b<w.heap.size->(M.alloc (.cells arr elem)).heap[b]?=w.heap[b]?:=λb N=>by rw[RowKit.Below.heap_alloc M _ b (by rw[AS];exact N),AS]
 have A9:w.heap.size<=(M.alloc (.cells arr elem)).heap.size:=by simp[AS]
 refine h.dA (e':=⟨e.key,e.ar+1,H⟩) he V rfl (L':=L') (by rw[A1,Z];simp) (λhh=>by simp[A1,Z]at hh) Z
  (λb N _=>hold b N) A9 (λb N=>(AI b N).imp id (λe=>by omega)) Av Aw Ax ?_
 intro φ' AZ hle;have A_:∀b,b<w.heap.size->Fo G φ' (Mem.set m ⟨e.key,e.ar+1,H⟩) b->Fo G φ m b:=by
  rintro b N (As|⟨x,J,At,AJ,Aa⟩)
  .exact .inl As
  .right;rcases (Mem.mem_set h.nodup).1 J with ⟨rfl,_⟩|⟨Au,AM⟩
   .subst AZ;simp at AJ;subst AJ;rcases AI b Aa with AF|AF
    .exact⟨e,he,L,V,AF⟩
    .omega
   .subst AZ;simp at AM;simp[AM]at AJ;exact⟨x,Au,At,AJ,Aa⟩
 refine A' φ' hle (λx v J=>J.mono hle (λb N _=>hold b N) A9 A_) (λx v J=>J.mono (λb N _=>hold b N) A9 A_) ?_ hold;have:=heap_alloc_new M (.cells arr elem);rwa [AS]at this
def bF.fresh{φ G m w}(h:bF φ G m w){e:cL}(he:e∈m){L:Loc}(V:φ e.key=some L)(A1:L.ar=e.ar)(M:World)(AS:M.heap=w.heap)(Av:M.os=w.os)(Aw:M.tape=w.tape)(Ax:M.output=w.output)
 (arr:Array Value) (elem:TypeId) (sz cap:Nat) (H:aE) (AI:∀b,H.dw ⟨e.ar+1,w.heap.size,sz,cap,0,[]⟩ b->w.heap.size=b)
 (A':∀φ':cj,φ.le φ'->(∀x v,aG φ w (Fo G φ m) x v->aG φ' (M.alloc (.cells arr elem)) (Fo G φ' (Mem.set m ⟨e.key,e.ar+1,H⟩)) x v)->
  (∀x v,aP w (Fo G φ m) x v->aP (M.alloc (.cells arr elem)) (Fo G φ' (Mem.set m ⟨e.key,e.ar+1,H⟩)) x v)->
  (M.alloc (.cells arr elem)).heap[w.heap.size]?=some (.cells arr elem (0,0))->
  eQ φ' (M.alloc (.cells arr elem)) (Fo G φ' (Mem.set m ⟨e.key,e.ar+1,H⟩)) ⟨e.ar+1,w.heap.size,sz,cap,0,[]⟩ H):
 ∃φ',bF φ' G (Mem.set m ⟨e.key,e.ar+1,H⟩) (M.alloc (.cells arr elem))/\bj φ m w φ' (Mem.set m ⟨e.key,e.ar+1,H⟩) (M.alloc (.cells arr elem))/\
  φ' e.key=some ⟨e.ar+1,w.heap.size,sz,cap,0,[]⟩/\∀k,k≠e.key->φ' k=φ k:=
 h.UQ he V A1 M AS Av Aw Ax arr elem H _ rfl (λb N=>.inr (AI b N)) (λφ' E A0 AO A7 _=>A' φ' E A0 AO A7)
def D.setCells(r:D)(j:Nat)(y:D):D:=.agg (bL r.cells j y.cells)
def Hc(P:Program)(t:TypeId)(k ar i j:Nat)(x:AV):Option cL->dO
 |some ⟨_,v,.vv aq (some _)⟩=>match x with
  | .vec a b c d=>.dA (v=ar/\i=aq.length/\j=0/\fW P t=some 1) .bC ⟨k,ar,.vv aq (some (.vec a b c d))⟩
  |_=>.no
 |_=>.no
def q8(P:Program)(m:Mem)(t:TypeId)(p x:AV):dO:=
 match p with
 | .ptr k ar off=>match Mem.get m k with
  |some ⟨_,v,.box cs⟩=>.dA (v=ar/\x.mU=true/\fW P t=some x.cells.length/\off+x.cells.length<=cs.length) .bC ⟨k,ar,.box (bL cs off x.cells)⟩
  |_=>.no
 | .df k ar i j=>match Mem.get m k,x.norm with
  |some ⟨_,v,.vec sz aq⟩,.d y=>match tk P t with
   | .struct=>.dA (v=ar/\i<aq.length/\fW P t=some sz/\y.size=sz/\j=0) .bC ⟨k,ar,.vec sz (aq.set i y)⟩
   |_=>match sz with
    |1=>.dA (v=ar/\i<aq.length/\fW P t=some 1/\y.size=1/\j=0) .bC ⟨k,ar,.vec 1 (aq.set i y)⟩
    |sz=>.dA (v=ar/\i<aq.length/\fW P t=some y.size/\j+y.size<=sz/\(D.at aq i).flat=false) .bC ⟨k,ar,.vec sz (aq.set i ((D.at aq i).setCells j y))⟩
  |e,_=>Hc P t k ar i j x e
 |_=>.no
def LD{w w':World}{F F':Nat->Prop}{arr:Array Value}{aq:List D}{base sz cap i o:Nat}{us:List Value}{AG:D}{AH:Value}(A6:arr.size=base+cap*sz)(AT:aq.length<=cap)(hi:i<aq.length)
 (A8:base+i*sz<=o) (BV:o+us.length<=base+i*sz+sz)
 (AU:∀(n:Nat)(d:D),aq[n]?=some d->∃v,aP w F d v/\∀(j:Nat)(c:Value),v.cells[j]?=some c->arr[base+n*sz+j]?=some c)
 (BH:∀d∈aq,d.size=sz)
 (hm:∀x v,aP w F x v->aP w' F' x v) (AN:aP w' F' AG AH) (AW:AG.size=sz)
 (Ay:∀(j:Nat)(c:Value),AH.cells[j]?=some c->(bL arr.toList o us)[base+i*sz+j]?=some c):
 ∀(n:Nat)(d:D),(aq.set i AG)[n]?=some d->∃v,aP w' F' d v/\∀(j:Nat)(c:Value),v.cells[j]?=some c->(bL arr.toList o us).toArray[base+n*sz+j]?=some c:=by
 have BI:base+i*sz+sz<=arr.size:=by
  have:i*sz+sz<=cap*sz:=by rw[<-afl];exact aaG _ (by omega)
  omega
 intro n d AA;by_cases AC:n=i
 .subst AC;simp[hi]at AA;subst AA;exact⟨AH,AN,λj c Ab=>by simpa using Ay j c Ab⟩
 .rw[List.getElem?_set_ne (λh=>AC h.symm)]at AA;obtain⟨v,Z,BJ⟩:=AU n d AA;refine⟨v,hm d v Z,λj c Ab=>?_⟩;have BW:j<sz:=by
   have E:=Z.size;rw[BH d (aaz AA)]at E;have:=(aei.1 Ab).1;omega
  rw[aeE,iO arr.toList o us (by simp;omega)];have key:¬(o<=base+n*sz+j/\base+n*sz+j<o+us.length):=by
   rintro ⟨E,A0⟩;rcases Nat.lt_or_gt_of_ne AC with AP|BK
   .have:n*sz+sz<=i*sz:=by rw[<-afl];exact aaG _ AP
    omega
   .have:i*sz+sz<=n*sz:=by rw[<-afl];exact aaG _ BK
    omega
  have hh:=BJ j c Ab;split
  .simpa using hh
  .rw[aaf (by omega)];simpa using hh
def v7{P:Program}{t:TypeId}{w:World}{b o:Nat}{arr:Array Value}{elem:TypeId}{v:Value}(A6:fW P t=some v.cells.size)
 (A2:fS w b arr elem) (A5:o+v.cells.size<=arr.size) (E:∀x∈v.cells,cR x=true):
 (Instr.storeAt t (.pointer (some ⟨b,o,none⟩)) v).run P w=.ok () (w.setRow b (bL arr.toList o v.cells.toList).toArray):=by
 rw[Qe A6 A2 A5 E,dR _ _ _ (by simpa using A5)];simp
def Qf{w:World}{b:Nat}{arr:Array Value}{elem:TypeId}{fr}(A2:w.heap[b]?=some (.cells arr elem fr))(O:Array Value):(w.setRow b O).heap[b]?=some (.cells O elem fr):=setRow_heap w b arr O elem fr A2
def fS.setRow{w:World}{b:Nat}{arr:Array Value}{elem:TypeId}(A2:fS w b arr elem)(O:Array Value)(A6:O.size=arr.size):fS (w.setRow b O) b O elem:=by
 obtain⟨fr,E,A0⟩:=A2;exact⟨fr,Qf E O,by rw[A6];exact A0⟩
def ml{α:Type}{cs I:List α}{off:Nat}{x:α}(h:off+I.length<=cs.length)(J:x∈bL cs off I):x∈cs\/x∈I:=by
 rw[dR cs off I h]at J;simp only[aaA]at J;rcases J with (J|J)|J
 .exact .inl (abf J)
 .exact .inr J
 .exact .inl (abe J)
def UR(P:Program)(S:St)(o:Oper)(t:TypeId)(p x:Operand)(A8:o.op=.store t p x)(Ac:(S.au p).1=true)(J:(S.au x).1=true){k ar i j:Nat}(AX:(S.au p).2=.df k ar i j):
 aL P S o (Hc P t k ar i j (S.au x).2 (Mem.get S.mem k)):=by
 unfold Hc;split
 .rename_i key v aq y A2;split
  .rename_i a b c d AQ;refine aL.uM ?_;rintro ⟨rfl,rfl,rfl,Ad⟩ φ G BL w A3;have AD:key=k:=(Mem.get_mem A2).2;subst AD;have Z:=A3.au p Ac;have hu:=A3.au x J;rw[AX]at Z;rw[AQ]at hu;obtain⟨hm,_,L,V,A1,AR⟩:=A3.mem.get A2;obtain⟨⟨B6,AT,A5⟩,BM,AM,Az⟩:=AR;have e:=Z.mj V A1;simp only[Option.toList_some,aeT]at AT;have Ae:0<L.cap:=by omega
   obtain⟨arr,elem,hh,A9,E,BN,_⟩:=Az Ae;generalize B':BL.eval x=u at hu;have B0:cR u=true:=by cases hu;assumption
   have Ao:u.cells=#[u]:=eP B0;have A4:L.base+aq.length+[u].length<=arr.toList.length:=by simp;omega
   obtain⟨φ',Af,Ag,B7,Ah⟩:=A3.mem.store (e:=⟨key,v,.vv aq (some y)⟩) hm V A1 (b0:=L.dU) (.inl ⟨Ae,rfl⟩) (bL arr.toList (L.base+aq.length) [u]).toArray v (aak _) (.vv aq (some (.vec a b c d))) (λ_ N=>N) (λφ' B8 Ap AY=>by
    refine⟨⟨B6,by simpa using AT,A5⟩,BM,AM,λ_=>⟨_,elem,hh.setRow _ (by rw[aeu,cm _ _ _ A4];simp),?_,?_,?_,?_⟩⟩
    .rw[aeu,cm _ _ _ A4];simpa using A9
    .intro z U;rcases ml A4 (by simpa using U)with U|U
     .exact E z (by simpa using U)
     .simp at U;subst U;exact B0
    .intro n xs q AC Aq;have BX:=(aai.1 AC).1;have:=BN n xs q AC Aq;rw[show (bL arr.toList (L.base+aq.length) [u]).toArray[L.base+n]?=arr[L.base+n]? by
      rw[aeE,iO _ _ _ A4,aav (by omega)];simp]
     refine this.mono (λd u _ AA=>AY d u AA) (λb N=>?_);subst N;exact p9 w L.dU b _ (λheq=>(AM b (aaz Aq)).2 heq)
    .intro z U;cases U;refine⟨u,?_,Ap _ _ hu⟩;show (bL arr.toList (L.base+aq.length) [u]).toArray[L.base+aq.length]?=some u;rw[aeE,iO _ _ _ A4,aaf (by omega),aav (by simp)];simp)
   refine⟨undef,_,φ',?_,.bC _,Af,Ag,Ah⟩;have B9:=v7 (P:=P) (t:=t) (w:=w) (b:=L.dU) (o:=L.base+aq.length) (v:=u) (by rw[Ao];exact Ad) hh (by rw[Ao];simpa using A4) (by rw[Ao];simpa using B0);rw[Ao]at B9;refine .inr ⟨?_,rfl⟩;rw[B6,ai9,aeG]at e;simp[execOp,A8,e,B',B9]
  .trivial
 .trivial
def X9(P:Program)(S:St)(o:Oper)(t:TypeId)(p x:Operand)(A8:o.op=.store t p x)(Ac:(S.au p).1=true)(J:(S.au x).1=true):aL P S o (q8 P S.mem t (S.au p).2 (S.au x).2):=by
 have BA:∀(a:Act)(w w':World),(Instr.storeAt t (a.eval p) (a.eval x)).run P w=.ok () w'->Hb P o a w undef w':=by
  intro a w w' h;exact .inr ⟨by simp[execOp,A8,h],rfl⟩
 unfold q8;split
 .rename_i k ar off AX;split
  .rename_i key v cs A2;refine aL.uM ?_;rintro ⟨rfl,BO,Ad,hle⟩ φ G a w A3;have Z:=A3.au p Ac;have AQ:=A3.au x J;rw[AX]at Z;obtain⟨hm,AD,L,V,A1,B2,arr,elem,hh,A9,E,AU⟩:=A3.mem.get A2;have e:=Z.tU V A1;obtain⟨Ar,B3⟩:=AQ.mU BO;simp only at AD;subst AD;have A4:off+(a.eval x).cells.toList.length<=arr.toList.length:=by simp only[aa5,Ar,A9];exact hle
   obtain⟨φ',Af,Ag,B7,Ah⟩:=A3.mem.store (e:=⟨key,v,.box cs⟩) hm V A1 rfl (bL arr.toList off (a.eval x).cells.toList).toArray v (aak _) (.box (bL cs off (S.au x).2.cells)) (λ_ N=>N) (λφ' B8 Ap AY=>by
    refine⟨⟨B2.1,B2.2.1,by rw[cm _ _ _ hle];exact B2.2.2⟩,_,elem,hh.setRow _ (by show (bL arr.toList _ _).length=_;rw[cm _ _ _ A4];simp),?_,?_,?_⟩
    .rw[cm _ _ _ hle,<-A9];show (bL arr.toList off _).length=_;rw[cm _ _ _ A4];simp
    .intro u hu;rcases ml A4 (by simpa using hu)with hu|hu
     .exact E u (by simpa using hu)
     .exact B3 u (by simpa using hu)
    .intro i c u A' hu;refine Ap c u ?_;exact vZ (vs:=arr.toList) (us:=(a.eval x).cells.toList) (by simp[A9]) (by simpa using Ar.symm) hle (λi c v h AF=>AU i c v h (by simpa using AF))
      (λi c v h AF=>AQ.cells B3 Ar i c v h (by simpa using AF)) i c u A' (by simpa using hu))
   refine⟨undef,_,φ',BA a w _ ?_,.bC _,Af,Ag,Ah⟩;rw[e];exact v7 (by rw[Ar];exact Ad) hh (by omega) B3
  .trivial
 .rename_i k ar i j AX;have vec:∀(c:Prop)[Decidable c](sz:Nat)(aq:List D)(y AG:D)(v:Nat),Mem.get S.mem k=some ⟨k,v,.vec sz aq⟩->(S.au x).2.norm=.d y->
   (c->v=ar/\i<aq.length/\fW P t=some y.size/\j+y.size<=sz/\((D.at aq i).size=sz->AG.size=sz)/\
    ∀w F (u v:Value),(D.at aq i).size=sz->aP w F (D.at aq i) v->aP w F y u->∃AH,aP w F AG AH/\AH.cells.toList=bL v.cells.toList j u.cells.toList)->
   aL P S o (.dA (decide c) .bC ⟨k,ar,.vec sz (aq.set i AG)⟩):=by
   intro c _ sz aq y AG v A2 AB BP;refine aL.uM λA' φ G a w A3=>?_;obtain⟨rfl,AP,Ad,Ab,BQ,BR⟩:=BP A';have Z:=A3.au p Ac;have AQ:=(A3.au x J).norm;rw[AB]at AQ;rw[AX]at Z;obtain⟨hm,AD,L,V,A1,Ai,AT,AW,Az⟩:=A3.mem.get A2;have e:=Z.mj V A1;have Ae:0<L.cap:=by omega
   obtain⟨arr,elem,hh,A9,E,AU⟩:=Az Ae;have BB:AG.size=sz:=BQ (by rw[AW _ (aaz (kV AP)),Ai]);cases AQ with
   |d _ u hu=>
    generalize B':a.eval x=u at hu;have Aj:u.cells.size=y.size:=hu.size;have BI:L.base+i*L.sz+L.sz<=arr.size:=by
     have:i*L.sz+L.sz<=L.cap*L.sz:=by rw[<-afl];exact aaG _ (by omega)
     omega
    obtain⟨B4,BC,BD⟩:=AU i _ (kV AP);have B5:B4.cells.size=L.sz:=by rw[BC.size];exact AW _ (aaz (kV AP))
    have A4:L.base+i*L.sz+j+u.cells.toList.length<=arr.toList.length:=by simp[Aj];omega
    obtain⟨φ',Af,Ag,B7,Ah⟩:=A3.mem.store (e:=⟨k,v,.vec sz aq⟩) hm V A1 ⟨Ae,rfl⟩ (bL arr.toList (L.base+i*L.sz+j) u.cells.toList).toArray v (aak _) (.vec sz (aq.set i AG)) (λ_ N=>N) (λφ' B8 Ap AY=>by
     refine⟨Ai,by simpa using AT,?_,λ_=>⟨_,elem,hh.setRow _ (by show (bL arr.toList _ _).length=_;rw[cm _ _ _ A4];simp),?_,?_,?_⟩⟩
     .intro d AA;rcases List.mem_or_eq_of_mem_set AA with AA|rfl
      .exact AW d AA
      .show _=L.sz;rw[Ai];exact BB
     .show (bL arr.toList _ _).length=_;rw[cm _ _ _ A4];simpa using A9
     .intro z U;rcases ml A4 (by simpa using U)with U|U
      .exact E z (by simpa using U)
      .exact hu.cells.2.1 z (by simpa using U)
     .obtain⟨AH,Ay,BS⟩:=BR _ _ u B4 (by rw[AW _ (aaz (kV AP)),Ai]) (AY _ _ BC) (AY _ _ hu);refine LD (F:=Fo G φ S.mem) (base:=L.base) (cap:=L.cap) (sz:=L.sz) A9 AT AP (by omega) (by simp[Aj];omega) AU AW AY Ay (by rw[BB,Ai]) ?_;intro q c Aq;have AK:(bL B4.cells.toList j u.cells.toList)[q]?=some c:=by rw[<-BS];simpa using Aq
      have BY:q<L.sz:=by
       have:=(aai.1 AK).1;rw[cm _ _ _ (by simp[Aj,B5];omega)]at this;simpa [B5]using this
      rw[iO _ _ _ (by simp[Aj,B5];omega)]at AK;rw[iO _ _ _ A4];by_cases E:q<j
      .rw[aav E]at AK;rw[aav (by omega)];simpa using BD q c (by simpa using AK)
      .rw[aaf E]at AK;rw[aaf (by omega)];by_cases A0:q<j+u.cells.toList.length
       .rw[aav A0]at AK;rw[aav (by omega)];rw[show L.base+i*L.sz+q-(L.base+i*L.sz+j)=q-j by omega];exact AK
       .rw[aaf A0]at AK;rw[aaf (by omega)];simpa using BD q c (by simpa using AK))
    refine⟨undef,_,φ',BA a w _ ?_,.bC _,Af,Ag,Ah⟩;rw[e,B'];exact v7 (by rw[Aj];exact Ad) hh (by simpa using A4) hu.cells.2.1
  have whole:∀(y r:D),y.size=r.size->∀w F (u v:Value),aP w F r v->aP w F y u->∃AH,aP w F y AH/\AH.cells.toList=bL v.cells.toList 0 u.cells.toList:=by
   intro y r BZ w F u v A3 AB;refine⟨u,AB,?_⟩;have E:=A3.size;have A0:=AB.size;rw[dR _ _ _ (by simp;omega)];simp;omega
  split
  .rename_i key v sz aq y A2 AB;have AD:key=k:=(Mem.get_mem A2).2;subst AD;split
   .exact vec _ sz aq y y v A2 AB (λ⟨E,A0,AO,A7,Ak⟩=>⟨E,A0,by rw[A7];exact AO,by omega,λ_=>A7,by
     subst Ak;intro w F u v A6 AN Al;exact whole y _ (by rw[A6,A7]) w F u v AN Al⟩)
   .split
    .exact vec _ 1 aq y y v A2 AB (λ⟨E,A0,AO,A7,Ak⟩=>⟨E,A0,by rw[A7];exact AO,by omega,λ_=>A7,by
      subst Ak;intro w F u v A6 AN Al;exact whole y _ (by rw[A6,A7]) w F u v AN Al⟩)
    .refine vec _ sz aq y _ v A2 AB (λ⟨E,A0,AO,A7,Ak⟩=>⟨E,A0,AO,A7,?_,?_⟩)
     .intro AL;show (bL _ _ _).length=sz;rw[cm _ _ _ (by rw[D.hZ,D.hZ,AL];exact A7),D.hZ,AL]
     .intro w F u v A6 AN Al;obtain⟨BT,rfl⟩:=yO AN Ak;have AR:=AN.cells;have An:=Al.cells;have A5:j+y.cells.length<=(D.at aq i).cells.length:=by rw[D.hZ,D.hZ,A6];exact A7
      refine⟨.agg (bL BT.toList j u.cells.toList).toArray,.qv ?_ ?_ ?_,by simp[Value.cells]⟩
      .have AL:=AR.1;simp only[Value.cells]at AL;rw[cm _ _ _ A5,cm _ _ _ (by rw[An.1,AL];exact A5),<-AL]
      .intro z U;have AL:=AR.1;simp only[Value.cells]at AL;rcases ml (by rw[An.1,AL];exact A5) U with U|U
       .exact AR.2.1 z (by simpa [Value.cells]using U)
       .exact An.2.1 z (by simpa using U)
      .exact vZ (by simpa [Value.cells]using AR.1.symm) (by simpa using An.1.symm) A5 (λi c v h AF=>(AR.2.2 i c v h (by simpa [Value.cells]using AF)).1) (λi c v h AF=>(An.2.2 i c v h (by simpa using AF)).1)
  .exact UR P S o t p x A8 Ac J AX
 .trivial
def jB(P:Program)(w:World)(e:TypeId)(cs:Array Value):(newRow e cs).run P w=.ok ⟨w.heap.size,0,none⟩ (w.alloc (.cells cs e)):=rfl
def keyOf(o:Oper):Nat:=100+50*o.dst.getD 100000
def tA(P:Program)(t:TypeId):Option (List AV):=
 match P.info? t with
 |some i=>match i.zero with
  |some z=>if z.cells.all cR then some (z.cells.toList.map oQ)else none
  |none=>none
 |none=>none
def qy{P:Program}{t:TypeId}{zs:List AV}(h:tA P t=some zs)(w:World):∃z,(zeroValue t).run P w=.ok z w/\z.cells.size=zs.length/\(∀v∈z.cells,cR v=true)/\
 ∀φ w' F (i:Nat) c v,zs[i]?=some c->z.cells[i]?=some v->aG φ w' F c v:=by
 unfold tA at h;split at h
 .rename_i i hi;split at h
  .rename_i z A2;split at h
   .rename_i AP;simp at h;subst h;refine⟨z,by simp[zeroValue,typeInfo,hi,A2],by simp,?_,?_⟩
    .intro v E;exact Array.all_eq_true'.1 AP v E
    .intro φ w' F i c v N E;simp only[aaV,aeV,aap]at N;obtain⟨u,hu,rfl⟩:=N;rw[E]at hu;cases hu;exact E4 ..
   .cases h
  .cases h
 .cases h
def sx(m:Mem)(k:Nat)(c:Bool)(cs:List AV):dO:=
 match Mem.get m k with
 |some ⟨_,v,_⟩=>.dA c (.ptr k (v+1) 0) ⟨k,v+1,.box cs⟩
 |none=>.no
def QQ{P:Program}{S:St}{o:Oper}{k:Nat}{c:Bool}{cs:List AV}
 (h:c=true->∀φ G a w,Rel φ G S a w->∃(arr:Array Value)(elem:TypeId),(execOp a.eval o).run P w=.ok (.value (.pointer (some ⟨w.heap.size,0,none⟩))) (w.alloc (.cells arr elem))/\
  arr.size=cs.length/\(∀v∈arr,cR v=true)/\∀(i:Nat) c v,cs[i]?=some c->arr[i]?=some v->aG φ w (Fo G φ S.mem) c v):aL P S o (sx S.mem k c cs):=by
 unfold sx;split
 .rename_i key v cont AQ;intro N φ G a w Z;obtain⟨arr,elem,A3,O,J,A'⟩:=h N φ G a w Z;obtain⟨hm,A6,L,AR,AJ,_⟩:=Z.mem.get AQ;simp only at A6 AJ;subst A6;obtain⟨φ',AS,AT,AU,AW⟩:=Z.mem.fresh (e:=⟨key,v,cont⟩) hm AR AJ w rfl rfl rfl rfl arr elem 1 cs.length (.box cs) (λ_ A8=>A8) (λφ' hle AX Ai AY=>
   ⟨⟨rfl,rfl,rfl⟩,arr,elem,fS.new AY,O,J,λi c u N hu=>AX c u (A' i c u N hu)⟩)
  exact⟨_,_,φ',.inl A3,.ptr key (v+1) 0 _ _ AU (aak _) (λ_=>rfl) rfl,AS,AT,AW⟩
 .trivial
def ad0(P:Program)(S:St)(o:Oper)(t:TypeId)(x:Operand)(AC:o.op=.box t x)(A4:(S.au x).1=true):aL P S o (sx S.mem (keyOf o) (S.au x).2.mU (S.au x).2.cells):=by
 refine QQ λA0 φ G a w Z=>?_;have E:=Z.au x A4;obtain⟨J,U⟩:=E.mU A0;refine⟨(a.eval x).cells,t,?_,J,U,E.cells U J⟩;simp[execOp,AC,Instr.box,newVar,jB]
def FV(P:Program)(S:St)(o:Oper)(t:TypeId)(AC:o.op=.alloc t)(zs:List AV)(A2:tA P t=some zs):aL P S o (sx S.mem (keyOf o) true zs):=by
 refine QQ λ_ φ G a w Z=>?_;obtain⟨z,A3,O,J,A'⟩:=qy A2 w;refine⟨z.cells,t,?_,O,J,λi c v N E=>A' _ _ _ i c v N E⟩;simp[execOp,AC,Instr.alloc,newVar,jB,A3]
def np(P:Program)(t:TypeId):Option D:=
 match tA P t,(tk P t).agg with
 |some zs,true=>(toDsN zs).map .agg
 |some [z],false=>toD1 z
 |_,_=>none
def zE(P:Program)(t:TypeId):Option Nat:=(P.info? t).map (·.bytes)
def Hd{P:Program}{t:TypeId}{d:D}(h:np P t=some d)(w:World):∃z,(zeroValue t).run P w=.ok z w/\z.cells.size=d.size/\(∀v∈z.cells,cR v=true)/\
 ∀w' F,∃v,aP w' F d v/\v.cells=z.cells:=by
 unfold np at h;split at h
 .rename_i zs A2 AZ;simp only[aap]at h;obtain⟨AD,A_,rfl⟩:=h;obtain⟨z,A3,O,J,A'⟩:=qy A2 w;have A5:∀w' F,zs.length=AD.length/\∀(i:Nat) d v,AD[i]?=some d->z.cells.toList[i]?=some v->aP w' F d v:=λw' F=>
   toDsN_rel (φ:=λ_=>none) (w:=w') (F:=F) (vs:=z.cells.toList) A_ (λi c v N E=>A' _ _ _ i c v N (by simpa using E))
  refine⟨z,A3,by rw[O,(A5 w (λ_=>False)).1];rfl,J,λw' F=>⟨.agg z.cells,?_,rfl⟩⟩;have:=aP.qv (w:=w') (F:=F) (cs:=AD) (vs:=z.cells.toList) (by rw[<-(A5 w' F).1];simpa using O.symm) (λv E=>J v (by simpa using E)) (A5 w' F).2;simpa using this
 .rename_i z0 A2 AZ;obtain⟨z,A3,O,J,A'⟩:=qy A2 w;obtain⟨u,hu⟩:∃u,z.cells=#[u]:=by
   have:z.cells.size=1:=O;exact⟨z.cells[0],by apply Array.ext<;>simp_all⟩
  have H:∀w' F,aP w' F d u:=λw' F=>toD1_rel (φ:=λ_=>none) h (A' _ _ _ 0 z0 u (by simp) (by simp[hu]));have AK:cR u=true:=J u (by simp[hu]);refine⟨z,A3,by rw[hu,<-(H w (λ_=>False)).size,eP AK],J,λw' F=>⟨u,H w' F,by rw[eP AK,hu]⟩⟩
 .cases h
def cM(w:World)(F:Nat->Prop)(sz:Nat)(aq:List D)(cs:List Value):Prop:=
 cs.length=aq.length*sz/\(∀v∈cs,cR v=true)/\(∀d∈aq,d.size=sz)/\∀(i:Nat) d,aq[i]?=some d->∃v,aP w F d v/\∀(j:Nat) c,v.cells[j]?=some c->cs[i*sz+j]?=some c
def zF{sz:Nat}{w:World}{F:Nat->Prop}{d:D}{v:Value}(h:aP w F d v)(A0:d.size=sz){j:Nat}{c:Value}(I:v.cells[j]?=some c):j<sz:=by
 have J:=h.size;have:=(aei.1 I).1;omega
def cM.append{w F sz xs AE cs AL}(h:cM w F sz xs cs)(Aa:cM w F sz AE AL):cM w F sz (xs++AE) (cs++AL):=by
 obtain⟨y,a2,a3,a4⟩:=h;obtain⟨Ab,Ac,Ad,Ae⟩:=Aa;refine⟨by simp[y,Ab,aeh],?_,?_,?_⟩
 .intro v E;rcases aaA.1 E with E|E;exact a2 v E;exact Ac v E
 .intro v E;rcases aaA.1 E with E|E;exact a3 v E;exact Ad v E
 .intro i d H;by_cases hi:i<xs.length
  .rw[aaC hi]at H;obtain⟨v,E,V⟩:=a4 i d H;refine⟨v,E,λj c I=>?_⟩;have A9:=zF E (a3 d (aaz H)) I;rw[aaC]
   .exact V j c I
   .rw[y];have:i*sz+sz<=xs.length*sz:=by rw[<-afl];exact aaG _ hi
    omega
  .rw[aaJ (by omega)]at H;obtain⟨v,E,V⟩:=Ae _ d H;refine⟨v,E,λj c I=>?_⟩;have e:xs.length*sz+(i-xs.length)*sz=i*sz:=by rw[<-aeh];congr 1;omega
   rw[aaJ (by rw[y];omega),y,show i*sz+j-xs.length*sz=(i-xs.length)*sz+j by omega];exact V j c I
def cM.take{w F sz xs cs}(h:cM w F sz xs cs)(n:Nat)(AM:n<=xs.length):cM w F sz (xs.take n) (cs.take (n*sz)):=by
 obtain⟨y,a2,a3,a4⟩:=h;have hle:n*sz<=xs.length*sz:=aaG _ AM;refine⟨by simp only[ae0,y];rw[afV AM,afV hle],λv E=>a2 v (abf E),λv E=>a3 v (abf E),?_⟩;intro i d H;rw[aaM]at H;split at H
 .rename_i hi;obtain⟨v,E,V⟩:=a4 i d H;refine⟨v,E,λj c I=>?_⟩;have A9:=zF E (a3 d (aaz H)) I;have:i*sz+sz<=n*sz:=by rw[<-afl];exact aaG _ hi
  rw[aaM,aav (by omega)];exact V j c I
 .cases H
def cM.drop{w F sz xs cs}(h:cM w F sz xs cs)(n:Nat):cM w F sz (xs.drop n) (cs.drop (n*sz)):=by
 obtain⟨y,a2,a3,a4⟩:=h;refine⟨by simp[y,Nat.sub_mul],λv E=>a2 v (abe E),λv E=>a3 v (abe E),?_⟩;intro i d H;rw[abp]at H;obtain⟨v,E,V⟩:=a4 _ d H;refine⟨v,E,λj c I=>?_⟩;rw[abp,show n*sz+(i*sz+j)=(n+i)*sz+j by rw[aeh];omega];exact V j c I
def cM.mono{w F w' F' sz xs cs}(h:cM w F sz xs cs)(hm:∀x v,aP w F x v->aP w' F' x v):cM w' F' sz xs cs:=
 ⟨h.1,h.2.1,h.2.2.1,λi d H=>let ⟨v,E,N⟩:=h.2.2.2 i d H;⟨v,hm _ _ E,N⟩⟩
def cM.nil(w F sz):cM w F sz [] []:=⟨by simp,by simp,by simp,by simp⟩
def wa{φ w F}{L:Loc}{aq:List D}{pre cs rest:List Value}{sz:Nat}{elem:TypeId}(O:L.sz=sz)(Z:cM w F sz aq cs)(Af:pre.length=L.base)(A1:∀v∈pre,cR v=true)(J:∀v∈rest,cR v=true)
 (A7:aq.length<=L.cap) (A5:(cs++rest).length=L.cap*sz) (hh:0<L.cap->fS w L.dU (pre++(cs++rest)).toArray elem):eQ φ w F L (.vec sz aq):=by
 obtain⟨y,a2,a3,a4⟩:=Z;subst O;refine⟨rfl,A7,a3,λN=>⟨_,elem,hh N,by simp only[aeu,aal]at A5⊢;omega,?_,?_⟩⟩
 .intro v E;simp at E;rcases E with E|E|E
  .exact A1 v E
  .exact a2 v E
  .exact J v E
 .intro i d H;obtain⟨v,E,V⟩:=a4 i d H;refine⟨v,E,λj c I=>?_⟩;have A9:=zF E (a3 d (aaz H)) I;have AF:i<aq.length:=(aai.1 H).1;have:i*L.sz+L.sz<=aq.length*L.sz:=by rw[<-afl];exact aaG _ AF
  rw[aeE,aaJ (by omega),Af,show L.base+i*L.sz+j-L.base=i*L.sz+j by omega,aaC (by rw[y];omega)];exact V j c I
def yQ{φ w F}{L:Loc}{aq:List D}{cs rest:List Value}{sz:Nat}{elem:TypeId}(O:L.sz=sz)(A8:L.base=0)(Z:cM w F sz aq cs)(J:∀v∈rest,cR v=true)
 (A7:aq.length<=L.cap) (A5:(cs++rest).length=L.cap*sz) (hh:0<L.cap->fS w L.dU (cs++rest).toArray elem):eQ φ w F L (.vec sz aq):=
 wa (pre:=[]) O Z (by simp[A8]) (by simp) J A7 A5 hh
def pH{φ w F}{L:Loc}{aq:List D}{sz:Nat}(h:eQ φ w F L (.vec sz aq))(N:0<L.cap):∃(arr:Array Value)(elem:TypeId),fS w L.dU arr elem/\arr.size=L.base+L.cap*sz/\
 (∀v∈arr,cR v=true)/\cM w F sz aq ((arr.toList.drop L.base).take (aq.length*sz)):=by
 obtain⟨A0,A7,AN,AA⟩:=h;obtain⟨arr,elem,hh,O,J,A'⟩:=AA N;subst A0;refine⟨arr,elem,hh,O,J,?_,λv E=>J v (by simpa using abe (abf E)),AN,?_⟩
 .simp only[ae0,aeQ,aa5,O];exact afV (by rw[Nat.add_sub_cancel_left];exact aaG _ A7)
 .intro i d H;obtain⟨v,E,V⟩:=A' i d H;refine⟨v,E,λj c I=>?_⟩;have A9:=zF E (AN d (aaz H)) I;have AF:i<aq.length:=(aai.1 H).1;have:i*L.sz+L.sz<=aq.length*L.sz:=by rw[<-afl];exact aaG _ AF
  rw[aaM,aav (by omega),abp,<-aaX];simpa using V j c I
def Mo{w F}{xs:List D}{ao:Option Addr}{m cap sz:Nat}(h:aP w F (.list xs) (.slice ao m cap))(A0:∀d∈xs,d.size=sz):
 m=xs.length/\∃cs,cM w F sz xs cs/\(xs≠[]->∃b off,ao=some ⟨b,off,none⟩/\b<w.heap.size/\¬F b/\∀(j:Nat) v,cs[j]?=some v->w.cell? ⟨b,off+j,none⟩=some v):=by
 generalize A4:D.list xs=x at h;generalize E:Value.slice ao m cap=v at h;cases h with
 |nil a c=>
  simp at A4 E;subst A4;exact⟨by simp[E.2.1],[],cM.nil ..,λh=>absurd rfl h⟩
 |list AE b off Aj M vs A7 A8 Ag O AG N=>
  simp at A4 E;obtain⟨rfl,rfl,rfl⟩:=E;subst A4;refine⟨rfl,?_⟩
  --Ak cells,row by row
  have AH:xs≠[]->M=sz:=λAB=>by
   cases xs with
   |nil=>exact absurd rfl AB
   |cons d r=>rw[<-O d (by simp),A0 d (by simp)]
  by_cases AB:xs=[]
  .subst AB;exact⟨[],cM.nil ..,λh=>absurd rfl h⟩
  have AH:=AH AB;subst AH;have AA:∀(i j:Nat),i<xs.length->j<M->∃c,(vs i).cells[j]?=some c/\w.cell? ⟨b,off+(i*M+j),none⟩=some c/\cR c=true:=by
   intro i j hi I;have J:=AG i xs[i] (by simp[hi]);have U:=J.size;rw[A0 _ (aec hi)]at U;have AO:j<(vs i).cells.size:=by omega
   refine⟨(vs i).cells[j],by simp[AO],?_,J.cells.2.1 _ (by simp)⟩;have:=N i j _ hi (show (vs i).cells[j]?=some (vs i).cells[j] by simp[AO]);rw[<-aaX];exact this
  refine⟨(List.range (xs.length*M)).map (λj=>(w.cell? ⟨b,off+j,none⟩).getD undef),⟨by simp,?_,A0,?_⟩,λ_=>⟨b,off,rfl,A8,Ag,?_⟩⟩
  .intro v E;simp only[aaD,abo]at E;obtain⟨j,I,rfl⟩:=E;have AI:0<M:=by rcases Nat.eq_zero_or_pos M with A1|A1;simp[A1]at I;exact A1
   obtain⟨c,_,U,Ah⟩:=AA (j/M) (j%M) (Nat.div_lt_of_lt_mul (by rw[aiK];exact I)) (Nat.mod_lt _ AI);rw[aiK,Nat.div_add_mod]at U;simp[U,Ah]
  .intro i d H;have hi:i<xs.length:=(aai.1 H).1;refine⟨vs i,AG i d H,λj c I=>?_⟩;have A9:=zF (AG i d H) (A0 d (aaz H)) I;obtain⟨Al,J,U,_⟩:=AA i j hi A9;rw[I]at J;cases J;have:i*M+M<=xs.length*M:=by rw[<-afl];exact aaG _ hi
   simp[U,show i*M+j<xs.length*M by omega]
  .intro j v E;simp only[aaV,aap]at E;obtain⟨k,A6,rfl⟩:=E;have I:j<xs.length*M:=by
    rcases Nat.lt_or_ge j (xs.length*M)with h|h
    .exact h
    .simp[afL (l:=List.range (xs.length*M)) (by simpa using h)]at A6
   simp[I]at A6;subst A6;have AI:0<M:=by rcases Nat.eq_zero_or_pos M with A1|A1;simp[A1]at I;exact A1
   obtain⟨c,_,U,_⟩:=AA (j/M) (j%M) (Nat.div_lt_of_lt_mul (by rw[aiK];exact I)) (Nat.mod_lt _ AI);rw[aiK,Nat.div_add_mod]at U;simp[U]
 |_=>simp at A4
def ja(m:Mem)(sz:Nat):AV->Option (Bool×List D)
 | .d (.list I)=>some (true,I)
 | .d (.str s)=>some (sz=1,s.map λb=>.int .u8 b.toNat)
 | .lit (.slice none 0 0)=>some (true,[])
 | .nn=>some (true,[])
 | .vec k ar off len=>match Mem.get m k with
  |some ⟨_,v,.vec _ aq⟩=>some (v=ar/\off+len<=aq.length,(aq.drop off).take len)
  |_=>none
 |_=>none
structure LO(P:Program)(w:World)(F:Nat->Prop)(sz:Nat)(I:List D)(x:Value)(M:List Value):Prop where
 len:∀w',(Builtin.lenOf x).run P w'=.ok I.length w'
 UW:∀n,n<=I.length->∀w',(∀b,b<w.heap.size->w'.heap[b]?=w.heap[b]?)->(Builtin.firstCells sz n x).run P w'=.ok (M.take (n*sz)).toArray w'
 aq:cM w F sz I M
def LO.first{P w F sz I x M}(h:LO P w F sz I x M)(w':World)(hw:∀b,b<w.heap.size->w'.heap[b]?=w.heap[b]?):(Builtin.firstCells sz I.length x).run P w'=.ok M.toArray w':=by
 rw[h.UW _ (aak _) w' hw,aeJ (by rw[h.aq.1];exact aak _)]
def Mp{P:Program}{S:St}{φ G w}(hm:bF φ G S.mem w){x:AV}{v:Value}(O:aG φ w (Fo G φ S.mem) x v){c I}{sz:Nat}(H:ja S.mem sz x=some (c,I))(Z:c=true)(A1:∀d∈I,d.size=sz):
 ∃M,LO P w (Fo G φ S.mem) sz I v M:=by
 unfold ja at H;split at H
 .rename_i A3;simp at H;obtain⟨_,rfl⟩:=H;cases O with
  |d _ _ h=>
   have A':∃ao m cap,v=.slice ao m cap:=by cases h<;>exact⟨_,_,_,rfl⟩
   obtain⟨ao,m,cap,rfl⟩:=A';obtain⟨rfl,cs,N,A9⟩:=Mo h A1;refine⟨cs,⟨λw'=>by simp[Builtin.lenOf],λn J w' hw=>?_,N⟩⟩;by_cases A4:A3=[]
   .subst A4;have:cs=[]:=aaB (by simpa using N.1);subst this;have U:n=0:=by simpa using J
    subst U;cases ao with
    |none=>simp[Builtin.firstCells]
    |some a=>simp[Builtin.firstCells,loadCells,loadCellsFrom]
   .obtain⟨b,off,rfl,V,_,AA⟩:=A9 A4;exact run_firstCells_some (P:=P) w' sz n ⟨b,off,none⟩ A3.length cap _ (N.take n J |>.1.trans (by simp[J])) (λj u E=>by
     rw[gq,lH (hw b V)];rw[aaM]at E;split at E
     .exact AA j u E
     .cases E)
 .rename_i s;simp only[aaT,abn]at H;obtain⟨rfl,rfl⟩:=H;simp only[aaw]at Z;subst Z;cases O with
  |d _ _ h=>
   cases h with
   |str b _ V=>
    subst V;have AB:b.size=b.data.toList.length:=by rw[aa5];rfl
    refine⟨b.data.toList.map λx=>Value.int .u8 x.toNat,⟨λw'=>by simp only[Builtin.lenOf,List.length_map,<-AB];rfl,λn J w' _=>?_,?_,?_,?_,?_⟩⟩
    .simp only[Builtin.firstCells,Sem.run_pure];congr 1;apply Array.ext';simp
    .simp
    .intro v A';simp only[aaD]at A';obtain⟨y,_,rfl⟩:=A';rfl
    .exact A1
    .intro i d A5;simp only[aaV,aap]at A5;obtain⟨y,AC,rfl⟩:=A5;refine⟨.int .u8 y.toNat,.int _ _,λj c E=>?_⟩;cases j with
     |zero=>simp only[Value.cells]at E;simp at E;subst E;simp only[aaV,ai9,aeG,AC];rfl
     |succ j=>simp[Value.cells]at E
 .simp at H;obtain⟨_,rfl⟩:=H;cases O with
  |lit=>exact⟨[],⟨λw'=>by simp[Builtin.lenOf],λn _ w' _=>by simp[Builtin.firstCells],cM.nil ..⟩⟩
 .simp at H;obtain⟨_,rfl⟩:=H;cases O with
  |nn a cap=>exact⟨[],⟨λw'=>by simp[Builtin.lenOf],λn J w' _=>by
   have U:n=0:=by simpa using J
   subst U;simp[Builtin.firstCells,loadCells,loadCellsFrom],cM.nil ..⟩⟩
 .rename_i k ar off len;split at H
  .rename_i key AO A2 aq AD;simp only[aaT,abn]at H;obtain⟨rfl,rfl⟩:=H;simp only[aaw]at Z;obtain⟨rfl,hle⟩:=Z;obtain⟨AP,AQ,L,AE,AF,A6⟩:=hm.get AD;have AG:((aq.drop off).take len).length=len:=by simp;omega
   cases O with
   |vec _ _ _ _ _ L' A7 _ h AH=>
    rw[AE]at A7;cases A7;obtain⟨ao,cap,rfl,AR,AI⟩:=h AF.symm;clear h AH;by_cases AJ:len=0
    .subst AJ;refine⟨[],⟨λw'=>by simp[Builtin.lenOf],λn J w' _=>?_,by simpa using cM.nil ..⟩⟩;have U:n=0:=by simpa using J
     subst U;cases ao with
     |none=>simp[Builtin.firstCells]
     |some a=>simp[Builtin.firstCells,loadCells,loadCellsFrom]
    .obtain⟨rfl,AS⟩:=AI (by omega);obtain⟨arr,elem,hh,AT,AU,N⟩:=pH A6 (by omega);have AK:A2=sz:=by
      have A0:0<((aq.drop off).take len).length:=by omega
      have AL:=A1 (((aq.drop off).take len)[0]'A0) (aec A0)
      have AM:=N.2.2.1 (((aq.drop off).take len)[0]'A0) (abe (abf (aec A0)))
      rw[<-AL,<-AM]
     subst AK;have AN:L.sz=A2:=A6.1;have A8:=(N.drop off).take len (by simp;omega);refine⟨_,⟨λw'=>by simp[Builtin.lenOf,AG],λn J w' hw=>?_,A8⟩⟩;have V:L.dU<w.heap.size:=hh.lt;exact run_firstCells_some (P:=P) w' A2 n ⟨L.dU,L.base+off*L.sz,none⟩ len cap _ ((A8.take n J).1.trans (by rw[ae0,afV J])) (λj u E=>by
      rw[gq,lH (hw L.dU V),iN hh,AN];rw[aaM]at E;split at E
      .rw[aaM]at E;split at E
       .rw[abp,aaM]at E;split at E
        .rw[abp]at E;rw[aaX];simpa using E
        .cases E
       .cases E
      .cases E)
  .cases H
 .cases H
section
variable {P:Program}
def fJ(P:Program)(u:TypeId):Bool:=
 match P.underlying u with
 |some (.slice _)=>true
 |some .string=>true
 |_=>false
theorem Cx{u:TypeId}(h:fJ P u=true):(∃e,P.underlying u=some (.slice e))\/P.underlying u=some .string:=by
 unfold fJ at h;grind
structure Jk(P:Program)(w:World)(F:Nat->Prop)(u:TypeId)(sz:Nat)(z:Value)(E:List D)(x:Value)(J:List Value):Prop where
 aq:cM w F sz E J
 kind:(fJ P u=true/\LO P w F sz E x J)\/((∃k,P.underlying u=some (.int k))/\(∃AZ,x=.int AZ E.length)/\E.length<=4611686018427387904/\z.cells.size=sz/\J=(Builtin.zeroCells z.cells E.length).toList)
theorem Mr{n:Nat}(h:n<=4611686018427387904):IntKind.i64.wrap (n:Int)=(n:Int):=IntWalk.i64_in _ (by omega)
theorem zG{z:Array Value}{n:Nat}(h:n*z.size=0):Builtin.zeroCells z n=#[]:=by
 apply Array.eq_empty_of_size_eq_zero;rw[size_zeroCells];exact h
theorem tW{w:World}{t u ty e:TypeId}{i:TypeInfo}{z:Value}(A0:P.underlying t=some (.slice e))(hi:P.info? e=some i)(O:i.zero=some z)
 {ao:Option Addr} {len cap:Nat} {F x J} (I:Jk P w F u i.size z [] x J) (hle:len<=cap):
 (Builtin.append_ #[t,u] ty #[.slice ao len cap,x]).run P w=.ok (.slice ao len cap) w:=by
 rcases I.kind with ⟨hu,I⟩|⟨⟨k,A1⟩,⟨AZ,rfl⟩,_,AD,rfl⟩
 .have V:J=[]:=aaB (by simpa using I.aq.1);subst V;have BG:=I.len w;have A_:=I.first w (λ_ _=>rfl);simp at BG A_;rcases Cx hu with ⟨Ay,A1⟩|A1<;>cases ao<;>
   simp[Builtin.append_,run_underlying A0,run_underlying A1,sizeOf,typeInfo,hi,BG,A_,hle,storeCells]
 .have w0:=Mr (n:=0) (by omega);simp at w0;cases ao<;>simp[Builtin.append_,run_underlying A0,run_underlying A1,sizeOf,typeInfo,hi,w0,asInt,asIntOf,hle,storeCells]
theorem run_append_fits{w:World}{t u ty e:TypeId}{i:TypeInfo}{z:Value}(A0:P.underlying t=some (.slice e))(hi:P.info? e=some i)(O:i.zero=some z)
 {g b len cap:Nat} {F E x J} (I:Jk P w F u i.size z E x J) {cur:Array Value} {e':TypeId} (AO:fS w g cur e')
 (A2:len+E.length<=cap) (Ba:b+len*i.size+J.length<=cur.size) (Bb:E.length*i.bytes<=140737488355328):
 (Builtin.append_ #[t,u] ty #[.slice (some ⟨g,b,none⟩) len cap,x]).run P w=.ok (.slice (some ⟨g,b,none⟩) (len+E.length) cap) (w.setRow g (bL cur.toList (b+len*i.size) J).toArray):=by
 obtain⟨Bc,AO,Bd⟩:=AO;have Aq:=kW (P:=P) g (b+len*i.size) e' Bc J 0 cur w AO Bd (by grind) (λx A9=>qi (I.aq.2.1 x A9));rw[dR _ _ _ (by grind)];rcases I.kind with ⟨hu,I⟩|⟨⟨k,A1⟩,⟨AZ,rfl⟩,Az,AD,rfl⟩
 .have A_:=I.first w (λ_ _=>rfl);rcases Cx hu with ⟨Ay,A1⟩|A1<;>simp[Builtin.append_,run_underlying A0,run_underlying A1,sizeOf,typeInfo,hi,I.len,A2,A_,gq,Aq]
 .have wn:=Mr Az;have A6:¬((E.length:Int)<0):=by omega
  have AA:¬(281474976710656<(E.length:Int)*(i.bytes:Int)):=by
   grind
  by_cases AE:E.length*i.size=0
  .have B':=zG (z:=z.cells) (n:=E.length) (by grind);rw[B']at Aq⊢;simp[Builtin.append_,run_underlying A0,run_underlying A1,sizeOf,typeInfo,hi,wn,asInt,asIntOf,A6,AA,AE,A2,gq,Aq]
  .simp[Builtin.append_,run_underlying A0,run_underlying A1,sizeOf,typeInfo,zeroValue,hi,O,wn,asInt,asIntOf,A6,AA,AE,A2,gq,Aq]
theorem wb{w:World}{t u ty e:TypeId}{i:TypeInfo}{z:Value}(A0:P.underlying t=some (.slice e))(hi:P.info? e=some i)(O:i.zero=some z)
 {ao:Option Addr} {len cap:Nat} {F E x J} (I:Jk P w F u i.size z E x J) (A4:List Value)
 (hold:∀w',w'.heap=w.heap->(Builtin.firstCells i.size len (.slice ao len cap)).run P w'=.ok A4.toArray w')
 (A2:cap<len+E.length) (CF:len+E.length<=9223372036854775807) (Ba:Builtin.nextslicecap (len+E.length) cap*i.bytes<=281474976710656) (Bb:E.length*i.bytes<=140737488355328):
 (Builtin.append_ #[t,u] ty #[.slice ao len cap,x]).run P w=
  .ok (.slice (some ⟨w.heap.size,0,none⟩) (len+E.length) (grownCap w (len+E.length) cap e))
   (w.drew.alloc (.cells (A4.toArray++J.toArray++Builtin.zeroCells z.cells (grownCap w (len+E.length) cap e-(len+E.length))) e)):=by
 have V:¬(len+E.length<=cap):=by omega
 have BH:¬(9223372036854775807<((len:Int)+(E.length:Int))):=by omega
 have BI:¬(281474976710656<Builtin.nextslicecap (len+E.length) cap*i.bytes):=by omega
 have B0:=hold w.drew rfl;rcases I.kind with ⟨hu,I⟩|⟨⟨k,A1⟩,⟨AZ,rfl⟩,Az,AD,rfl⟩
 .have A_:=I.first w.drew (λ_ _=>rfl);rcases Cx hu with ⟨Ay,A1⟩|A1<;>
   (simp[Builtin.append_,run_underlying A0,run_underlying A1,sizeOf,typeInfo,zeroValue,hi,O,I.len,Question.forced,A_,B0,jB,grownCap]
    grind)
 .have wn:=Mr Az;have A6:¬((E.length:Int)<0):=by omega
  have AA:¬(281474976710656<(E.length:Int)*(i.bytes:Int)):=by
   grind
  by_cases AE:E.length*i.size=0
  .have B':=zG (z:=z.cells) (n:=E.length) (by grind);rw[B'];simp[Builtin.append_,run_underlying A0,run_underlying A1,sizeOf,typeInfo,zeroValue,hi,O,wn,asInt,asIntOf,A6,AA,AE,V,BH,BI,Question.forced,B0,jB,grownCap]
  .simp[Builtin.append_,run_underlying A0,run_underlying A1,sizeOf,typeInfo,zeroValue,hi,O,wn,asInt,asIntOf,A6,AA,AE,V,BH,BI,Question.forced,B0,jB,grownCap]
end
def uN{z:Array Value}{n:Nat}(h:∀v∈z,cR v=true):∀v∈Builtin.zeroCells z n,cR v=true:=by
 intro v Z;simp[Builtin.zeroCells]at Z;obtain⟨i,hi,rfl⟩:=Z;have BJ:0<z.size:=by
  grind
 have Be:i%z.size<z.size:=Nat.mod_lt _ BJ;grind
def abt{P:Program}{t:TypeId}{k}(h:tk P t=.int k):P.underlying t=some (.int k):=by
 unfold tk at h;grind
def SB(N:D):AV->Option (Bool×List D)
 | .d (.int _ n)=>some (decide (0<=n)&&decide (n<=4611686018427387904),List.replicate n.toNat N)
 |_=>none
def Yc(b:Bool):Option (Bool×List D)->Option (Bool×List D)
 |some (c,E)=>some (c&&b,E)
 |none=>none
def Cy(P:Program)(m:Mem)(sz:Nat)(N:D)(u:TypeId)(x:AV):Option (Bool×List D):=
 match tk P u with
 | .int _=>SB N x
 |_=>Yc (fJ P u) (ja m sz x)
def cM.ajJ{w:World}{F:Nat->Prop}{z:Array Value}{sz:Nat}{N:D}(AM:∀v∈z,cR v=true)(AD:z.size=sz)(A1:N.size=sz)(Z:∃v,aP w F N v/\v.cells=z)(n:Nat):
 cM w F sz (List.replicate n N) (Builtin.zeroCells z n).toList:=by
 refine⟨by simp[size_zeroCells,AD],λv Z=>uN AM v (by simpa using Z),λd CG=>by grind,λi d hi=>?_⟩;obtain⟨BK,rfl⟩:=aai.1 hi;obtain⟨v,A6,AA⟩:=Z;refine⟨v,by grind,λj c U=>?_⟩;have Bf:j<z.size:=by grind
 simp at BK;have Be:i*sz+j<n*z.size:=by
  rw[AD];have:i*sz+sz<=n*sz:=by rw[<-afl];exact aaG _ BK
  omega
 simp only[Builtin.zeroCells,Array.getElem?_map];have e:(i*sz+j)%z.size=j:=by rw[<-AD,aiK,Nat.mul_add_mod,Nat.mod_eq_of_lt Bf]
 grind
def QS{P:Program}{S:St}{φ G w}(hm:bF φ G S.mem w){u:TypeId}{i:TypeInfo}{z:Value}{N:D}(AM:∀v∈z.cells,cR v=true)(AD:z.cells.size=i.size)(Ar:N.size=i.size)(Bg:∃v,aP w (Fo G φ S.mem) N v/\v.cells=z.cells)
 {x:AV} {v:Value} (A9:aG φ w (Fo G φ S.mem) x v) {c E} (I:Cy P S.mem i.size N u x=some (c,E)) (AF:c=true) (B2:∀d∈E,d.size=i.size):
 ∃J,Jk P w (Fo G φ S.mem) u i.size z E v J:=by
 unfold Cy at I;split at I
 .rename_i k AN;unfold SB at I;split at I
  .rename_i AZ n;cases I;cases A9 with
   |d _ _ A9=>
    cases A9;have V:((List.replicate n.toNat N).length:Int)=n:=by grind
    refine⟨_,cM.ajJ AM AD Ar Bg n.toNat,.inr ⟨⟨k,abt AN⟩,⟨AZ,by rw[V]⟩,by grind,AD,by simp⟩⟩
  grind
 .cases M:ja S.mem i.size x with
  |none=>rw[M]at I;cases I
  |some y=>
   rw[M]at I;cases I;simp at AF;obtain⟨J,V⟩:=Mp (P:=P) hm A9 M AF.1 B2;exact⟨J,V.aq,.inl ⟨AF.2,V⟩⟩
def AR(P:Program)(m:Mem)(u:TypeId)(sz AP:Nat)(N:D)(s x:AV):dO:=
 match s,x with
 | .vec k ar off len,.vec BL BM 0 1=>match Mem.get m k,Mem.get m BL with
  |some ⟨_,v,.vv aq none⟩,some ⟨_,BN,.box [.lit (.slice none 0 0)]⟩=>
   .dA (fJ P u=true/\BN=BM/\v=ar/\sz=1/\N.size=1/\off+len<=aq.length/\(len+1)*AP<=140737488355328/\len+1<=4611686018427387904) (.vec k (ar+1) 0 (len+1)) ⟨k,ar+1,.vv ((aq.drop off).take len++[[]]) none⟩
  |_,_=>.no
 |_,_=>.no
def Mv{φ φ':cj}{w w':World}{F F':Nat->Prop}{L:Loc}{aq:List (List D)}(h:mf φ w F L aq none){off len:Nat}(hle:off+len<=aq.length)
 (L':Loc) (O:L'.sz=1) (I:L'.ea=(L.ea.drop off).take len++[none]) (B3:len+1<=L'.cap) (H:∀b,some b∈L.ea->b≠L'.dU) {Aa:Array Value} {BO:TypeId} (M:fS w' L'.dU Aa BO) (B2:Aa.size=L'.base+L'.cap) (A6:∀v∈Aa,cR v=true)
 (hold:∀i,i<len->∃(arr:Array Value)(elem:TypeId),0<L.cap/\fS w L.dU arr elem/\Aa[L'.base+i]?=arr[L.base+off+i]?) (Ag:Aa[L'.base+len]?=some (.slice none 0 0))
 (A1:∀d u,aP w F d u->aP w' F' d u) (hw:∀b,some b∈L.ea->w'.heap[b]?=w.heap[b]?):mf φ' w' F' L' ((aq.drop off).take len++[[]]) none:=by
 obtain⟨⟨g1,g2,g3⟩,g4,g5,g6⟩:=h;have Bh:((aq.drop off).take len).length=len:=by grind
 have Bi:((L.ea.drop off).take len).length=len:=by grind
 have Bj:∀b,some b∈L'.ea->some b∈L.ea:=by
  grind
 refine⟨⟨O,by grind,by grind⟩,λi j b hi U=>?_,λb Bk=>⟨by omega,H b (Bj b Bk)⟩,λ_=>?_⟩
 .grind
 .refine⟨Aa,BO,M,B2,A6,λi xs o hi AB=>?_,λx A9=>by cases A9⟩;by_cases B4:i<len
  .rw[aaC (by omega),aaM,aav B4,abp]at hi;rw[I,aaC (by omega),aaM,aav B4,abp]at AB;obtain⟨arr,elem,A5,Bl,hold⟩:=hold i B4;obtain⟨Bm,CH,q1,q2,q3,Bn,_⟩:=g6 A5;have Bo:Bm=arr:=by
    obtain⟨f1,CI,_⟩:=q1;obtain⟨f2,Ay,_⟩:=Bl;grind
   subst Bo;rw[hold,aaX];exact (Bn (off+i) xs o hi AB).mono (λd u _ Bp=>A1 d u Bp) (λb e=>hw b (by grind))
  .have Bq:i=len:=by
    grind
   subst Bq;rw[aaJ (by omega),Bh]at hi;rw[I,aaJ (by omega),Bi]at AB;simp at hi AB;subst hi;subst AB;exact⟨rfl,none,Ag⟩
def abu(P:Program)(S:St)(o:Oper)(s x:Operand)(t u:TypeId)(AB:o.op=.call {callee:=.builtin .append,args:=#[s,x],argTypes:=#[t,u]})
 (I:(S.au s).1=true) (A9:(S.au x).1=true) {e:TypeId} (A0:P.underlying t=some (.slice e)) {i:TypeInfo} {z:Value} (hi:P.info? e=some i) (O:i.zero=some z) {N:D} (Ab:z.cells.size=N.size) (AM:∀v∈z.cells,cR v=true):
 aL P S o (AR P S.mem u i.size i.bytes N (S.au s).2 (S.au x).2):=by
 have AG:∀(a:Act)(w w':World)(v:Value),(Builtin.append_ #[t,u] o.type #[a.eval s,a.eval x]).run P w=.ok v w'->(execOp a.eval o).run P w=.ok (.value v) w':=by
  intro a w w' v h;simp[execOp,AB,resolve,invoke,builtin,h]
 unfold AR;split
 .rename_i k ar off len BL BM Ah Ai;split
  .rename_i key v aq CJ BN AO Br;refine aL.uM ?_;rintro ⟨As,rfl,rfl,Ac,AD,hle,H,AU⟩ φ G a w M;obtain⟨hm,AN,L,A5,A3,A7⟩:=M.mem.get AO;simp only at AN A3 A7;subst AN;obtain⟨CK,BP,B5,Bs,BQ,⟨Bt,Bu,CL⟩,At,CM,BR,Bv,_,Bw⟩:=M.mem.get Br;simp only at BP BQ;subst BP;have Z:=M.au s I;have B6:=M.au x A9;rw[Ah]at Z;rw[Ai]at B6;have Bx:At[0]?=some (.slice none 0 0):=by
    have AE:0<At.size:=by rw[Bv];simp
    have:=Bw 0 _ At[0] rfl (by simp[AE]);generalize A':At[0]=q at this;cases this;simp[AE,A']
   generalize hex:a.eval x=CN at B6;cases B6 with
   |vec _ _ _ _ _ L' AQ _ h _=>
    rw[Bs]at AQ;cases AQ;obtain⟨CO,BS,rfl,CP,By⟩:=h BQ.symm;clear h;obtain⟨rfl,_⟩:=By (by omega);have A8:Jk P w (Fo G φ S.mem) u i.size z [.list []] (.slice (some ⟨B5.dU,B5.base+0*B5.sz,none⟩) 1 BS) [.slice none 0 0]:=by
     have Aj:cM w (Fo G φ S.mem) i.size [.list []] [.slice none 0 0]:=by
      refine⟨by simp[Ac],by simp[cR],by simp[Ac,D.size],λn d V=>?_⟩;cases n with
      |zero=>simp at V;subst V;exact⟨.slice none 0 0,.nil none 0 (λ_=>rfl),λj c U=>by simpa [Value.cells]using U⟩
      |succ n=>simp at V
     refine⟨Aj,.inl ⟨As,λw'=>by simp[Builtin.lenOf],λn V w' Ad=>?_,Aj⟩⟩;refine run_firstCells_some (P:=P) w' i.size n _ 1 BS _ (by have:n<=1:=V;simp[Ac];omega) (λj c U=>?_);rw[gq,lH (Ad _ BR.lt),iN BR,Bt,Bu];rw[aaM]at U;split at U
     .cases j with
      |zero=>simp at U;subst U;simpa using Bx
      |succ j=>simp at U
     .cases U
    generalize AC:a.eval s=BT at Z;cases Z with
    |vec _ _ _ _ _ L' AQ _ h _=>
     rw[A5]at AQ;cases AQ;obtain⟨ao,cap,rfl,BU,Ae⟩:=h A3.symm;clear h;have BV:∀b,some b∈L.ea->b<w.heap.size:=λb H=>M.mem.G8 ⟨_,hm,L,A5,.inr H⟩;have Bz:∀b,some b∈(L.ea.drop off).take len++[none]->some b∈L.ea:=by
      intro b H;rcases aaA.1 H with H|H
      .exact abe (abf H)
      .simp at H
     have grow:∀(A4:List Value),A4.length=len->(∀q∈A4,cR q=true)->(∀n,n<len->∃(arr:Array Value)(elem:TypeId),0<L.cap/\fS w L.dU arr elem/\A4[n]?=arr[L.base+off+n]?)->
      (∀w',w'.heap=w.heap->(Builtin.firstCells i.size len (.slice ao len cap)).run P w'=.ok A4.toArray w')->cap<len+1->
      ∃vv w' φ',Hb P o a w vv w'/\aG φ' w' (Fo G φ' (Mem.set S.mem ⟨key,v+1,.vv ((aq.drop off).take len++[[]]) none⟩)) (.vec key (v+1) 0 (len+1)) vv/\
       bF φ' G (Mem.set S.mem ⟨key,v+1,.vv ((aq.drop off).take len++[[]]) none⟩) w'/\bj φ S.mem w φ' (Mem.set S.mem ⟨key,v+1,.vv ((aq.drop off).take len++[[]]) none⟩) w'/\∀k,k≠key->φ' k=φ k:=by
      intro A4 Ak C' hold C0 A2;have B7:=grownCap_ge w (len+1) cap e;have C1:z.cells.size=1:=by rw[Ab];exact AD
      have Au:=wb (P:=P) (ty:=o.type) A0 hi O A8 A4 C0 (by simpa using A2) (by simp;omega) (growslice_fits (by simpa using A2) (by simpa using H)) (by simp;have:=aaG i.bytes (ajm 1 len);omega);simp only[aeT]at Au;obtain⟨φ',AH,AI,AJ,AK⟩:=M.mem.UQ (e:=⟨key,v,.vv aq none⟩) hm A5 A3 w.drew rfl rfl rfl rfl
       (A4.toArray++[Value.slice none 0 0].toArray++Builtin.zeroCells z.cells (grownCap w (len+1) cap e-(len+1))) e (.vv ((aq.drop off).take len++[[]]) none)
       ⟨v+1,w.heap.size,1,grownCap w (len+1) cap e,0,(L.ea.drop off).take len++[none]⟩ rfl
       (λb H=>by
        rcases H with ⟨_,H⟩|H
        .exact .inr H
        .exact .inl (.inr (Bz b H))) (λφ' Av B8 AW Ag C2=>by
       refine Mv A7 hle _ rfl rfl (by simp only;omega) (λb H=>by have:=BV b H;simp only;omega) (.new Ag) ?_ ?_ ?_ ?_ AW (λb H=>C2 b (BV b H))
       .simp only[Array.size_append,aeu,Ak,aeT,size_zeroCells,C1];omega
       .intro q A';simp only[Array.mem_append]at A';rcases A' with (A'|A')|A'
        .exact C' q (by simpa using A')
        .simp at A';subst A';rfl
        .exact uN AM q A'
       .intro n V;obtain⟨arr,elem,A6,AA,Al⟩:=hold n V;refine⟨arr,elem,A6,AA,?_⟩;rw[<-Al];simp only[aeF];rw[afK (by simp;omega),afK (by simp;omega),aeE]
       .simp only[aeF];rw[afK (by simp;omega),Array.getElem?_append_right (by simp;omega)];simp[Ak])
      refine⟨_,_,φ',.inl (AG a w _ _ (by rw[AC,hex];exact Au)),?_,AH,AI,AK⟩;exact .vec key (v+1) 0 _ _ _ AJ (aak _) (λ_=>⟨_,_,rfl,B7,λ_=>⟨by simp,by simp⟩⟩) rfl
     by_cases An:0<L.cap
     .obtain⟨arr,elem,hh,Aw,Af,_,_⟩:=A7.2.2.2 An;have BW:∀b,some b∈L.ea->b≠L.dU:=λb H=>(A7.2.2.1 b H).2;have CQ:∀b,some b∈L.ea->aE.dw L (.vv aq none) b:=λb H=>.inr H;have C3:∀b,some b∈(L.ea.drop off).take len++[none]->some b∈L.ea:=by
       intro b H;rcases aaA.1 H with H|H
       .exact abe (abf H)
       .simp at H
      by_cases A2:len+[D.list []].length<=cap
      .simp only[aeT]at A2;obtain⟨rfl,B9⟩:=Ae (by omega);have AS:L.base+off*L.sz+len*i.size+[Value.slice none 0 0].length<=arr.size:=by rw[Aw,A7.1.1,Ac];simp;omega
       have AX:=run_append_fits (P:=P) (ty:=o.type) A0 hi O A8 hh (by simpa using A2) AS (by simp;have:=aaG i.bytes (ajm 1 len);omega);have BX:=AG a w _ _ (by rw[AC,hex];exact AX);rw[A7.1.1,Ac,ai9,ai9]at BX AS;have Ao:L.base+off+len+[Value.slice none 0 0].length<=arr.toList.length:=by simpa using AS
       obtain⟨φ',AH,AI,AJ,AK⟩:=M.mem.Mn (e:=⟨key,v,.vv aq none⟩) hm A5 A3 (b0:=L.dU) (.inl ⟨An,rfl⟩) (bL arr.toList (L.base+off+len) [Value.slice none 0 0]).toArray ⟨v+1,L.dU,1,L.cap-off,L.base+off,(L.ea.drop off).take len++[none]⟩ (ajb _) (λhh=>by simp only at A3 hh;omega) (.vv ((aq.drop off).take len++[[]]) none)
        (λb H=>by
         rcases H with ⟨_,H⟩|H
         .exact .inl ⟨An,H⟩
         .exact .inr (C3 b H)) (λφ' Av B8 AW=>by
        refine Mv A7 hle _ rfl rfl (by simp only;omega) BW (hh.setRow _ (by rw[aeu,cm _ _ _ Ao];simp)) ?_ ?_ ?_ ?_ AW ?_
        .rw[aeu,cm _ _ _ Ao];simp only[aa5,Aw];omega
        .intro q A';rcases ml Ao (by simpa using A')with A'|A'
         .exact Af q (by simpa using A')
         .simp at A';subst A';rfl
        .intro n V;refine⟨arr,elem,An,hh,?_⟩;simp only
         rw[aeE,iO _ _ _ Ao,aav (by omega)];simp
        .simp only
         rw[aeE,iO _ _ _ Ao,aaf (by omega),aav (by simp)];simp
        .intro b H;exact p9 w L.dU b _ (BW b H))
       refine⟨_,_,φ',.inl BX,?_,AH,AI,AK⟩;exact .vec key (v+1) 0 _ _ _ AJ (aak _) (λ_=>⟨_,_,rfl,by simpa using A2,λ_=>⟨by simp,by simp only;omega⟩⟩) rfl
      .have C4:cap<len+1:=by simpa using A2
       have BA:=A7.1.2.1;simp only[Option.toList_none,aay,aeG]at BA;refine grow ((arr.toList.drop (L.base+off)).take len) (by simp;omega) (λq A'=>Af q (by simpa using abe (abf A'))) (λn V=>⟨arr,elem,An,hh,?_⟩) (λw' Ad=>?_) C4
       .rw[aaM,aav V,abp];simp
       .by_cases AY:len=0
        .subst AY;cases ao with
         |none=>simp[Builtin.firstCells]
         |some a=>simp[Builtin.firstCells,loadCells,loadCellsFrom]
        .obtain⟨rfl,B9⟩:=Ae (by omega);refine run_firstCells_some (P:=P) w' i.size len _ len cap _ (by simp[Ac];omega) (λj c U=>?_);rw[gq,lH (w:=w) (w':=w') (by rw[Ad]),iN hh,A7.1.1,ai9];rw[aaM]at U;split at U
         .rw[abp]at U;simpa using U
         .cases U
     .have BA:=A7.1.2.1;simp only[Option.toList_none,aay,aeG]at BA;have AY:len=0:=by omega
      have C5:cap=0:=by
       rcases Nat.eq_zero_or_pos cap with AE|AE
       .exact AE
       .have:=(Ae AE).2;omega
      subst AY;subst C5;refine grow [] rfl (by simp) (λn V=>by omega) (λw' Ad=>?_) (by omega);cases ao with
      |none=>simp[Builtin.firstCells]
      |some a=>simp[Builtin.firstCells,loadCells,loadCellsFrom]
  .trivial
 .trivial
def uO(P:Program)(m:Mem)(BB:Nat)(t:TypeId)(u:TypeId)(s x:AV):dO:=
 match tk P t with
 | .slice e=>match fW P e,zE P e,np P e with
  |some sz,some AP,some N=>match Cy P m sz N u x with
   |some (c,E)=>match s with
    | .vec k ar off len=>match Mem.get m k with
     |some ⟨_,v,.vec BY aq⟩=>.dA (c/\N.size=sz/\v=ar/\off+len<=aq.length/\BY=sz/\(∀d∈E,d.size=sz)/\(len+E.length)*AP<=140737488355328/\len+E.length<=4611686018427387904)
      (.vec k (ar+1) 0 (len+E.length)) ⟨k,ar+1,.vec sz ((aq.drop off).take len++E)⟩
     |_=>.no
    | .lit (.slice none 0 0)=>match Mem.get m BB with
     |some ⟨_,v,_⟩=>.dA (c/\N.size=sz/\(∀d∈E,d.size=sz)/\E.length*AP<=140737488355328/\E.length<=4611686018427387904)
      (.vec BB (v+1) 0 E.length) ⟨BB,v+1,.vec sz E⟩
     |_=>.no
    |_=>.no
   |none=>AR P m u sz AP N s x
  |_,_,_=>.no
 |_=>.no
def gR{P:Program}{t e:TypeId}(h:tk P t=.slice e):P.underlying t=some (.slice e):=by
 unfold tk at h;split at h<;>simp_all
def QT{P:Program}{e:TypeId}{sz AP:Nat}{N:D}(A6:fW P e=some sz)(AA:zE P e=some AP)(Al:np P e=some N):
 ∃i z,P.info? e=some i/\i.size=sz/\i.bytes=AP/\i.zero=some z/\z.cells.size=N.size/\(∀v∈z.cells,cR v=true)/\∀w' F,∃v,aP w' F N v/\v.cells=z.cells:=by
 unfold fW at A6;unfold zE at AA;cases hi:P.info? e with
 |none=>simp[hi]at A6
 |some i=>
  simp[hi]at A6 AA;obtain⟨z,AG,C6,C7,C8⟩:=Hd Al default;cases O:i.zero with
  |none=>simp[zeroValue,typeInfo,hi,O,unsupported]at AG
  |some C9=>
   simp[zeroValue,typeInfo,hi,O]at AG;subst AG;exact⟨i,C9,rfl,A6,AA,O,C6,C7,C8⟩
def aeb(P:Program)(S:St)(o:Oper)(s x:Operand)(t u:TypeId)(AB:o.op=.call {callee:=.builtin .append,args:=#[s,x],argTypes:=#[t,u]})
 (I:(S.au s).1=true) (A9:(S.au x).1=true):aL P S o (uO P S.mem (keyOf o) t u (S.au s).2 (S.au x).2):=by
 have AG:∀(a:Act)(w w':World)(v:Value),(Builtin.append_ #[t,u] o.type #[a.eval s,a.eval x]).run P w=.ok v w'->(execOp a.eval o).run P w=.ok (.value v) w':=by
  intro a w w' v h;simp[execOp,AB,resolve,invoke,builtin,h]
 unfold uO;split
 .rename_i e CA;have A0:=gR CA;split
  .rename_i sz AP N A6 AA Al;obtain⟨i,z,hi,rfl,rfl,O,Ab,AM,Ar⟩:=QT A6 AA Al;split
   .rename_i c E As
    --CS CT a new block
    have grow:∀{φ G}{a:Act}{w:World}(M:Rel φ G S a w){J:List Value}(A8:Jk P w (Fo G φ S.mem) u i.size z E (a.eval x) J){key ar:Nat}{cont:aE}(hm:(⟨key,ar,cont⟩:cL)∈S.mem){L:Loc}(A5:φ key=some L)(A3:L.ar=ar)
     (ao:Option Addr) (len cap:Nat) (AC:a.eval s=.slice ao len cap) (A4:List Value) (AT:List D) (BZ:cM w (Fo G φ S.mem) i.size AT A4) (Ak:AT.length=len)
     (hold:∀w',w'.heap=w.heap->(Builtin.firstCells i.size len (.slice ao len cap)).run P w'=.ok A4.toArray w')
     (A2:cap<len+E.length) (H:(len+E.length)*i.bytes<=140737488355328) (AU:len+E.length<=4611686018427387904) (AL:N.size=i.size),
     ∃v w' φ',Hb P o a w v w'/\aG φ' w' (Fo G φ' (Mem.set S.mem ⟨key,ar+1,.vec i.size (AT++E)⟩)) (.vec key (ar+1) 0 (len+E.length)) v/\
      bF φ' G (Mem.set S.mem ⟨key,ar+1,.vec i.size (AT++E)⟩) w'/\bj φ S.mem w φ' (Mem.set S.mem ⟨key,ar+1,.vec i.size (AT++E)⟩) w'/\∀k,k≠key->φ' k=φ k:=by
     intro φ G a w M J A8 key ar cont hm L A5 A3 ao len cap AC A4 AT BZ Ak hold A2 H AU AL;have B7:=grownCap_ge w (len+E.length) cap e;have Au:=wb (P:=P) (ty:=o.type) A0 hi O A8 A4 hold A2 (by omega) (growslice_fits A2 H) (by have:=aaG i.bytes (ajm E.length len);omega);have Aj:cM w (Fo G φ S.mem) i.size (AT++E) (A4++J):=BZ.append A8.aq;obtain⟨φ',AH,AI,AJ,AK⟩:=M.mem.fresh (e:=⟨key,ar,cont⟩) hm A5 A3 w.drew rfl rfl rfl rfl
      (A4.toArray++J.toArray++Builtin.zeroCells z.cells (grownCap w (len+E.length) cap e-(len+E.length))) e i.size (grownCap w (len+E.length) cap e) (.vec i.size (AT++E)) (λ_ H=>H.2) (λφ' hle B8 AW Ag=>by
       refine yQ (cs:=A4++J) (rest:=(Builtin.zeroCells z.cells (grownCap w (len+E.length) cap e-(len+E.length))).toList) (elem:=e) rfl rfl (Aj.mono AW) ?_ (by simp;omega) ?_ (λ_=>?_)
       .intro v Z;exact uN AM v (by simpa using Z)
       .have AD:z.cells.size=i.size:=by
         rw[Ab];exact AL
        rw[aal,Aj.1];simp only[aa5,size_zeroCells,AD,aal,Ak,<-aeh];congr 1;omega
       .refine fS.new ?_;rw[Ag];congr 2;apply Array.ext';simp)
     refine⟨_,_,φ',.inl (AG a w _ _ (by rw[AC];exact Au)),?_,AH,AI,AK⟩;exact .vec key (ar+1) 0 _ _ _ AJ (aak _) (λ_=>⟨_,_,rfl,B7,λ_=>⟨by simp,by simp⟩⟩) rfl
    split
    .rename_i k ar off len Ah;split
     .rename_i key v BY aq AO;refine aL.uM ?_;rintro ⟨AF,AL,rfl,hle,rfl,BC,H,AU⟩ φ G a w M;obtain⟨hm,AN,L,A5,A3,A7⟩:=M.mem.get AO;simp only at AN;subst AN;have Z:=M.au s I;have Ai:=M.au x A9;rw[Ah]at Z;obtain⟨J,A8⟩:=QS (P:=P) M.mem AM (by rw[Ab];exact AL) AL (Ar _ _) Ai As AF BC;generalize AC:a.eval s=BT at Z;cases Z with
      |vec _ _ _ _ _ L' AQ _ h _=>
       rw[A5]at AQ;cases AQ;obtain⟨ao,cap,rfl,BU,Ae⟩:=h A3.symm;clear h;have BD:L.sz=i.size:=A7.1;have BE:((aq.drop off).take len).length=len:=by simp;omega
       by_cases A2:len+E.length<=cap
       .by_cases B3:cap=0
        · --nothing CU nothing
         have Ax:E=[]:=aaB (by omega);have AY:len=0:=by omega
         subst Ax;subst AY;have AX:=tW (P:=P) (ty:=o.type) (ao:=ao) A0 hi O A8 BU;obtain⟨φ',AH,AI,AJ,AK⟩:=M.mem.dA (e':=⟨key,v+1,.vec i.size ((aq.drop off).take 0++[])⟩) hm A5 rfl (L':={L with ar:=v+1}) (by simp only at A3;simp;omega) (λhh=>by simp only at A3 hh;omega) rfl
          (w':=w) (λ_ _ _=>rfl) (aak _) (λ_ AB=>.inl AB) rfl rfl rfl (λφ' CB Av=>by
           obtain⟨g1,g2,g3,g4⟩:=A7;refine⟨g1,by simp,by simp,λAF=>?_⟩;obtain⟨arr,elem,f1,f2,f3,f4⟩:=g4 AF;exact⟨arr,elem,f1,f2,f3,by simp⟩)
         refine⟨_,w,φ',.inl (AG a w w _ (by rw[AC];exact AX)),?_,AH,AI,AK⟩;exact .vec key (v+1) 0 _ _ _ AJ (aak _) (λ_=>⟨_,_,rfl,by simp,λh=>by omega⟩) rfl
        .obtain⟨rfl,B9⟩:=Ae (by omega);obtain⟨arr,elem,hh,Aw,Af,BF⟩:=pH A7 (by omega);obtain⟨B,B_⟩:∃B,B=L.base+off*i.size:=⟨_,rfl⟩;have Ap:=((BF.drop off).take len (by simp;omega));have CC:(((arr.toList.drop L.base).take (aq.length*i.size)).drop (off*i.size)).take (len*i.size)=(arr.toList.drop B).take (len*i.size):=by
          have:off*i.size+len*i.size<=aq.length*i.size:=by rw[<-aeh];exact aaG _ hle
          rw[List.drop_take,List.take_take,afV (by omega),List.drop_drop,B_]
         rw[CC]at Ap;have CD:=Ap.append A8.aq;have CE:=A8.aq.1;have CV:len*i.size+J.length<=(L.cap-off)*i.size:=by
          rw[CE,<-aeh];exact aaG _ (by omega)
         have CW:off*i.size+(L.cap-off)*i.size=L.cap*i.size:=by rw[<-aeh];congr 1;omega
         have AS:B+len*i.size+J.length<=arr.size:=by omega
         rw[BD,<-B_]at AC;have AX:=run_append_fits (P:=P) (ty:=o.type) A0 hi O A8 hh A2 AS (by have:=aaG i.bytes (ajm E.length len);omega);obtain⟨φ',AH,AI,AJ,AK⟩:=M.mem.Mn (e:=⟨key,v,.vec i.size aq⟩) hm A5 A3 (b0:=L.dU) ⟨by omega,rfl⟩ (bL arr.toList (B+len*i.size) J).toArray ⟨v+1,L.dU,L.sz,L.cap-off,B,[]⟩ (ajb _) (λhh=>by simp only at A3 hh;omega) (.vec i.size ((aq.drop off).take len++E)) (λ_ H=>⟨by omega,H.2⟩) (λφ' Av B8 AW=>by
          refine wa (pre:=arr.toList.take B) (cs:=(arr.toList.drop B).take (len*i.size)++J) (rest:=arr.toList.drop (B+len*i.size+J.length)) (elem:=elem) BD (CD.mono AW) ?_ ?_ ?_ (by rw[aal,BE];simp only;omega) ?_ (λ_=>?_)
          .simp only[ae0,aa5];omega
          .intro z O;exact Af z (by simpa using abf O)
          .intro z O;exact Af z (by simpa using abe O)
          .show _=(L.cap-off)*i.size;simp only[aal,ae0,aeQ,aa5];omega
          .have e:=hh.setRow (bL arr.toList (B+len*i.size) J).toArray (by show (bL arr.toList _ _).length=_;rw[cm _ _ _ (by simpa using AS)];simp);rw[dR _ _ _ (by simpa using AS),List.take_add]at e;rw[dR _ _ _ (by simpa using AS),List.take_add];simpa [adX]using e)
         refine⟨_,_,φ',.inl (AG a w _ _ (by rw[AC];exact AX)),?_,AH,AI,AK⟩;exact .vec key (v+1) 0 _ _ _ AJ (aak _) (λ_=>⟨_,_,rfl,A2,λ_=>⟨by simp,by simp only;omega⟩⟩) rfl
       .by_cases B3:cap=0
        .subst B3;have AY:len=0:=by omega
         subst AY;have:=grow M A8 hm A5 A3 ao 0 0 AC [] [] (cM.nil ..) rfl (λw' _=>by cases ao<;>simp[Builtin.firstCells,loadCells,loadCellsFrom]) (by omega) H AU AL;simpa using this
        .obtain⟨rfl,B9⟩:=Ae (by omega);obtain⟨arr,elem,hh,Aw,Af,BF⟩:=pH A7 (by omega);have Ap:=((BF.drop off).take len (by simp;omega));exact grow M A8 hm A5 A3 _ len cap AC _ ((aq.drop off).take len) Ap BE (λw' Ad=>by
          refine run_firstCells_some (P:=P) w' i.size len _ len cap _ (by rw[Ap.1,BE]) (λj u U=>?_);rw[gq,show w'.cell? ⟨L.dU,L.base+off*L.sz+j,none⟩=w.cell? ⟨L.dU,L.base+off*L.sz+j,none⟩ by simp[World.cell?,Ad],iN hh,BD];rw[aaM]at U;split at U
          .rw[abp,aaM]at U;split at U
           .rw[abp]at U;rw[aaX];simpa using U
           .cases U
          .cases U) (by omega) H AU AL
     .trivial
    .rename_i Ah;split
     .rename_i key v cont AO;refine aL.uM ?_;rintro ⟨AF,AL,BC,H,AU⟩ φ G a w M;obtain⟨hm,AN,L,A5,A3,A7⟩:=M.mem.get AO;simp only at AN A3;subst AN;have Z:=M.au s I;have Ai:=M.au x A9;rw[Ah]at Z;obtain⟨J,A8⟩:=QS (P:=P) M.mem AM (by rw[Ab];exact AL) AL (Ar _ _) Ai As AF BC;generalize AC:a.eval s=BT at Z;cases Z;by_cases Ax:E=[]
      .subst Ax;have AX:=tW (P:=P) (ty:=o.type) (ao:=none) (len:=0) (cap:=0) A0 hi O A8 (aak _);obtain⟨φ',AH,AI,AJ,AK⟩:=M.mem.dA (e':=⟨keyOf o,v+1,.vec i.size []⟩) hm A5 rfl (L':=⟨v+1,0,i.size,0,0,[]⟩) (by simp only;omega) (λhh=>by simp only at hh;omega) rfl
        (w':=w) (λ_ _ _=>rfl) (aak _) (λ_ AB=>absurd AB.1 (by simp)) rfl rfl rfl (λφ' CB Av=>
         ⟨rfl,by simp,by simp,λAF=>by simp at AF⟩)
       refine⟨_,w,φ',.inl (AG a w w _ (by rw[AC];exact AX)),?_,AH,AI,AK⟩;exact .vec _ (v+1) 0 _ _ _ AJ (aak _) (λ_=>⟨_,_,rfl,by simp,λh=>by omega⟩) rfl
      .have BJ:0<E.length:=List.length_pos_iff.2 Ax;have:=grow M A8 hm A5 A3 none 0 0 AC [] [] (cM.nil ..) rfl (λw' _=>by simp[Builtin.firstCells]) (by omega) (by simpa using H) (by simpa using AU) AL;simpa using this
     .trivial
    .trivial
   .exact abu P S o s x t u AB I A9 A0 hi O Ab AM
  .trivial
 .trivial
def AS(P:Program)(m:Mem)(AI:Nat)(t:TypeId)(l c:AV):dO:=
 match tk P t with
 | .slice e=>match fW P e,zE P e,np P e,l,c,Mem.get m AI with
  |some sz,some AX,some A5,.d (.int .i64 n),.d (.int .i64 AY),some ⟨_,v,_⟩=>
   .dA (n=AY/\0<=n/\n*AX<=140737488355328/\n<=4611686018427387904/\A5.size=sz) (.vec AI (v+1) 0 n.toNat) ⟨AI,v+1,.vec sz (List.replicate n.toNat A5)⟩
  |_,_,_,_,_,_=>.no
 |_=>.no
def wrap_small{n:Int}(AB:0<=n)(h:n<=4611686018427387904):IntKind.i64.wrap n=n:=IntWalk.i64_in _ (by omega)
def SG(z:Array Value)(n sz:Nat)(O:z.size=sz)(d:D)(AJ:d.size=sz)(M:∀v∈z,cR v=true)(w:World)(F:Nat->Prop)(Aj:∃v,aP w F d v/\v.cells=z):
 cM w F sz (List.replicate n d) ((Array.range (n*sz)).map (z[·%z.size]!)).toList:=by
 obtain⟨v,A',BI⟩:=Aj;refine⟨by simp,?_,?_,?_⟩
 .intro x U;simp at U;obtain⟨i,hi,rfl⟩:=U;have Ak:0<z.size:=by
   grind
  rw[getElem!_pos z _ (Nat.mod_lt _ Ak)];grind
 .grind
 .intro i x U;have hi:i<n:=by grind
  have Al:x=d:=by grind
  subst Al;refine⟨v,A',λj c An=>?_⟩;have Ao:=zF A' AJ An;have BJ:i*sz+j<n*sz:=by
   have:i*sz+sz<=n*sz:=by rw[<-afl];exact aaG _ hi
   omega
  have hm:(i*sz+j)%sz=j:=by rw[aiK,Nat.mul_add_mod];exact Nat.mod_eq_of_lt Ao
  grind
def run_makeSlice{P:Program}{w:World}{t e:TypeId}{i:TypeInfo}{z:Value}{n:Int}(N:P.underlying t=some (.slice e))(hi:P.info? e=some i)(O:i.zero=some z)
 (AB:0<=n) (V:n*i.bytes<=140737488355328) (AC:n<=4611686018427387904):
 (Instr.makeSlice t (.int .i64 n) (.int .i64 n)).run P w=.ok (.slice (some ⟨w.heap.size,0,none⟩) n.toNat n.toNat) (w.alloc (.cells ((Array.range (n.toNat*i.size)).map (z.cells[·%z.cells.size]!)) e)):=by
 have hw:=wrap_small AB AC;have M:¬n<0:=by omega
 have AK:¬((i.bytes:Int)*n>281474976710656):=by grind
 by_cases Ap:n.toNat*i.size=0
 .simp[Instr.makeSlice,run_underlying N,asInt,asIntOf,typeInfo,sizeOf,hi,hw,M,AK,Ap,jB,show Array.range 0=#[]from rfl]
 .simp[Instr.makeSlice,run_underlying N,asInt,asIntOf,typeInfo,sizeOf,zeroValue,hi,O,jB];grind
def abv(P:Program)(S:St)(o:Oper)(t:TypeId)(l c:Operand)(A0:o.op=.makeSlice t l c)(Aq:(S.au l).1=true)(AL:(S.au c).1=true):aL P S o (AS P S.mem (keyOf o) t (S.au l).2 (S.au c).2):=by
 unfold AS;split
 .rename_i e AM;have N:=gR AM;split
  .rename_i sz AX A5 n AY key v cont M AK Ar As At AN;refine aL.uM ?_;rintro ⟨rfl,AB,V,AC,Au⟩ φ G a w J;obtain⟨i,z,hi,rfl,rfl,O,BK,Av,Aw⟩:=QT M AK Ar;obtain⟨hm,AD,L,A1,A6,A2⟩:=J.mem.get AN;subst AD;have A3:=J.au l Aq;have AO:=J.au c AL;rw[As]at A3;rw[At]at AO;have Ax:a.eval l=.int .i64 n:=by
    generalize a.eval l=x at A3;cases A3 with|d _ _ h=>cases h;rfl
   have AP:a.eval c=.int .i64 n:=by
    generalize a.eval c=x at AO;cases AO with|d _ _ h=>cases h;rfl
   have Ay:=run_makeSlice (P:=P) (w:=w) N hi O AB V AC;obtain⟨φ',A7,A8,AQ,A9⟩:=J.mem.fresh (e:=⟨keyOf o,v,cont⟩) hm A1 A6 w rfl rfl rfl rfl
    ((Array.range (n.toNat*i.size)).map (z.cells[·%z.cells.size]!)) e i.size n.toNat (.vec i.size (List.replicate n.toNat A5)) (λ_ V=>V.2) (λφ' hle Az AZ B'=>by
     refine yQ (cs:=((Array.range (n.toNat*i.size)).map (z.cells[·%z.cells.size]!)).toList) (rest:=[]) (elem:=e) rfl rfl (SG z.cells n.toNat i.size (by grind) A5 Au Av _ _ (Aw _ _)) (by simp) (by simp) (by simp) (λ_=>?_);refine fS.new ?_;rw[B',aee,amT])
   refine⟨.slice (some ⟨w.heap.size,0,none⟩) n.toNat n.toNat,_,φ',.inl ?_,?_,A7,A8,A9⟩
   .simp[execOp,A0,Ax,AP,Ay]
   .exact .vec _ (v+1) 0 _ _ _ AQ (aak _) (λ_=>⟨_,_,rfl,aak _,λ_=>⟨by simp,by simp⟩⟩) rfl
  .trivial
 .trivial
def AT(P:Program)(m:Mem)(t:TypeId)(s x:AV):dO:=
 match tk P t with
 | .slice e=>match fW P e with
  |some sz=>match ja m sz x with
   |some (c,E)=>match s with
    | .vec k ar off len=>match Mem.get m k with
     |some ⟨_,v,.vec H aq⟩=>.dA (c/\v=ar/\off+len<=aq.length/\H=sz/\(∀d∈E,d.size=sz))
      (.d (.int .i64 (min E.length len:Nat))) ⟨k,ar,.vec sz (bL aq off (E.take len))⟩
     |_=>.no
    |_=>.no
   |none=>.no
  |none=>.no
 |_=>.no
def E2{w F sz}{aq E:List D}{cs I:List Value}{off:Nat}(h:cM w F sz aq cs)(AR:cM w F sz E I)(hle:off+E.length<=aq.length):
 cM w F sz (bL aq off E) (bL cs (off*sz) I):=by
 have AE:off*sz+I.length<=cs.length:=by rw[h.1,AR.1,<-aeh];exact aaG _ hle
 rw[dR _ _ _ hle,dR _ _ _ AE];have:=((h.take off (by omega)).append AR).append (h.drop (off+E.length));rw[aeh,<-AR.1]at this;grind
def LF{α:Type}{cs I:List α}{o n:Nat}(h:o+I.length<=n)(AC:n<=cs.length):bL (cs.take n) o I++cs.drop n=bL cs o I:=by
 rw[dR _ _ _ (by grind),dR _ _ _ (by omega),List.take_take,afV (by omega),adX (List.take _ _++_)];rw[List.drop_take];have AP:cs.drop n=(cs.drop (o+I.length)).drop (n-(o+I.length)):=by simp_all
 rw[AP,amL]
def My{P:Program}{w w':World}{t u ty e:TypeId}{sz:Nat}(N:P.underlying t=some (.slice e))(M:fW P e=some sz){ao:Option Addr}{len cap:Nat}{x:Value}{m:Nat}{I:List Value}
 (A_:(Builtin.lenOf x).run P w=.ok m w) (A4:(Builtin.firstCells sz (min m len) x).run P w=.ok I.toArray w)
 (Z:(match ao with|some a=>storeCells a I|none=>pure ()).run P w=.ok () w'):
 (Builtin.copy_ #[t,u] ty #[.slice ao len cap,x]).run P w=.ok (.int .i64 (min m len:Nat)) w':=by
 cases ao with
 |none=>
  simp at Z;subst Z;simp[Builtin.copy_,run_underlying N,A_,run_sizeOf M,A4,goInt]
 |some a=>
  simp[Builtin.copy_,run_underlying N,A_,run_sizeOf M,A4,Z,goInt]
def abw(P:Program)(S:St)(o:Oper)(s x:Operand)(t u:TypeId)(A0:o.op=.call {callee:=.builtin .copy,args:=#[s,x],argTypes:=#[t,u]})
 (AJ:(S.au s).1=true) (U:(S.au x).1=true):aL P S o (AT P S.mem t (S.au s).2 (S.au x).2):=by
 unfold AT;split
 .rename_i e AM;have N:=gR AM;split
  .rename_i sz M;split
   .rename_i c E B0;split
    .rename_i k ar off len B2;split
     .rename_i key v H aq AN;refine aL.uM ?_;rintro ⟨AL,rfl,hle,rfl,B3⟩ φ G a w J;obtain⟨hm,AD,L,A1,A6,A2⟩:=J.mem.get AN;simp only at AD;subst AD;have A':=J.au s AJ;have B4:=J.au x U;rw[B2]at A';obtain⟨I,AF⟩:=Mp (P:=P) J.mem B4 B0 AL B3;generalize A3:a.eval s=BL at A';cases A' with
      |vec _ _ _ _ _ L' Aa _ h _=>
       rw[A1]at Aa;cases Aa;obtain⟨ao,cap,rfl,BM,B5⟩:=h A6.symm;clear h;have Ab:L.sz=H:=A2.1;have Ac:min E.length len<=E.length:=Nat.min_le_left _ _;have A4:=AF.UW (min E.length len) Ac w (λ_ _=>rfl);have Ad:(E.take len).length=min E.length len:=by rw[ae0,Nat.min_comm]
       by_cases B6:len=0
       .subst B6;obtain⟨φ',A7,A8,AQ,A9⟩:=J.mem.dA (e':=⟨key,v,.vec H (bL aq off (E.take 0))⟩) hm A1 rfl (L':=L) (aak _) (λ_=>rfl) A6
         (w':=w) (λ_ _ _=>rfl) (aak _) (λ_ A0=>.inl A0) rfl rfl rfl (λφ' Ae AE=>by
          have e:bL aq off (E.take 0)=aq:=by rw[dR _ _ _ (by simp;omega)];simp
          rw[e];refine A2.mono AE (λ_ _ _=>rfl) (aak _) (λb V=>?_) (λ_ _=>rfl);rintro (B7|⟨y,B8,B9,AG,Af⟩)
          .exact .inl B7
          .right;rcases (Mem.mem_set J.mem.nodup).1 B8 with ⟨rfl,_⟩|⟨BA,Ag⟩
           .subst Ae;simp at AG;subst AG;exact⟨_,hm,L,A1,Af⟩
           .subst Ae;simp at Ag;simp[Ag]at AG;exact⟨y,BA,B9,AG,Af⟩)
        refine⟨_,w,φ',.inl ?_,.d _ _ (.int _ _),A7,A8,A9⟩;have BB:I.take (min E.length 0*H)=[]:=by simp
        rw[BB]at A4;have:=My (P:=P) (ty:=o.type) (u:=u) (ao:=ao) (len:=0) (cap:=cap) N M (AF.len w) A4 (w':=w) (by cases ao<;>simp[storeCells]);simp[execOp,A0,resolve,invoke,builtin,A3,this]
       .obtain⟨rfl,BN⟩:=B5 (by omega);obtain⟨arr,elem,hh,BO,Ah,BC⟩:=pH A2 (by omega);have AU:cM w (Fo G φ S.mem) H (E.take len) (I.take (min E.length len*H)):=by
         have:=AF.aq.take (min E.length len) Ac;have e:E.take (min E.length len)=E.take len:=by
          rcases Nat.le_total E.length len with h|h
          .rw[afV h,aeJ (aak _),aeJ h]
          .rw[Nat.min_eq_right h]
         rw[e]at this;exact this
        have Ai:off+(E.take len).length<=aq.length:=by rw[Ad];omega
        have BD:=E2 BC AU Ai;have AA:=AU.1;rw[Ad]at AA;have AW:(off+min E.length len)*H<=aq.length*H:=aaG _ (by omega);have BP:aq.length*H<=L.cap*H:=aaG _ A2.2.1;have AH:L.base+off*H+(I.take (min E.length len*H)).length<=arr.toList.length:=by
         rw[aeh]at AW;rw[AA];simp only[aa5];omega
        have ⟨BE,BF,BG⟩:=hh;have Z:=kW (P:=P) L.dU (L.base+off*H) elem BE (I.take (min E.length len*H)) 0 arr w BF BG (by simpa using AH) (λx U=>qi (AU.2.1 x U));simp only[aeG]at Z;rw[<-dR _ _ _ AH]at Z;have BH:arr.toList.take L.base++(bL ((arr.toList.drop L.base).take (aq.length*H)) (off*H) (I.take (min E.length len*H))++(arr.toList.drop L.base).drop (aq.length*H))=bL arr.toList (L.base+off*H) (I.take (min E.length len*H)):=by
         rw[LF (by rw[AA,<-aeh];exact AW) (by simp only[aeQ,aa5];omega)];rw[dR _ _ _ (by rw[AA];rw[aeh]at AW;simp only[aeQ,aa5];omega),dR _ _ _ AH,List.drop_drop,List.take_add];simp only[adX,aaX]
        obtain⟨φ',A7,A8,AQ,A9⟩:=J.mem.store (e:=⟨key,v,.vec H aq⟩) hm A1 A6 (b0:=L.dU) ⟨by omega,rfl⟩ (bL arr.toList (L.base+off*H) (I.take (min E.length len*H))).toArray v (aak _) (.vec H (bL aq off (E.take len))) (λ_ V=>V) (λφ' AE Az AZ=>by
         refine wa (pre:=arr.toList.take L.base) (cs:=bL ((arr.toList.drop L.base).take (aq.length*H)) (off*H) (I.take (min E.length len*H))) (rest:=(arr.toList.drop L.base).drop (aq.length*H)) (elem:=elem) Ab (BD.mono AZ) ?_ ?_ ?_ ?_ ?_ (λ_=>?_)
         .simp only[ae0,aa5];omega
         .intro z O;exact Ah z (by simpa using abf O)
         .intro z O;exact Ah z (by simpa using abe (abe O))
         .rw[cm _ _ _ Ai];exact A2.2.1
         .show _=L.cap*H;rw[aal,cm _ _ _ (by rw[AA,<-aeh];simp only[ae0,aeQ,aa5];omega),<-aal,amL];simp only[aeQ,aa5];omega
         .rw[BH];exact hh.setRow _ (by show (bL arr.toList _ _).length=_;rw[cm _ _ _ AH];simp))
        refine⟨_,_,φ',.inl ?_,.d _ _ (.int _ _),A7,A8,A9⟩;have:=My (P:=P) (ty:=o.type) (u:=u) (ao:=some ⟨L.dU,L.base+off*L.sz,none⟩) (len:=len) (cap:=cap) N M (AF.len w) A4 (by rw[Ab];exact Z);simp[execOp,A0,resolve,invoke,builtin,A3,this]
     .trivial
    .trivial
   .trivial
  .trivial
 .trivial
def yS{P:Program}{s:TypeId}{f n b o:Nat}{w:World}(h:AO P s f=some n):(Instr.fieldAt s (.pointer (some ⟨b,o,none⟩)) f).run P w=.ok (.pointer (some ⟨b,o+n,none⟩)) w:=by
 unfold AO at h;split at h
 .rename_i fs hu;split at h
  .rename_i fl AG;split at h
   .rename_i i hi;split at h
    .cases h
    .rename_i AH;simp at h;subst h;have Z:(sizeOf fl.type).run P w=.ok i.size w:=run_sizeOf (by simp[fW,hi]);simp[Instr.fieldAt,run_underlying hu,AG,Instr.sureAddr,fieldPlace,Z,AH,gq]
   .cases h
  .cases h
 .cases h
def qA(P:Program)(m:Mem)(s:TypeId)(f:Nat)(p:AV):dO:=
 match AO P s f with
 |some n=>match p with
  | .ptr k ar off=>match Mem.get m k with
   |some ⟨_,v,_⟩=>.val (v=ar) (.ptr k ar (off+n))
   |none=>.no
  | .df k ar i j=>match Mem.get m k with
   |some ⟨_,v,_⟩=>.val (v=ar) (.df k ar i (j+n))
   |none=>.no
  | .eA x j=>.val True (.eA x (j+n))
  |_=>.no
 |none=>.no
def Ye(P:Program)(S:St)(o:Oper)(s:TypeId)(x:Operand)(f:Nat)(A':o.op=.fieldAddr s x f)(N:(S.au x).1=true):aL P S o (qA P S.mem s f (S.au x).2):=by
 unfold qA;split
 .rename_i n A7;split
  .rename_i k ar off M;split
   .rename_i key v cont V;refine aL.pure ?_;rintro rfl φ G a w H;have E:=H.au x N;rw[M]at E;obtain⟨hm,A2,L,I,J,_⟩:=H.mem.get V;simp only at J;have e:=E.tU I J;refine⟨.pointer (some ⟨L.dU,off+n,none⟩),by simp[execOp,A',e,yS A7],.ptr k v _ _ L I (by omega) (λ_=>rfl) rfl⟩
   .trivial
  .rename_i k ar i j M;split
   .rename_i key v cont V;refine aL.pure ?_;rintro rfl φ G a w H;have E:=H.au x N;rw[M]at E;obtain⟨hm,A2,L,I,J,_⟩:=H.mem.get V;simp only at J;have e:=E.mj I J;refine⟨.pointer (some ⟨L.dU,L.base+i*L.sz+j+n,none⟩),by simp[execOp,A',e,yS A7],.df k v _ _ _ L I (by omega) (λ_=>by rw[aaX]) rfl⟩
   .trivial
  .rename_i d j M;refine aL.pure ?_;rintro _ φ G a w H;have E:=H.au x N;rw[M]at E;generalize A1:a.eval x=av at E;cases E with
   |eA _ _ b off A9 A3 A4 AA A5=>
    refine⟨.pointer (some ⟨b,off+(j+n),none⟩),by simp[execOp,A',A1,yS A7,aaX],.eA d (j+n) b off A9 A3 A4 AA A5⟩
  .trivial
 .trivial
def kq(m:Mem)(p:AV):dO:=
 match p with
 | .ptr k ar off=>match Mem.get m k with
  |some ⟨_,v,_⟩=>.val (v=ar) (.ptr k ar off)
  |none=>.no
 | .df k ar i j=>match Mem.get m k with
  |some ⟨_,v,_⟩=>.val (v=ar) (.df k ar i j)
  |none=>.no
 | .eA x j=>.val True (.eA x j)
 |_=>.no
def Qg(P:Program)(S:St)(o:Oper)(x:Operand)(A':o.op=.nilCheck x)(N:(S.au x).1=true):aL P S o (kq S.mem (S.au x).2):=by
 unfold kq;split
 .rename_i k ar off M;split
  .rename_i key v cont V;refine aL.pure ?_;rintro rfl φ G a w H;have E:=H.au x N;rw[M]at E;obtain⟨hm,A2,L,I,J,_⟩:=H.mem.get V;simp only at J;have e:=E.tU I J;exact⟨_,by simp only[execOp,A',e];rfl,.ptr k v _ _ L I (by omega) (λ_=>rfl) rfl⟩
  .trivial
 .rename_i k ar i j M;split
  .rename_i key v cont V;refine aL.pure ?_;rintro rfl φ G a w H;have E:=H.au x N;rw[M]at E;obtain⟨hm,A2,L,I,J,_⟩:=H.mem.get V;simp only at J;have e:=E.mj I J;exact⟨_,by simp only[execOp,A',e];rfl,.df k v _ _ _ L I (by omega) (λ_=>rfl) rfl⟩
  .trivial
 .rename_i d j M;refine aL.pure ?_;rintro _ φ G a w H;have E:=H.au x N;rw[M]at E;generalize A1:a.eval x=av at E;cases E with
  |eA _ _ b off A9 A3 A4 AA A5=>
   exact⟨.pointer (some ⟨b,off+j,none⟩),by simp only[execOp,A',A1];rfl,.eA d j b off A9 A3 A4 AA A5⟩
 .trivial
def lg{φ w F k n v}(h:aG φ w F (.d (.int k n)) v):v=.int k n:=by cases h with|d _ _ h=>cases h;rfl
def vO{φ w F b v}(h:aG φ w F (.d (.bool b)) v):v=.bool b:=by cases h with|d _ _ h=>cases h;rfl
def we{φ w F s v}(h:aG φ w F (.d (.str s)) v):∃b:ByteArray,v=.string b/\b.data.toList=s:=by cases h with|d _ _ h=>cases h with|str b _ h=>exact⟨b,rfl,h⟩
def wg{P:Program}{t:TypeId}{n e}(h:tk P t=.arr n e):P.underlying t=some (.array n e):=by
 unfold tk at h;split at h<;>simp_all
def pJ{P:Program}{t:TypeId}(h:tk P t=.str):P.underlying t=some .string:=by
 unfold tk at h;split at h<;>simp_all
def Jl{P:Program}{t:TypeId}(h:tk P t=.bool):P.underlying t=some .bool:=by
 unfold tk at h;split at h<;>simp_all
def zK{P:Program}{t:TypeId}{k}(h:tk P t=.int k):P.underlying t=some (.int k):=by
 unfold tk at h;split at h<;>simp_all
def oc(P:Program)(m:Mem)(t:TypeId)(p i:AV):dO:=
 match i with
 | .d (.int _ n)=>match tk P t with
  | .slice e=>match fW P e with
   |some sz=>match p with
    | .d (.list xs)=>.val (0<=n/\n.toNat<xs.length/\(D.at xs n.toNat).size=sz) (.eA (D.at xs n.toNat) 0)
    | .vec k ar off len=>match Mem.get m k with
     |some ⟨_,v,.vec A8 _⟩=>.val (v=ar/\0<=n/\n.toNat<len/\A8=sz) (.df k ar (off+n.toNat) 0)
     |some ⟨_,v,.vv _ _⟩=>.val (v=ar/\0<=n/\n.toNat<len/\sz=1) (.df k ar (off+n.toNat) 0)
     |_=>.no
    |_=>.no
   |none=>.no
  | .arr len e=>match fW P e with
   |some sz=>match p with
    | .ptr k ar off=>match Mem.get m k with
     |some ⟨_,v,_⟩=>.val (v=ar/\0<=n/\n.toNat<len) (.ptr k ar (off+n.toNat*sz))
     |none=>.no
    | .df k ar i j=>match Mem.get m k with
     |some ⟨_,v,.vec A8 _⟩=>if A8=1/\sz=1/\j=0 then .val (v=ar/\0<=n/\n.toNat<len) (.df k ar (i+n.toNat) 0)else .val (v=ar/\0<=n/\n.toNat<len) (.df k ar i (j+n.toNat*sz))
     |some ⟨_,v,_⟩=>.val (v=ar/\0<=n/\n.toNat<len) (.df k ar i (j+n.toNat*sz))
     |none=>.no
    | .eA x j=>.val (0<=n/\n.toNat<len) (.eA x (j+n.toNat*sz))
    |_=>.no
   |none=>.no
  |_=>.no
 |_=>.no
def sB{P:Program}{t e:TypeId}{sz b o len cap:Nat}{k:IntKind}{n:Int}{w:World}(A0:P.underlying t=some (.slice e))(Z:fW P e=some sz)(O:0<=n)(U:n.toNat<len):
 (Instr.indexAt t (.slice (some ⟨b,o,none⟩) len cap) (.int k n)).run P w=.ok (.pointer (some ⟨b,o+n.toNat*sz,none⟩)) w:=by
 have A7:n<(len:Int):=by omega
 simp[Instr.indexAt,asIntOf,run_underlying A0,run_sizeOf Z,O,A7,gq]
def oe{P:Program}{t e:TypeId}{sz b o len:Nat}{k:IntKind}{n:Int}{w:World}(A0:P.underlying t=some (.array len e))(Z:fW P e=some sz)(O:0<=n)(U:n.toNat<len):
 (Instr.indexAt t (.pointer (some ⟨b,o,none⟩)) (.int k n)).run P w=.ok (.pointer (some ⟨b,o+n.toNat*sz,none⟩)) w:=by
 have A7:n<(len:Int):=by omega
 simp[Instr.indexAt,Instr.sureAddr,asIntOf,run_underlying A0,run_sizeOf Z,O,A7,gq]
def abx{w F xs b off cap len}(h:aP w F (.list xs) (.slice (some ⟨b,off,none⟩) len cap)){i sz:Nat}(hi:i<xs.length)(Z:(D.at xs i).size=sz):
 len=xs.length/\b<w.heap.size/\¬F b/\∃v,aP w F (D.at xs i) v/\∀(j:Nat) c,v.cells[j]?=some c->w.cell? ⟨b,off+i*sz+j,none⟩=some c:=by
 generalize N:D.list xs=x at h;generalize E:Value.slice (some ⟨b,off,none⟩) len cap=v at h;cases h with
 |nil a c=>simp at N;subst N;simp at hi
 |list AS AT AU AW A8 vs AX A3 A4 AD AI A5=>
  simp at N E;obtain⟨⟨rfl,rfl⟩,rfl,rfl⟩:=E;subst N;have:A8=sz:=by rw[<-Z,AD _ (aaz (kV hi))]
  subst this;exact⟨rfl,A3,A4,vs i,AI i _ (kV hi),λj c AJ=>A5 i j c hi AJ⟩
 |_=>simp at N
def U1{w F xs v}(h:aP w F (.list xs) v)(AK:xs≠[]):∃b off cap,v=.slice (some ⟨b,off,none⟩) xs.length cap:=by
 cases h with
 |nil a c=>exact absurd rfl AK
 |list b off cap sz vs=>exact⟨_,_,_,rfl⟩
def Yf(P:Program)(S:St)(o:Oper)(t:TypeId)(x i:Operand)(A':o.op=.indexAddr t x i)(N:(S.au x).1=true)(hi:(S.au i).1=true):aL P S o (oc P S.mem t (S.au x).2 (S.au i).2):=by
 unfold oc;split
 .rename_i AL n AM;have A6:∀{φ G a w},Rel φ G S a w->a.eval i=.int AL n:=λH=>by
   have:=H.au i hi;rw[AM]at this;exact lg this
  split
  .rename_i e AE;have A0:=gR AE;split
   .rename_i sz Z;split
    .rename_i xs M;refine aL.pure ?_;rintro ⟨O,U,AD⟩ φ G a w H;have E:=H.au x N;rw[M]at E;generalize A1:a.eval x=av at E;cases E with
     |d _ _ h=>
      obtain⟨b,off,cap,rfl⟩:=U1 h (by intro hh;subst hh;simp at U);obtain⟨_,A3,A4,v,E,A5⟩:=abx h U AD;refine⟨_,by simp only[execOp,A',A1,A6 H,Sem.run_bind,sB A0 Z O U];rfl,?_⟩;exact .eA (D.at xs n.toNat) 0 b (off+n.toNat*sz) v A3 A4 E A5
    .rename_i k ar off len M;split
     .rename_i key v A8 aq V;refine aL.pure ?_;rintro ⟨rfl,O,U,rfl⟩ φ G a w H;have E:=H.au x N;rw[M]at E;obtain⟨hm,A2,L,I,J,AB⟩:=H.mem.get V;simp only at J;generalize A1:a.eval x=av at E;cases E with
      |vec _ _ _ _ _ L' AC _ h _=>
       rw[I]at AC;cases AC;obtain⟨ao,cap,rfl,AN,AF⟩:=h J.symm;clear h;obtain⟨rfl,AP⟩:=AF (by omega);refine⟨_,by simp only[execOp,A',A1,A6 H,Sem.run_bind,sB A0 Z O U];rfl,?_⟩;exact .df k v _ 0 _ L I (by omega) (λ_=>by rw[AB.1,aeh,aeG,aaX]) rfl
     .rename_i key v aq y V;refine aL.pure ?_;rintro ⟨rfl,O,U,rfl⟩ φ G a w H;have E:=H.au x N;rw[M]at E;obtain⟨hm,A2,L,I,J,AB⟩:=H.mem.get V;simp only at J;generalize A1:a.eval x=av at E;cases E with
      |vec _ _ _ _ _ L' AC _ h _=>
       rw[I]at AC;cases AC;obtain⟨ao,cap,rfl,AN,AF⟩:=h J.symm;clear h;obtain⟨rfl,AP⟩:=AF (by omega);refine⟨_,by simp only[execOp,A',A1,A6 H,Sem.run_bind,sB A0 Z O U];rfl,?_⟩;exact .df k v _ 0 _ L I (by omega) (λ_=>by rw[AB.1.1,aeh,aeG,aaX]) rfl
     .trivial
    .trivial
   .trivial
  .rename_i len e AE;have A0:=wg AE;split
   .rename_i sz Z;split
    .rename_i k ar off M;split
     .rename_i key v cont V;refine aL.pure ?_;rintro ⟨rfl,O,U⟩ φ G a w H;have E:=H.au x N;rw[M]at E;obtain⟨hm,A2,L,I,J,_⟩:=H.mem.get V;simp only at J;have e:=E.tU I J;refine⟨_,by simp only[execOp,A',e,A6 H,Sem.run_bind,oe A0 Z O U];rfl,.ptr k v _ _ L I (by omega) (λ_=>rfl) rfl⟩
     .trivial
    .rename_i k ar AY j M;split
     .rename_i key v A8 aq V;split
      .rename_i AQ;obtain⟨rfl,rfl,rfl⟩:=AQ;refine aL.pure ?_;rintro ⟨rfl,O,U⟩ φ G a w H;have E:=H.au x N;rw[M]at E;obtain⟨hm,A2,L,I,J,AB⟩:=H.mem.get V;simp only at J;have e:=E.mj I J;have AR:L.sz=1:=AB.1;refine⟨_,by simp only[execOp,A',e,A6 H,Sem.run_bind,oe A0 Z O U];rfl,.df k v _ _ _ L I (by omega) (λ_=>by rw[AR];simp[aaX]) rfl⟩
      .refine aL.pure ?_;rintro ⟨rfl,O,U⟩ φ G a w H;have E:=H.au x N;rw[M]at E;obtain⟨hm,A2,L,I,J,_⟩:=H.mem.get V;simp only at J;have e:=E.mj I J;refine⟨_,by simp only[execOp,A',e,A6 H,Sem.run_bind,oe A0 Z O U];rfl,.df k v _ _ _ L I (by omega) (λ_=>by rw[aaX]) rfl⟩
     .rename_i key v cont _ V;refine aL.pure ?_;rintro ⟨rfl,O,U⟩ φ G a w H;have E:=H.au x N;rw[M]at E;obtain⟨hm,A2,L,I,J,_⟩:=H.mem.get V;simp only at J;have e:=E.mj I J;refine⟨_,by simp only[execOp,A',e,A6 H,Sem.run_bind,oe A0 Z O U];rfl,.df k v _ _ _ L I (by omega) (λ_=>by rw[aaX]) rfl⟩
     .trivial
    .rename_i d j M;refine aL.pure ?_;rintro ⟨O,U⟩ φ G a w H;have E:=H.au x N;rw[M]at E;generalize A1:a.eval x=av at E;cases E with
     |eA _ _ b off A9 A3 A4 AA A5=>
      refine⟨.pointer (some ⟨b,off+(j+n.toNat*sz),none⟩),by simp[execOp,A',A1,A6 H,oe A0 Z O U,aaX],.eA d _ b off A9 A3 A4 AA A5⟩
    .trivial
   .trivial
  .trivial
 .trivial
def fY(op:BinOp)(k:IntKind)(a b:Int):Option (Bool×D):=
 match op with
 | .add=>some (true,.int k (k.wrap (a+b)))
 | .sub=>some (true,.int k (k.wrap (a-b)))
 | .mul=>some (true,.int k (k.wrap (a*b)))
 | .quo=>some (b≠0,.int k (k.wrap (a.tdiv b)))
 | .rem=>some (b≠0,.int k (a.tmod b))
 | .and=>some (true,.int k (k.wrap (BitVec.ofInt k.bits a &&& BitVec.ofInt k.bits b).toNat))
 | .or=>some (true,.int k (k.wrap (BitVec.ofInt k.bits a ||| BitVec.ofInt k.bits b).toNat))
 | .xor=>some (true,.int k (k.wrap (BitVec.ofInt k.bits a ^^^ BitVec.ofInt k.bits b).toNat))
 | .andNot=>some (true,.int k (k.wrap (BitVec.ofInt k.bits a &&& ~~~BitVec.ofInt k.bits b).toNat))
 | .eql=>some (true,.bool (a == b))
 | .neq=>some (true,.bool (a != b))
 | .lss=>some (true,.bool (decide (a<b)))
 | .leq=>some (true,.bool (decide (a<=b)))
 | .gtr=>some (true,.bool (decide (b<a)))
 | .geq=>some (true,.bool (decide (b<=a)))
 |_=>none
def wh(op:BinOp)(k:IntKind)(a b:Int):Option (Bool×D):=
 match op with
 | .shl=>some (0<=b,.int k (k.wrap (a*2^(min b.toNat k.bits))))
 | .shr=>some (0<=b,.int k (a.fdiv (2^(min b.toNat k.bits))))
 |_=>none
def og(op:BinOp)(s t:List UInt8):Option (Bool×D):=
 match op with
 | .add=>some (s.length+t.length<=4611686018427387904,.str (s++t))
 | .eql=>some (true,.bool (s == t))
 | .neq=>some (true,.bool (!(s == t)))
 | .lss=>some (true,.bool (Op.bytesLess s t))
 | .leq=>some (true,.bool (Op.bytesLess s t||s == t))
 | .gtr=>some (true,.bool (!(Op.bytesLess s t||s == t)))
 | .geq=>some (true,.bool (!Op.bytesLess s t))
 |_=>none
def wj:TK->D->D->Option Bool
 | .int _,.int k a,.int A5 b=>if k=A5 then some (a == b)else none
 | .bool,.bool a,.bool b=>some (a == b)
 | .str,.str a,.str b=>some (a == b)
 |_,_,_=>none
def eV:List TK->List D->List D->Option Bool
 |[],[],[]=>some true
 |k::ks,x::xs,y::N=>match wj k x y,eV ks xs N with
  |some a,some b=>some (a&&b)
  |_,_=>none
 |_,_,_=>none
def CE(rec:TypeId->Option (List TK)):List Field->Nat->Option (List TK)
 |[],_=>some []
 |f::fs,o=>if f.name≠ "_" /\f.offset=o then (match rec f.type with
  |some ks=>match CE rec fs (o+ks.length)with
   |some r=>some (ks++r)
   |none=>none
  |none=>none)else none
def Hg(P:Program):Nat->TypeId->Option (List TK)
 |0,_=>none
 |n+1,t=>match tk P t with
  | .int k=>some [.int k]
  | .bool=>some [.bool]
  | .str=>some [.str]
  | .struct=>match P.underlying t with
   |some (.struct fs)=>if P.stoodInHeld t=false then (match CE (Hg P n) fs.toList 0 with
    |some ks=>if fW P t=some ks.length then some ks else none
    |none=>none)else none
   |_=>none
  |_=>none
def cN(P:Program)(t:TypeId):Option (List TK):=
 match P.underlying t with
 |some (.struct _)=>if P.eqGuardType P.depth t=false then Hg P 8 t else none
 |_=>none
def sC(P:Program)(op:BinOp)(t:TypeId)(x y:AV):dO:=
 match x,y with
 | .d (.int k a),.d (.int A5 b)=>match op with
  | .shl=>.val (0<=b) (.d (.int k (k.wrap (a*2^(min b.toNat k.bits)))))
  | .shr=>.val (0<=b) (.d (.int k (a.fdiv (2^(min b.toNat k.bits)))))
  |op=>match fY op k a b with
   |some (c,d)=>.val (k=A5/\c) (.d d)
   |none=>.no
 | .d (.str a),.d (.str b)=>match og op a b with
  |some (c,d)=>.val c (.d d)
  |none=>.no
 | .d (.bool a),.d (.bool b)=>match op with
  | .eql=>.val (tk P t=.bool) (.d (.bool (a == b)))
  | .neq=>.val (tk P t=.bool) (.d (.bool (a != b)))
  |_=>.no
 | .d (.agg a),.d (.agg b)=>match cN P t with
  |some ks=>match eV ks a b with
   |some r=>match op with
    | .eql=>.val True (.d (.bool r))
    | .neq=>.val True (.d (.bool (!r)))
    |_=>.no
   |none=>.no
  |none=>.no
 |_,_=>.no
def MB(P:Program)(w:World)(op:BinOp)(t:TypeId)(x y:Operand)(a b:Value)(h:(∀c,a≠.agg c)/\a≠.nilIface):(eqGuard op t x y a b).run P w=.ok () w:=by
 unfold eqGuard;simp_all
def SH(P:Program)(w:World)(op:BinOp)(t:TypeId)(k:IntKind)(a b:Int)(c d)(h:fY op k a b=some (c,d))(O:c=true):∃v,(binOp op t (.int k a) (.int k b)).run P w=.ok v w/\∀F,aP w F d v:=by
 cases op<;>simp only[fY]at h<;>(try exact h.elim)<;>obtain⟨rfl,rfl⟩:=h<;>(try simp at O)<;>
  refine⟨_,by simp[binOp,Op.intDiv,O];rfl,λF=>by first|exact .int _ _|exact .bool _⟩
def CF(P:Program)(w:World)(op:BinOp)(t:TypeId)(k A5:IntKind)(a b:Int)(c d)(h:wh op k a b=some (c,d))(O:c=true):∃v,(binOp op t (.int k a) (.int A5 b)).run P w=.ok v w/\∀F,aP w F d v:=by
 cases op<;>simp[wh]at h<;>(try exact h.elim)<;>obtain⟨rfl,rfl⟩:=h<;>(try simp at O)<;>
  refine⟨_,by simp[binOp,Op.shift,show ¬b<0 by omega];rfl,λF=>by first|exact .int _ _|exact .bool _⟩
def SI(P:Program)(w:World)(op:BinOp)(t:TypeId)(a b:ByteArray)(c d)(h:og op a.data.toList b.data.toList=some (c,d))(O:c=true):∃v,(binOp op t (.string a) (.string b)).run P w=.ok v w/\∀F,aP w F d v:=by
 have Ad:a.size=a.data.toList.length:=by simp_all
 have Ae:b.size=b.data.toList.length:=by simp_all
 cases op<;>simp[og]at h<;>(try exact h.elim)<;>obtain⟨rfl,rfl⟩:=h
 case add=>
  refine⟨.string (a++b),?_,λF=>.str _ _ (by simp)⟩;have B':IntKind.i64.max=9223372036854775807:=by decide
  have:¬(((a.size+b.size:Nat):Int)>IntKind.i64.max):=by grind
  simp only[binOp,Op.stringOp,this,abc,Sem.run_pure]
 all_goals
  refine⟨_,by simp[binOp,Op.stringOp,ByteArray.toList_eq],λF=>.bool _⟩
def SJ{P:Program}{w:World}{F:Nat->Prop}{x y:D}{a b:Value}{r:Bool}{t:TypeId}(d:Nat)(h:wj (tk P t) x y=some r)(A':aP w F x a)(A2:aP w F y b):
 (Op.equalIn (d+1) t a b).run P w=.ok r w:=by
 unfold wj at h;split at h
 .rename_i A5 k n Af m AA;split at h
  .rename_i he;subst he;simp at h;subst h;cases A';cases A2;exact run_equalIn_int w d t k _ n m (zK AA)
  grind
 .rename_i n m AA;simp at h;subst h;cases A';cases A2;exact run_equalIn_bool' w d t n m (Jl AA)
 .rename_i n m AA;simp at h;subst h;cases A' with|str n _ Ao=>cases A2 with|str m _ hm=>
  subst Ao;subst hm;rw[run_equalIn_string w d t n m (pJ AA),ByteArray.toList_eq,ByteArray.toList_eq]
 grind
def wm{P:Program}{w:World}{t:TypeId}{cs:Array Value}{off:Nat}{v:Value}(h:(tk P t).agg=false)(A7:tk P t≠.other)(I:cs[off]?=some v):(part t cs off).run P w=.ok v w:=by
 simp[part,tT A7,h,I]
def tB:∀{ks:List TK}{xs N:List D}{r:Bool},eV ks xs N=some r->xs.length=ks.length/\N.length=ks.length
 |[],[],[],_,_=>⟨rfl,rfl⟩
 |k::ks,x::xs,y::N,r,h=>by
  simp[eV]at h;split at h
  .rename_i J;obtain⟨a,b⟩:=tB J;grind
  grind
 |[],[],_::_,_,h=>by simp[eV]at h
 |[],_::_,_,_,h=>by simp[eV]at h
 |_::_,[],_,_,h=>by simp[eV]at h
 |_::_,_::_,[],_,h=>by simp[eV]at h
def E9:∀{a b:List TK}{xs N:List D}{r:Bool},eV (a++b) xs N=some r->∃p q,eV a (xs.take a.length) (N.take a.length)=some p/\eV b (xs.drop a.length) (N.drop a.length)=some q/\r=(p&&q)
 |[],b,xs,N,r,h=>⟨true,r,by simp[eV],by grind,by simp⟩
 |k::a,b,x::xs,y::N,r,h=>by
  simp[eV]at h;split at h
  .rename_i u v M J;obtain⟨p,q,A3,A6,B0⟩:=E9 J;refine⟨u&&p,q,?_,by grind,by grind⟩;simp[eV,M,A3]
  grind
 |_::_,_,[],_,_,h=>by simp[eV]at h
 |_::_,_,_::_,[],_,h=>by simp[eV]at h
def AU{P:Program}{w:World}{F:Nat->Prop}{rec:TypeId->Option (List TK)}{Ag:Nat}{V Z:Array Value}
 (ih:∀(t:TypeId)(ks:List TK),rec t=some ks->∀(o:Nat)(xs N:List D)(r:Bool),eV ks xs N=some r->(∀(i:Nat) c v,xs[i]?=some c->V[o+i]?=some v->aP w F c v)->(∀(i:Nat) c v,N[i]?=some c->Z[o+i]?=some v->aP w F c v)->
  o+xs.length<=V.size->o+N.length<=Z.size->∃a b,(part t V o).run P w=.ok a w/\(part t Z o).run P w=.ok b w/\(Op.equalIn Ag t a b).run P w=.ok r w):
 ∀(fs:List Field)(o:Nat)(ks:List TK),CE rec fs o=some ks->∀(xs N:List D)(r:Bool),eV ks xs N=some r->(∀(i:Nat) c v,xs[i]?=some c->V[o+i]?=some v->aP w F c v)->(∀(i:Nat) c v,N[i]?=some c->Z[o+i]?=some v->aP w F c v)->
  o+xs.length<=V.size->o+N.length<=Z.size->(Op.eqFields Ag V Z fs).run P w=.ok r w
 |[],o,ks,A0,xs,N,r,h,_,_,_,_=>by
  simp[CE]at A0;subst A0;cases xs<;>cases N<;>simp[eV]at h;subst h;simp[Op.eqFields]
 |f::fs,o,ks,A0,xs,N,r,h,A',A2,Ah,Ai=>by
  simp only[CE]at A0;split at A0
  .rename_i AC;obtain⟨B2,Ap⟩:=AC;split at A0
   .rename_i AH M;split at A0
    .rename_i Af J;cases A0;obtain⟨p,q,A3,A6,rfl⟩:=E9 h;obtain⟨AJ,AK⟩:=tB h;obtain⟨a,b,g1,g2,g3⟩:=ih f.type AH M o _ _ p A3 (λi c v O I=>A' i c v (by grind) I) (λi c v O I=>A2 i c v (by grind) I) (by grind) (by grind);have g4:=AU ih fs (o+AH.length) Af J _ _ q A6 (λi c v O I=>A' (AH.length+i) c v (by grind) (by grind)) (λi c v O I=>A2 (AH.length+i) c v (by grind) (by grind)) (by grind) (by grind);rw[<-Ap]at g1 g2;simp[Op.eqFields,g1,g2,g3,Sem.run_ite];grind
    grind
   grind
  grind
def ME{P:Program}{w:World}{F:Nat->Prop}(d:Nat):∀(n:Nat)(V Z:Array Value)(t:TypeId)(ks:List TK),Hg P n t=some ks->∀(o:Nat)(xs N:List D)(r:Bool),eV ks xs N=some r->
 (∀(i:Nat) c v,xs[i]?=some c->V[o+i]?=some v->aP w F c v)->(∀(i:Nat) c v,N[i]?=some c->Z[o+i]?=some v->aP w F c v)->o+xs.length<=V.size->o+N.length<=Z.size->
 ∃a b,(part t V o).run P w=.ok a w/\(part t Z o).run P w=.ok b w/\(Op.equalIn (d+n) t a b).run P w=.ok r w
 |0,_,_,_,_,A0,_,_,_,_,_,_,_,_,_=>by cases A0
 |n+1,V,Z,t,ks,A0,o,xs,N,r,h,A',A2,Ah,Ai=>by
  have one:∀k:TK,tk P t=k->k.agg=false->k≠.other->ks=[k]->∃a b,(part t V o).run P w=.ok a w/\(part t Z o).run P w=.ok b w/\(Op.equalIn (d+(n+1)) t a b).run P w=.ok r w:=by
   rintro k A9 B3 B4 rfl;obtain⟨AJ,AK⟩:=tB h;match xs,N,AJ,AK with
   |[x],[y],_,_=>
    simp[eV]at h;split at h
    .have A3:=wm (P:=P) (w:=w) (t:=t) (by grind) (by grind) (show V[o]?=some V[o] by grind);have A6:=wm (P:=P) (w:=w) (t:=t) (by grind) (by grind) (show Z[o]?=some Z[o] by grind);exact⟨_,_,A3,A6,SJ (d+n) (by grind) (A' 0 x _ rfl (by grind)) (A2 0 y _ rfl (by grind))⟩
    grind
  unfold Hg at A0;split at A0
  .rename_i k A9;exact one _ A9 rfl (by simp) (by grind)
  .rename_i A9;exact one _ A9 rfl (by simp) (by grind)
  .rename_i A9;exact one _ A9 rfl (by simp) (by grind)
  .rename_i A9;split at A0
   .rename_i fs hu;split at A0
    .rename_i AL;split at A0
     .rename_i AE AM;split at A0
      .rename_i Aq;cases A0;obtain⟨AJ,AK⟩:=tB h;have Aj:∀cs:Array Value,(part t cs o).run P w=.ok (.agg (cs.extract o (o+ks.length))) w:=by
        have Ad:=tT (P:=P) (t:=t) (w:=w) (by grind);simp[part,Ad,A9,TK.agg,run_sizeOf Aq]
       refine⟨_,_,Aj V,Aj Z,?_⟩;have AC:P.fieldsOf t=fs:=by simp[Program.fieldsOf,hu]
       show (Op.equalIn (d+n+1) t _ _).run P w=_;rw[run_equalIn_struct w (d+n) t _ _ (by grind) AL,AC];refine AU (F:=F) (λA8 AE AN AO AP AQ AR AS AT AW AX AY=>ME d n _ _ A8 AE AN AO AP AQ AR AS AT AW AX AY) fs.toList 0 ks AM xs N r h (λi c v O I=>?_) (λi c v O I=>?_) ?_ ?_
       .grind
       .grind
       .grind
       grind
      grind
     grind
    grind
   grind
  grind
def QV(P:Program)(S:St)(o:Oper)(op:BinOp)(t A8:TypeId)(x y:Operand)(A7:o.op=.binOp op t x y A8)(A':(S.au x).1=true)(A2:(S.au y).1=true):aL P S o (sC P op t (S.au x).2 (S.au y).2):=by
 have AD:∀(a:Act)(w:World)(v:Value),(∀c,a.eval x≠.agg c)->a.eval x≠.nilIface->(binOp op t (a.eval x) (a.eval y)).run P w=.ok v w->(execOp a.eval o).run P w=.ok (.value v) w:=by
  intro a w v M J h;simp[execOp,A7,MB P w op t x y _ (a.eval y) ⟨M,J⟩,h]
 unfold sC;split
 .rename_i k n A5 m U AB;have H:∀{φ G a w},Rel φ G S a w->a.eval x=.int k n/\a.eval y=.int A5 m:=λE=>by
   have M:=E.au x A';have J:=E.au y A2;rw[U]at M;rw[AB]at J;exact⟨lg M,lg J⟩
  split
  .refine aL.pure λO φ G a w E=>?_;obtain⟨v,M,J⟩:=CF P w .shl t k A5 n m _ _ rfl (aep O);exact⟨v,AD a w v (by simp[(H E).1]) (by simp[(H E).1]) (by rw[(H E).1,(H E).2];exact M),.d _ _ (J _)⟩
  .refine aL.pure λO φ G a w E=>?_;obtain⟨v,M,J⟩:=CF P w .shr t k A5 n m _ _ rfl (aep O);exact⟨v,AD a w v (by simp[(H E).1]) (by simp[(H E).1]) (by rw[(H E).1,(H E).2];exact M),.d _ _ (J _)⟩
  .split
   .rename_i c d h;refine aL.pure ?_;rintro ⟨rfl,O⟩ φ G a w E;obtain⟨v,M,J⟩:=SH P w op t k n m c d h O;exact⟨v,AD a w v (by simp[(H E).1]) (by simp[(H E).1]) (by rw[(H E).1,(H E).2];exact M),.d _ _ (J _)⟩
   .trivial
 .rename_i s u U AB;split
  .rename_i c d h;refine aL.tw λO φ G a w E=>?_;have M:=E.au x A';have J:=E.au y A2;rw[U]at M;rw[AB]at J;obtain⟨Ar,A3,rfl⟩:=we M;obtain⟨As,A6,rfl⟩:=we J;obtain⟨v,AZ,A_⟩:=SI P w op t Ar As c d h O;exact⟨v,AD a w v (by simp[A3]) (by simp[A3]) (by rw[A3,A6];exact AZ),.d _ _ (A_ _)⟩
  .trivial
 .rename_i n m U AB;have H:∀{φ G a w},Rel φ G S a w->a.eval x=.bool n/\a.eval y=.bool m:=λE=>by
   have M:=E.au x A';have J:=E.au y A2;rw[U]at M;rw[AB]at J;exact⟨vO M,vO J⟩
  split
  .refine aL.pure λO φ G a w E=>⟨.bool (n == m),AD a w _ (by simp[(H E).1]) (by simp[(H E).1]) ?_,.d _ _ (.bool _)⟩;rw[(H E).1,(H E).2];simp[binOp,Op.equal,Op.maxDepth,run_equalIn_bool' w 9999 t n m (Jl O)]
  .refine aL.pure λO φ G a w E=>⟨.bool (n != m),AD a w _ (by simp[(H E).1]) (by simp[(H E).1]) ?_,.d _ _ (.bool _)⟩;rw[(H E).1,(H E).2];simp[binOp,Op.equal,Op.maxDepth,run_equalIn_bool' w 9999 t n m (Jl O),bne]
  .trivial
 .rename_i xs N U AB;split
  .rename_i ks A1;split
   .rename_i r At;have key:∀{φ G a w},Rel φ G S a w->∃V Z,a.eval x=.agg V/\a.eval y=.agg Z/\(Op.equal t (.agg V) (.agg Z)).run P w=.ok r w/\(eqGuard op t x y (.agg V) (.agg Z)).run P w=.ok () w:=by
     intro φ G a w E;have M:=E.au x A';have J:=E.au y A2;rw[U]at M;rw[AB]at J;generalize a.eval x=B5 at M;generalize a.eval y=B6 at J;cases M with|d _ _ M=>
     cases J with|d _ _ J=>
     cases M with|agg _ V Ah B7 Au=>
     cases J with|agg _ Z Ai B8 Av=>
     unfold cN at A1;split at A1
     .rename_i fs hu;split at A1
      .rename_i Aw;have AC:P.fieldsOf t=fs:=by simp[Program.fieldsOf,hu]
       have AA:tk P t=.struct:=by simp[tk,hu]
       unfold Hg at A1;simp only[AA,hu]at A1;split at A1
       .rename_i AL;split at A1
        .rename_i AE AM;split at A1
         .cases A1;refine⟨V,Z,rfl,rfl,?_,?_⟩
          .unfold Op.equal Op.maxDepth;rw[run_equalIn_struct w 9999 t V Z (by rw[AC];exact hu) AL,AC];exact AU (F:=Fo G φ S.mem) (λA8 AE AN AO AP AQ AR AS AT AW AX AY=>ME 9992 7 _ _ A8 AE AN AO AP AQ AR AS AT AW AX AY) fs.toList 0 ks AM xs N r At (λi c v O I=>Au i c v O (by simpa using I)) (λi c v O I=>Av i c v O (by simpa using I)) (by omega) (by omega)
          .cases op<;>simp[eqGuard,Aw]
         .cases A1
        .cases A1
       .cases A1
      .cases A1
     .cases A1
    split
    .refine aL.pure λ_ φ G a w E=>?_;obtain⟨V,Z,A3,A6,M,J⟩:=key E;exact⟨.bool r,by simp[execOp,A7,A3,A6,J,binOp,M],.d _ _ (.bool _)⟩
    .refine aL.pure λ_ φ G a w E=>?_;obtain⟨V,Z,A3,A6,M,J⟩:=key E;exact⟨.bool (!r),by simp[execOp,A7,A3,A6,J,binOp,M],.d _ _ (.bool _)⟩
    .trivial
   .trivial
  .trivial
 .trivial
def kT(P:Program)(m:Mem)(neg:Bool)(t:TypeId)(x:AV):Value->dO
 | .slice none 0 0=>match tk P t with
  | .slice _=>match x with
   | .d (.list (_::_))=>.val true (.d (.bool neg))
   | .lit (.slice none 0 0)=>.val true (.d (.bool (!neg)))
   | .nn=>.val true (.d (.bool neg))
   | .vec k ar _ len=>match Mem.get m k with
    |some ⟨_,v,.vec _ _⟩=>.val (v=ar/\0<len) (.d (.bool neg))
    |_=>.no
   |_=>.no
  |_=>.no
 | .pointer none=>match tk P t with
  | .ptr _=>match x with
   | .lit (.pointer none)=>.val true (.d (.bool (!neg)))
   | .ptr k ar _=>match Mem.get m k with
    |some ⟨_,v,_⟩=>.val (v=ar) (.d (.bool neg))
    |_=>.no
   |_=>.no
  |_=>.no
 | .nilIface=>match tk P t with
  | .iface=>match x with
   | .jb _ _=>.val true (.d (.bool neg))
   | .err=>.val true (.d (.bool neg))
   | .lit .nilIface=>.val true (.d (.bool (!neg)))
   |_=>.no
  |_=>.no
 |_=>.no
def SK{φ w F d Aa v}(h:aG φ w F (.d (.list (d::Aa))) v):∃b off cap,v=.slice (some ⟨b,off,none⟩) (Aa.length+1) cap:=by
 cases h with|d _ _ h=>
 cases h with|list _ b off cap sz vs=>exact⟨b,off,cap,rfl⟩
def aef{P:Program}{t e:TypeId}(h:tk P t=.ptr e):P.underlying t=some (.pointer e):=by
 unfold tk at h;split at h<;>simp_all
def Yg{P:Program}{t:TypeId}(h:tk P t=.iface):∃ms,P.underlying t=some (.interface ms):=by
 unfold tk at h;split at h<;>simp_all
def tC{P:Program}(w:World)(d:Nat){t e:TypeId}(a:Option Addr)(n c:Nat)(h:P.underlying t=some (.slice e)):
 (Op.equalIn (d+1) t (.slice a n c) (.slice none 0 0)).run P w=.ok a.isNone w:=by
 cases a<;>simp[Op.equalIn,run_underlying h]
def Kb{P:Program}(w:World)(d:Nat){t e:TypeId}(a:Option Addr)(h:P.underlying t=some (.pointer e)):
 (Op.equalIn (d+1) t (.pointer a) (.pointer none)).run P w=.ok a.isNone w:=by
 cases a<;>simp[Op.equalIn,run_underlying h]
def Fa{P:Program}(w:World)(d:Nat){t:TypeId}{ms}(Ax:TypeId)(v:Value)(h:P.underlying t=some (.interface ms)):
 (Op.equalIn (d+1) t (.iface Ax v) .nilIface).run P w=.ok false w:=by
 simp[Op.equalIn,run_underlying h]
def MG{P:Program}(w:World)(d:Nat){t:TypeId}{ms}(h:P.underlying t=some (.interface ms)):
 (Op.equalIn (d+1) t .nilIface .nilIface).run P w=.ok true w:=by
 simp[Op.equalIn,run_underlying h]
def aby{P:Program}{o:Oper}{neg:Bool}{t A8:TypeId}{x:Operand}{v:Value}(A7:o.op=.binOp (if neg then .neq else .eql) t x (.const v) A8){a:Act}{w:World}{b:Bool}
 (M:∀c,a.eval x≠.agg c) (Ak:v=.slice none 0 0\/v=.pointer none\/v=.nilIface) (Al:(∀k n,a.eval x≠.int k n)/\(∀k n,a.eval x≠.float k n)/\(∀k n m,a.eval x≠.complex k n m)/\(∀s,a.eval x≠.string s))
 (h:(Op.equalIn 10000 t (a.eval x) v).run P w=.ok b w):(execOp a.eval o).run P w=.ok (.value (.bool (if neg then !b else b))) w:=by
 have e:a.eval (.const v)=v:=rfl;have AF:(eqGuard (if neg then .neq else .eql) t x (.const v) (a.eval x) v).run P w=.ok () w:=by
  unfold eqGuard;generalize a.eval x=u at M⊢;rcases Ak with rfl|rfl|rfl<;>cases u<;>cases neg<;>simp
 have Ae:(binOp (if neg then .neq else .eql) t (a.eval x) v).run P w=.ok (.bool (if neg then !b else b)) w:=by
  generalize a.eval x=u at h Al⊢;obtain⟨g1,g2,g3,g4⟩:=Al;rcases Ak with rfl|rfl|rfl<;>cases u<;>cases neg<;>simp_all [binOp,Op.equal,Op.maxDepth]
 simp only[execOp,A7,e,Sem.run_bind,AF,Result.andThen_ok,Ae,Sem.run_pure]
def QX(P:Program)(S:St)(o:Oper)(neg:Bool)(t A8:TypeId)(x:Operand)(v:Value)(A7:o.op=.binOp (if neg then .neq else .eql) t x (.const v) A8)(A':(S.au x).1=true):aL P S o (kT P S.mem neg t (S.au x).2 v):=by
 have go:∀{φ G a w}{b:Bool},Rel φ G S a w->(∀c,a.eval x≠.agg c)->(v=.slice none 0 0\/v=.pointer none\/v=.nilIface)->((∀k n,a.eval x≠.int k n)/\(∀k n,a.eval x≠.float k n)/\(∀k n m,a.eval x≠.complex k n m)/\(∀s,a.eval x≠.string s))->
  (Op.equalIn 10000 t (a.eval x) v).run P w=.ok b w->∃AI,(execOp a.eval o).run P w=.ok (.value AI) w/\aG φ w (Fo G φ S.mem) (.d (.bool (if neg then !b else b))) AI:=by
  intro φ G a w b E M J AZ A_;exact⟨_,aby A7 M J AZ A_,.d _ _ (.bool _)⟩
 have B9:∀{b:Bool},(if neg=true then !b else b)=(if neg=true then !b else b):=rfl;unfold kT;split
 .split
  .rename_i e AG;have A4:=gR AG;split
   .rename_i d Aa U;refine aL.tw λ_ φ G a w E=>?_;have I:=E.au x A';rw[U]at I;obtain⟨b,off,cap,H⟩:=SK I;have:=go (b:=false) E (by simp[H]) (.inl rfl) (by simp[H]) (by rw[H];exact tC w 9999 _ _ _ A4);cases neg<;>simpa using this
   .rename_i U;refine aL.tw λ_ φ G a w E=>?_;have I:=E.au x A';rw[U]at I;generalize H:a.eval x=u at I;cases I;have:=go (b:=true) E (by simp[H]) (.inl rfl) (by simp[H]) (by rw[H];exact tC w 9999 _ _ _ A4);cases neg<;>simpa using this
   .rename_i U;refine aL.tw λ_ φ G a w E=>?_;have I:=E.au x A';rw[U]at I;generalize H:a.eval x=u at I;cases I;have:=go (b:=false) E (by simp[H]) (.inl rfl) (by simp[H]) (by rw[H];exact tC w 9999 _ _ _ A4);cases neg<;>simpa using this
   .rename_i k ar off len U;split
    .rename_i key AI sz aq AF;refine aL.pure ?_;rintro ⟨rfl,BA⟩ φ G a w E;have I:=E.au x A';rw[U]at I;obtain⟨hm,A0,L,Ab,Ac,Ay⟩:=E.mem.get AF;generalize H:a.eval x=u at I;cases I with
     |vec _ _ _ _ _ L' An _ h _=>
      rw[Ab]at An;cases An;obtain⟨ao,cap,rfl,BB,Az⟩:=h Ac.symm;obtain⟨rfl,_⟩:=Az (by omega);have:=go (b:=false) E (by simp[H]) (.inl rfl) (by simp[H]) (by rw[H];exact tC w 9999 _ _ _ A4);cases neg<;>simpa using this
    .trivial
   .trivial
  .trivial
 .split
  .rename_i e AG;have A4:=aef AG;split
   .rename_i U;refine aL.tw λ_ φ G a w E=>?_;have I:=E.au x A';rw[U]at I;generalize H:a.eval x=u at I;cases I;have:=go (b:=true) E (by simp[H]) (.inr (.inl rfl)) (by simp[H]) (by rw[H];exact Kb w 9999 _ A4);cases neg<;>simpa using this
   .rename_i k ar off U;split
    .rename_i key AI c AF;refine aL.pure ?_;rintro rfl φ G a w E;have I:=E.au x A';rw[U]at I;obtain⟨hm,A0,L,Ab,Ac,Ay⟩:=E.mem.get AF;have H:=I.tU Ab Ac;have:=go (b:=false) E (by simp[H]) (.inr (.inl rfl)) (by simp[H]) (by rw[H];exact Kb w 9999 _ A4);cases neg<;>simpa using this
    .trivial
   .trivial
  .trivial
 .split
  .rename_i AG;obtain⟨ms,A4⟩:=Yg AG;split
   .rename_i BC BD U;refine aL.tw λ_ φ G a w E=>?_;have I:=E.au x A';rw[U]at I;generalize H:a.eval x=u at I;cases I;have:=go (b:=false) E (by simp[H]) (.inr (.inr rfl)) (by simp[H]) (by rw[H];exact Fa w 9999 _ _ A4);cases neg<;>simpa using this
   .rename_i U;refine aL.tw λ_ φ G a w E=>?_;have I:=E.au x A';rw[U]at I;generalize H:a.eval x=u at I;cases I;have:=go (b:=false) E (by simp[H]) (.inr (.inr rfl)) (by simp[H]) (by rw[H];exact Fa w 9999 _ _ A4);cases neg<;>simpa using this
   .rename_i U;refine aL.tw λ_ φ G a w E=>?_;have I:=E.au x A';rw[U]at I;generalize H:a.eval x=u at I;cases I;have:=go (b:=true) E (by simp[H]) (.inr (.inr rfl)) (by simp[H]) (by rw[H];exact MG w 9999 A4);cases neg<;>simpa using this
   .trivial
  .trivial
 .trivial
def ki(s:List UInt8)(i:Nat):UInt8:=s[i]?.getD 0
def sD(P:Program)(t:TypeId)(x i:AV):dO:=
 match i with
 | .d (.int _ n)=>match x with
  | .d (.str s)=>.val (tk P t=.str/\0<=n/\n.toNat<s.length) (.d (.int .u8 (ki s n.toNat).toNat))
  | .d (.agg cs)=>match tk P t with
   | .arr len e=>match (tk P e).agg,fW P e with
    |false,some 1=>.val (0<=n/\n.toNat<len/\len<=cs.length/\tk P e≠.other) (.d (D.at cs n.toNat))
    |true,some sz=>.val (0<=n/\n.toNat<len/\len*sz<=cs.length) (.d (.agg ((cs.drop (n.toNat*sz)).take sz)))
    |_,_=>.no
   |_=>.no
  |_=>.no
 |_=>.no
def U4(b:ByteArray)(i:Nat):b[i]?=b.data.toList[i]?:=by
 by_cases h:i<b.size
 .have AL:i<b.data.size:=h;rw[getElem?_pos b i h,aeV,getElem?_pos b.data i AL];rfl
 .have AL:¬i<b.data.size:=h;rw[getElem?_neg b i h,aeV,getElem?_neg b.data i AL]
def MH{P:Program}{w:World}{t:TypeId}{b:ByteArray}{k:IntKind}{n:Int}(AD:tk P t=.str)(V:0<=n)(J:n.toNat<b.data.toList.length):
 (Instr.index t (.string b) (.int k n)).run P w=.ok (.int .u8 (ki b.data.toList n.toNat).toNat) w:=by
 have e:b[n.toNat]?=some (ki b.data.toList n.toNat):=by rw[U4];simp only[ki];rw[ad4 J];rfl
 simp only[Instr.index,asIntOf,Sem.run_bind,Sem.run_pure,Result.andThen_ok,run_underlying (pJ AD),V,ad1,e]
def Kc{P:Program}{w:World}{t:TypeId}{cs:Array Value}{off n:Nat}(h:(tk P t).agg=true)(A0:fW P t=some n):(part t cs off).run P w=.ok (.agg (cs.extract off (off+n))) w:=by
 have M:tk P t≠.other:=by intro AL;rw[AL]at h;cases h
 simp[part,tT M,h,run_sizeOf A0]
def B5{w F}{cs:List D}{a:Array Value}(h:aP w F (.agg cs) (.agg a))(o n:Nat)(hle:o+n<=cs.length):aP w F (.agg ((cs.drop o).take n)) (.agg (a.extract o (o+n))):=by
 have Z:=h.cells;cases h with|agg _ _ J Ae H=>
 have N:=aP.qv (w:=w) (F:=F) (cs:=(cs.drop o).take n) (vs:=(a.toList.drop o).take n) (by simp;omega)
  (λv AI=>Z.2.1 v (by simpa [Value.cells]using abe (abf AI)))
  (λi c v E N=>by
   rw[aaM]at E N;split at E
   .rename_i hi;simp only[hi,ad1]at N;exact H (o+i) c v (by simpa using E) (by simpa using N)
   .cases E)
 have e:((a.toList.drop o).take n).toArray=a.extract o (o+n):=by
  apply Array.ext';simp
 rwa [e]at N
def U5(P:Program)(S:St)(o:Oper)(t:TypeId)(x i:Operand)(M:o.op=.index t x i)(I:(S.au x).1=true)(hi:(S.au i).1=true):aL P S o (sD P t (S.au x).2 (S.au i).2):=by
 unfold sD;split
 .rename_i k n AZ;split
  .rename_i s O;refine aL.pure ?_;rintro ⟨AD,V,J⟩ φ G a w H;have E:=H.au x I;have N:=H.au i hi;rw[O]at E;rw[AZ]at N;obtain⟨b,A4,rfl⟩:=we E;exact⟨_,by simp only[execOp,M,A4,lg N,Sem.run_bind,MH AD V J];rfl,.d _ _ (.int _ _)⟩
  .rename_i cs O;split
   .rename_i len e U;split
    .rename_i A_ A0;refine aL.pure ?_;rintro ⟨V,J,hle,Aa⟩ φ G a w H;have E:=H.au x I;have N:=H.au i hi;rw[O]at E;rw[AZ]at N;generalize A':a.eval x=av at E;cases E with|d _ _ E=>
     cases E with|agg _ A7 As At Af=>
     have AE:n<(len:Int):=by omega
     have Ag:n.toNat<A7.size:=by omega
     refine⟨A7[n.toNat],?_,.d _ _ (Af n.toNat _ _ (kV (by omega)) (by simp[Ag]))⟩;have AF:=wm (P:=P) (w:=w) (t:=e) (cs:=A7) (off:=n.toNat*1) A_ Aa (v:=A7[n.toNat]) (by simp[Ag]);simp only[ai9]at AF;simp[execOp,M,A',lg N,Instr.index,asIntOf,run_underlying (wg U),V,AE,run_sizeOf A0,AF]
    .rename_i sz A_ A0;refine aL.pure ?_;rintro ⟨V,J,hle⟩ φ G a w H;have E:=H.au x I;have N:=H.au i hi;rw[O]at E;rw[AZ]at N;generalize A':a.eval x=av at E;cases E with|d _ _ E=>
     have Au:=E;cases E with|agg _ A7 As At Af=>
     have AE:n<(len:Int):=by omega
     have Av:n.toNat*sz+sz<=cs.length:=by
      have:(n.toNat+1)*sz<=len*sz:=aaG _ J;rw[aeh]at this;omega
     refine⟨_,?_,.d _ _ (B5 Au (n.toNat*sz) sz Av)⟩;have AF:=Kc (P:=P) (w:=w) (t:=e) (cs:=A7) (off:=n.toNat*sz) A_ A0;simp[execOp,M,A',lg N,Instr.index,asIntOf,run_underlying (wg U),V,AE,run_sizeOf A0,AF]
    .trivial
   .trivial
  .trivial
 .trivial
def bound(m:Option AV)(AQ:Int):Option Int:=
 match m with
 |none=>some AQ
 |some (.d (.int _ n))=>some n
 |some _=>none
def mm(P:Program)(m:Mem)(t:TypeId)(x:AV)(lo hi:Option AV):dO:=
 match x with
 | .d (.str s)=>match bound lo 0,bound hi s.length with
  |some l,some h=>.val (tk P t=.str/\0<=l/\l<=h/\h.toNat<=s.length) (.d (.str ((s.take h.toNat).drop l.toNat)))
  |_,_=>.no
 | .d (.list xs)=>match tk P t with
  | .slice e=>match fW P e,bound lo 0,bound hi xs.length with
   |some sz,some l,some h=>.val (0<=l/\l<=h/\h.toNat<=xs.length/\(∀d∈xs,d.size=sz)) (.d (.list ((xs.take h.toNat).drop l.toNat)))
   |_,_,_=>.no
  |_=>.no
 | .vec k ar off len=>match tk P t,Mem.get m k with
  | .slice e,some ⟨_,v,.vec A5 _⟩=>match fW P e,bound lo 0,bound hi len with
   |some sz,some l,some h=>.val (v=ar/\A5=sz/\0<=l/\l<=h/\h.toNat<=len) (.vec k ar (off+l.toNat) (h.toNat-l.toNat))
   |_,_,_=>.no
  | .slice e,some ⟨_,v,.vv _ _⟩=>match fW P e,bound lo 0,bound hi len with
   |some sz,some l,some h=>.val (v=ar/\sz=1/\0<=l/\l<=h/\h.toNat<=len) (.vec k ar (off+l.toNat) (h.toNat-l.toNat))
   |_,_,_=>.no
  |_,_=>.no
 | .df k ar i j=>match tk P t,Mem.get m k with
  | .arr n e,some ⟨_,v,.vec A5 aq⟩=>match fW P e,bound lo 0,bound hi n with
   |some sz,some l,some h=>.val (v=ar/\A5=sz/\i=0/\j=0/\n<=aq.length/\0<=l/\l<=h/\h.toNat<=n) (.vec k ar l.toNat (h.toNat-l.toNat))
   |_,_,_=>.no
  |_,_=>.no
 | .ptr k ar off=>match tk P t,Mem.get m k with
  | .arr n e,some ⟨_,v,.box cs⟩=>match fW P e,bound lo 0,bound hi n with
   |some sz,some l,some h=>.val (v=ar/\sz=1/\off+n<=cs.length/\0<=l/\l<=h/\h.toNat<=n) (.vec k ar (off+l.toNat) (h.toNat-l.toNat))
   |_,_,_=>.no
  |_,_=>.no
 |_=>.no
def jQ{P:Program}{w:World}{isS:Bool}{len cap:Nat}{lo hi:Option Value}{l h:Int}
 (A9:(lo=none/\l=0)\/∃k,lo=some (.int k l)) (AA:(hi=none/\h=len)\/∃k,hi=some (.int k h)) (V:0<=l) (hle:l<=h) (A3:h.toNat<=cap):
 (Instr.sliceBounds isS len cap lo hi none).run P w=.ok (l.toNat,h.toNat,cap) w:=by
 have E:h<=(cap:Int):=by omega
 have N:0<=h:=by omega
 have AM:l<=(h.toNat:Int):=by omega
 rcases A9 with ⟨rfl,rfl⟩|⟨k,rfl⟩<;>rcases AA with ⟨rfl,rfl⟩|⟨BA,rfl⟩<;>
  simp_all [Instr.sliceBounds,Instr.sliceBound,asIntOf]
def je{S:St}{φ G a w}(H:Rel φ G S a w){x:Option Operand}{AQ n:Int}(I:∀y,x=some y->(S.au y).1=true)(h:bound (x.map λy=>(S.au y).2) AQ=some n):
 (x.map a.eval=none/\n=AQ)\/∃k,x.map a.eval=some (.int k n):=by
 cases x with
 |none=>simp[bound]at h;exact .inl ⟨rfl,h.symm⟩
 |some y=>
  right;simp only[afS]at h⊢;unfold bound at h;split at h
  .rename_i heq;cases heq
  .rename_i k m heq;simp at h heq;subst h;have:=H.au y (I y rfl);rw[heq]at this;exact⟨k,by rw[lg this]⟩
  .cases h
def SM{w F xs v sz}(h:aP w F (.list xs) v)(A0:∀d∈xs,d.size=sz){l hh:Nat}(hle:l<=hh)(Aw:hh<=xs.length):
 ∃ao cap,v=.slice ao xs.length cap/\xs.length<=cap/\(ao=none->cap=0)/\∀AJ AN,(AN=none->AJ=0)->hh-l<=AJ->(AN=ao.map (·.add (l*sz))\/(hh-l=0))->aP w F (.list ((xs.take hh).drop l)) (.slice AN (hh-l) AJ):=by
 have J:((xs.take hh).drop l).length=hh-l:=by simp;omega
 generalize I:D.list xs=x at h;cases h with
 |nil a c Ab=>
  simp at I;subst I;refine⟨a,c,rfl,by simp,Ab,λAJ AN Ac _ _=>?_⟩;have E:hh-l=0:=by simp at Aw;omega
  rw[E];simp;exact .nil _ _ Ac
 |list AO b off cap A5 vs A3 Ax Ay AR AI Z=>
  simp at I;subst I;refine⟨_,cap,rfl,A3,by simp,λAJ AN Ac AS AT=>?_⟩;by_cases Ah:hh-l=0
  .have e:(xs.take hh).drop l=[]:=aaB (by omega);rw[e,Ah];exact .nil _ _ Ac
  .have AT:=AT.resolve_right Ah;have Az:A5=sz:=by
    have Ai:0<xs.length:=by omega
    rw[<-AR xs[0] (aec Ai),A0 xs[0] (aec Ai)]
   subst Az;simp only[afS,gq]at AT;rw[AT,<-J];refine .list _ b (off+l*A5) AJ A5 (λi=>vs (l+i)) (by rw[J];exact AS) Ax Ay (λd AB=>AR d (abf (abe AB))) (λi d AB=>?_) (λi j c hi B'=>?_)
   .rw[abp,aaM]at AB;split at AB
    .exact AI _ d AB
    .cases AB
   .have:=Z (l+i) j c (by rw[J]at hi;omega) B';rw[aeh,<-aaX]at this;exact this
 |_=>simp at I
def Yh(P:Program)(S:St)(o:Oper)(t:TypeId)(x:Operand)(lo hi:Option Operand)(M:o.op=.slice t x lo hi none)(I:(S.au x).1=true)(A9:∀y,lo=some y->(S.au y).1=true)(AA:∀y,hi=some y->(S.au y).1=true):
 aL P S o (mm P S.mem t (S.au x).2 (lo.map λy=>(S.au y).2) (hi.map λy=>(S.au y).2)):=by
 unfold mm;split
 .rename_i s O;split
  .rename_i l h J hh;refine aL.pure ?_;rintro ⟨AD,V,hle,A3⟩ φ G a w H;have E:=H.au x I;rw[O]at E;obtain⟨b,A4,rfl⟩:=we E;have AU:b.size=b.data.toList.length:=by rw[aa5];rfl
   have A6:=jQ (P:=P) (w:=w) (isS:=false) (len:=b.size) (cap:=b.size) (je H A9 J) (by have:=je H AA hh;rw[<-AU]at this;exact this) V hle (by rw[AU];exact A3);refine⟨.string (b.extract l.toNat h.toNat),?_,.d _ _ (.str _ _ ?_)⟩
   .simp[execOp,M,A4,Instr.sliceAt,Instr.slice,run_underlying (pJ AD),A6]
   .simp[ByteArray.data_extract,List.drop_take]
  .trivial
 .rename_i xs O;split
  .rename_i e U;split
   .rename_i sz l h A0 J hh;refine aL.pure ?_;rintro ⟨V,hle,A3,AR⟩ φ G a w H;have E:=H.au x I;rw[O]at E;generalize A':a.eval x=av at E;cases E with|d _ _ E=>
    obtain⟨ao,cap,rfl,BB,Ab,B0⟩:=SM E AR (l:=l.toNat) (hh:=h.toNat) (by omega) A3;have Z:h.toNat<=cap:=by omega
    have A6:=jQ (P:=P) (w:=w) (isS:=true) (len:=xs.length) (cap:=cap) (je H A9 J) (je H AA hh) V hle Z;refine⟨.slice (if cap=l.toNat then ao else ao.map (·.add (l.toNat*sz))) (h.toNat-l.toNat) (cap-l.toNat),?_,.d _ _ (B0 _ _ (λAE=>?_) (by omega) ?_)⟩
    .simp[execOp,M,A',Instr.sliceAt,Instr.slice,run_underlying (gR U),A6,run_sizeOf A0]
    .have:ao=none:=by split at AE<;>simp_all
     have:=Ab this;omega
    .by_cases B2:cap=l.toNat
     .exact .inr (by omega)
     .exact .inl (by simp[B2])
   .trivial
  .trivial
 .rename_i k ar off len O;split
  .rename_i e key v A5 aq U A8;split
   .rename_i sz l h A0 J hh;refine aL.pure ?_;rintro ⟨rfl,rfl,V,hle,A3⟩ φ G a w H;have E:=H.au x I;rw[O]at E;obtain⟨hm,AW,L,A2,A1,AG⟩:=H.mem.get A8;simp only at A1;generalize A':a.eval x=av at E;cases E with
    |vec _ _ _ _ _ L' AC _ AH _=>
     rw[A2]at AC;cases AC;obtain⟨ao,cap,rfl,Aj,AX⟩:=AH A1.symm;clear AH;have A6:=jQ (P:=P) (w:=w) (isS:=true) (len:=len) (cap:=cap) (je H A9 J) (je H AA hh) V hle (by omega);refine⟨.slice (if cap=l.toNat then ao else ao.map (·.add (l.toNat*A5))) (h.toNat-l.toNat) (cap-l.toNat),?_,?_⟩
     .simp[execOp,M,A',Instr.sliceAt,Instr.slice,run_underlying (gR U),A6,run_sizeOf A0]
     .refine .vec k v _ _ _ L A2 (by omega) (λ_=>⟨_,_,rfl,by omega,λZ=>?_⟩) rfl;obtain⟨rfl,B3⟩:=AX (by omega);refine⟨?_,by omega⟩;rw[aaf (by omega)];simp only[afS,gq,AG.1,aeh,aaX]
   .trivial
  .rename_i e key v aq y U A8;split
   .rename_i sz l h A0 J hh;refine aL.pure ?_;rintro ⟨rfl,rfl,V,hle,A3⟩ φ G a w H;have E:=H.au x I;rw[O]at E;obtain⟨hm,AW,L,A2,A1,AG⟩:=H.mem.get A8;simp only at A1;generalize A':a.eval x=av at E;cases E with
    |vec _ _ _ _ _ L' AC _ AH _=>
     rw[A2]at AC;cases AC;obtain⟨ao,cap,rfl,Aj,AX⟩:=AH A1.symm;clear AH;have A6:=jQ (P:=P) (w:=w) (isS:=true) (len:=len) (cap:=cap) (je H A9 J) (je H AA hh) V hle (by omega);refine⟨.slice (if cap=l.toNat then ao else ao.map (·.add (l.toNat*1))) (h.toNat-l.toNat) (cap-l.toNat),?_,?_⟩
     .simp[execOp,M,A',Instr.sliceAt,Instr.slice,run_underlying (gR U),A6,run_sizeOf A0]
     .refine .vec k v _ _ _ L A2 (by omega) (λ_=>⟨_,_,rfl,by omega,λZ=>?_⟩) rfl;obtain⟨rfl,B3⟩:=AX (by omega);refine⟨?_,by omega⟩;rw[aaf (by omega)];simp only[afS,gq,AG.1.1,aeh,aaX]
   .trivial
  .trivial
 .rename_i k ar i j O;split
  .rename_i n e key v A5 aq U A8;split
   .rename_i sz l h A0 J hh;refine aL.pure ?_;rintro ⟨rfl,rfl,rfl,rfl,AE,V,hle,A3⟩ φ G a w H;have E:=H.au x I;rw[O]at E;obtain⟨hm,AW,L,A2,A1,AG⟩:=H.mem.get A8;simp only at A1;have A4:=E.mj A2 A1;have A6:=jQ (P:=P) (w:=w) (isS:=false) (len:=n) (cap:=n) (je H A9 J) (je H AA hh) V hle A3;refine⟨.slice (some (if n=l.toNat then ⟨L.dU,L.base,none⟩else ⟨L.dU,L.base+l.toNat*A5,none⟩)) (h.toNat-l.toNat) (n-l.toNat),?_,?_⟩
    .simp[execOp,M,A4,Instr.sliceAt,Instr.sureAddr,run_underlying (wg U),A6,run_sizeOf A0,gq]
    .refine .vec k v _ _ _ L A2 (by omega) (λ_=>⟨_,_,rfl,by omega,λZ=>⟨?_,by have:=AG.2.1;omega⟩⟩) rfl;rw[aaf (by omega),AG.1]
   .trivial
  .trivial
 .rename_i k ar off O;split
  .rename_i n e key v cs U A8;split
   .rename_i sz l h A0 J hh;refine aL.pure ?_;rintro ⟨rfl,rfl,AE,V,hle,A3⟩ φ G a w H;have E:=H.au x I;rw[O]at E;obtain⟨hm,AW,L,A2,A1,⟨B4,z2,z3⟩,_⟩:=H.mem.get A8;simp only at A1;have A4:=E.tU A2 A1;have A6:=jQ (P:=P) (w:=w) (isS:=false) (len:=n) (cap:=n) (je H A9 J) (je H AA hh) V hle A3;refine⟨.slice (some (if n=l.toNat then ⟨L.dU,off,none⟩else ⟨L.dU,off+l.toNat,none⟩)) (h.toNat-l.toNat) (n-l.toNat),?_,?_⟩
    .simp[execOp,M,A4,Instr.sliceAt,Instr.sureAddr,run_underlying (wg U),A6,run_sizeOf A0,gq]
    .refine .vec k v _ _ _ L A2 (by omega) (λ_=>⟨_,_,rfl,by omega,λZ=>⟨?_,by omega⟩⟩) rfl;rw[aaf (by omega),B4,z2];simp
   .trivial
  .trivial
 .trivial
def Hi(t:Bool)(x y:D):D:=
 match x,y with
 | .bool a,.bool b=>.bool (bif t then a else b)
 |x,y=>bif t then x else y
def wu(t:Bool)(x y:AV):AV:=
 match x,y with
 | .d x,.d y=>.d (Hi t x y)
 |x,y=>bif t then x else y
def LP(c a b:Bool×AV):dO:=
 match c.2 with
 | .d (.bool t)=>.val (c.1=true/\(t=true->a.1=true)/\(t=false->b.1=true)) (wu t a.2 b.2)
 |_=>.no
def abz(P:Program)(S:St)(o:Oper)(c x y:Operand)(M:o.op=.pick c x y):aL P S o (LP (S.au c) (S.au x) (S.au y)):=by
 unfold LP;split
 .rename_i t Z;refine aL.pure ?_;rintro ⟨E,N,AM⟩ φ G a w H;have Ak:=H.au c E;rw[Z]at Ak;have e:=vO Ak;cases t
  .have AY:=H.au y (AM rfl);refine⟨a.eval y,by simp[execOp,M,e,asBool],?_⟩;have AP:wu false (S.au x).2 (S.au y).2=(S.au y).2:=by
    unfold wu;split
    .rename_i u v Al An;rw[An];congr 1;unfold Hi;split<;>rfl
    .rfl
   rw[AP];exact AY
  .have I:=H.au x (N rfl);refine⟨a.eval x,by simp[execOp,M,e,asBool],?_⟩;have AP:wu true (S.au x).2 (S.au y).2=(S.au x).2:=by
    unfold wu;split
    .rename_i u v Al An;rw[Al];congr 1;unfold Hi;split<;>rfl
    .rfl
   rw[AP];exact I
 .trivial
def abA(P:Program)(S:St)(o:Oper)(x:Operand)(M:o.op=.move x\/o.op=.assign x)(I:(S.au x).1=true):aL P S o (.val True (S.au x).2):=by
 refine aL.pure λ_ φ G a w H=>⟨a.eval x,?_,H.au x I⟩;rcases M with M|M<;>simp[execOp,M]
def MJ(op:UnOp)(x:AV):dO:=
 match op,x with
 | .not,.d (.bool b)=>.val True (.d (.bool (!b)))
 | .neg,.d (.int k n)=>.val True (.d (.int k (k.wrap (0-n))))
 | .xor,.d (.int k n)=>.val True (.d (.int k (k.wrap (BitVec.ofInt k.bits (if k.signed then-1 else k.max) ^^^ BitVec.ofInt k.bits n).toNat)))
 |_,_=>.no
def ajN(P:Program)(S:St)(o:Oper)(op:UnOp)(t:TypeId)(x:Operand)(M:o.op=.unOp op t x)(I:(S.au x).1=true):aL P S o (MJ op (S.au x).2):=by
 unfold MJ;split
 .rename_i b O;refine aL.pure λ_ φ G a w H=>?_;have E:=H.au x I;rw[O]at E;exact⟨.bool (!b),by simp[execOp,M,vO E,Op.unary],.d _ _ (.bool _)⟩
 .rename_i k n O;refine aL.pure λ_ φ G a w H=>?_;have E:=H.au x I;rw[O]at E;exact⟨.int k (k.wrap (0-n)),by simp only[execOp,M,lg E,Op.unary,Op.intArith,Sem.run_bind,Sem.run_pure,Result.andThen_ok],.d _ _ (.int _ _)⟩
 .rename_i k n O;refine aL.pure λ_ φ G a w H=>?_;have E:=H.au x I;rw[O]at E;exact⟨_,by simp only[execOp,M,lg E,Op.unary,Op.intBits,Sem.run_bind,Sem.run_pure,Result.andThen_ok],.d _ _ (.int _ _)⟩
 .trivial
def wA(i:Nat)(x:AV):dO:=
 match x with
 | .bh vs=>match vs[i]? with
  |some v=>.val True v
  |none=>.no
 |_=>.no
def SN(P:Program)(S:St)(o:Oper)(x:Operand)(i:Nat)(M:o.op=.extract x i)(I:(S.au x).1=true):aL P S o (wA i (S.au x).2):=by
 unfold wA;split
 .rename_i vs O;split
  .rename_i v AI;refine aL.pure λ_ φ G a w H=>?_;have E:=H.au x I;rw[O]at E;generalize A':a.eval x=av at E;cases E with|bh _ A7 J Z=>
   have hi:i<A7.size:=by rw[<-J];exact (aai.1 AI).1
   exact⟨A7[i],by simp[execOp,M,A',Instr.extract,hi],Z i v _ AI (by simp[hi])⟩
  .trivial
 .trivial
def qC(f:Fn)(first cap:List AV):dO:=
 match f,first with
 | .func f,[]=>.val (f<uY) (.fn f cap)
 | .func f,x::r=>match cap with
  |[]=>.val True (.fn (f+uY) (x::r))
  |_=>.no
 |_,_=>.no
def Qh(P:Program)(S:St)(o:Oper)(f:Fn)(first cap:Array Operand)(M:o.op=.makeFunc f first cap)(Ae:∀x∈first.toList,(S.au x).1=true)(Z:∀x∈cap.toList,(S.au x).1=true):aL P S o (qC f (first.toList.map λx=>(S.au x).2) (cap.toList.map λx=>(S.au x).2)):=by
 have key:∀(l:Array Operand),(∀x∈l.toList,(S.au x).1=true)->∀φ G a w,Rel φ G S a w->∀(i:Nat)(c:AV)(v:Value),(l.toList.map λx=>(S.au x).2)[i]?=some c->(l.map a.eval)[i]?=some v->aG φ w (Fo G φ S.mem) c v:=by
  intro l J φ G a w H i c v E N;simp only[aaV,aeV,aap]at E;simp only[Array.getElem?_map,aap]at N;obtain⟨x,I,rfl⟩:=E;obtain⟨y,AY,rfl⟩:=N;rw[I]at AY;cases AY;exact H.au x (J x (by simpa using Array.mem_of_getElem? I))
 generalize Ao:(first.toList.map λx=>(S.au x).2)=fs;generalize Ap:(cap.toList.map λx=>(S.au x).2)=cs;unfold qC;split
 .rename_i f;refine aL.pure λB6 φ G a w H=>?_;have B7:first=#[]:=by cases first;simp_all
  refine⟨.func (.func f) #[] (cap.map a.eval),by simp[execOp,M,Instr.makeFunc,B7],.fn f _ _ B6 (by simp[<-Ap]) (λi c v E N=>?_)⟩;rw[<-Ap]at E;exact key cap Z φ G a w H i c v E N
 .rename_i f x r;split
  .refine aL.pure λ_ φ G a w H=>?_;have B8:cap=#[]:=by cases cap;simp_all
   refine⟨.func (.func f) (first.map a.eval) #[],by simp[execOp,M,Instr.makeFunc,B8],.uZ f _ _ (by rw[<-Ao];simp) (λi c v E N=>?_)⟩;rw[<-Ao]at E;exact key first Ae φ G a w H i c v E N
  .trivial
 .trivial
def vq(P:Program)(t:TypeId)(x:AV):dO:=
 match x.norm with
 | .d d=>.val (tk P t≠.iface/\tk P t≠.other) (.jb t d)
 |_=>.no
def FW{P:Program}{t:TypeId}(h:tk P t≠.other):∃d,P.underlying t=some d:=by
 unfold tk at h;cases hu:P.underlying t with
 |none=>simp[hu]at h
 |some d=>exact⟨d,rfl⟩
def MK(P:Program)(S:St)(o:Oper)(t:TypeId)(x:Operand)(M:o.op=.makeInterface t x)(I:(S.au x).1=true):aL P S o (vq P t (S.au x).2):=by
 unfold vq;split
 .rename_i d O;refine aL.pure ?_;rintro ⟨E,N⟩ φ G a w H;have AM:=(H.au x I).norm;rw[O]at AM;obtain⟨Aq,hu⟩:=FW N;refine⟨.iface t (a.eval x),?_,?_⟩
  .have Aa:∀ms,Aq≠.interface ms:=by rintro ms rfl;simp[tk,hu]at E
   simp only[execOp,M,Instr.makeInterface,Sem.run_bind,run_underlying hu,Result.andThen_ok];cases Aq<;>first|rfl|exact absurd rfl (Aa _)
  .cases AM with|d _ _ h=>exact .jb t d _ h
 .trivial
def qa(P:Program)(m:Mem)(t:TypeId)(x:AV):dO:=
 match x with
 | .d (.str s)=>.val (tk P t=.str) (.d (.int .i64 s.length))
 | .d (.list xs)=>match tk P t with
  | .slice _=>.val True (.d (.int .i64 xs.length))
  |_=>.no
 | .vec k ar _ len=>match tk P t,Mem.get m k with
  | .slice _,some ⟨_,v,_⟩=>.val (v=ar) (.d (.int .i64 len))
  |_,_=>.no
 | .lit (.slice none 0 0)=>match tk P t with
  | .slice _=>.val True (.d (.int .i64 0))
  |_=>.no
 | .nn=>match tk P t with
  | .slice _=>.val True (.d (.int .i64 0))
  |_=>.no
 |_=>match tk P t with
  | .arr n _=>.val True (.d (.int .i64 n))
  |_=>.no
def run_len_slice{P:Program}{w:World}{t ty e:TypeId}{ao len cap}(h:tk P t=.slice e):(Builtin.len_ #[t] ty #[.slice ao len cap]).run P w=.ok (.int .i64 len) w:=by
 simp[Builtin.len_,run_underlying (gR h),goInt]
def aeg(P:Program)(S:St)(o:Oper)(x:Operand)(t:TypeId)(M:o.op=.call {callee:=.builtin .len,args:=#[x],argTypes:=#[t]})(I:(S.au x).1=true):aL P S o (qa P S.mem t (S.au x).2):=by
 have AK:∀(a:Act)(w:World)(v:Value),(Builtin.len_ #[t] o.type #[a.eval x]).run P w=.ok v w->(execOp a.eval o).run P w=.ok (.value v) w:=by
  intro a w v h;simp[execOp,M,resolve,invoke,builtin,h]
 unfold qa;split
 .rename_i s O;refine aL.pure λAD φ G a w H=>?_;have E:=H.au x I;rw[O]at E;obtain⟨b,A4,rfl⟩:=we E;have AU:b.size=b.data.toList.length:=by rw[aa5];rfl
  refine⟨.int .i64 b.data.toList.length,AK a w _ ?_,.d _ _ (.int _ _)⟩;simp only[Builtin.len_,A4,aeE,List.getElem?_cons_zero,Sem.run_bind,run_underlying (pJ AD),Result.andThen_ok,Sem.run_pure,goInt,<-AU]
 .rename_i xs O;split
  .rename_i e U;refine aL.pure λ_ φ G a w H=>?_;have E:=H.au x I;rw[O]at E;generalize A':a.eval x=av at E;cases E with|d _ _ h=>
   have J:∃ao cap,av=.slice ao xs.length cap:=by cases h<;>exact⟨_,_,rfl⟩
   obtain⟨ao,cap,rfl⟩:=J;exact⟨_,AK a w _ (by rw[A'];exact run_len_slice U),.d _ _ (.int _ _)⟩
  .trivial
 .rename_i k ar off len O;split
  .rename_i e key v cont U A8;refine aL.pure ?_;rintro rfl φ G a w H;have E:=H.au x I;rw[O]at E;obtain⟨hm,AW,L,A2,A1,AG⟩:=H.mem.get A8;simp only at A1;generalize A':a.eval x=av at E;cases E with
   |vec _ _ _ _ _ L' AC _ AH _=>
    rw[A2]at AC;cases AC;obtain⟨ao,cap,rfl,Aj,AX⟩:=AH A1.symm;exact⟨_,AK a w _ (by rw[A'];exact run_len_slice U),.d _ _ (.int _ _)⟩
  .trivial
 .rename_i O;split
  .rename_i e U;refine aL.pure λ_ φ G a w H=>?_;have E:=H.au x I;rw[O]at E;generalize A':a.eval x=av at E;cases E;exact⟨_,AK a w _ (by rw[A'];exact run_len_slice U),.d _ _ (.int _ _)⟩
  .trivial
 .rename_i O;split
  .rename_i e U;refine aL.pure λ_ φ G a w H=>?_;have E:=H.au x I;rw[O]at E;generalize A':a.eval x=av at E;cases E;exact⟨_,AK a w _ (by rw[A'];exact run_len_slice U),.d _ _ (.int _ _)⟩
  .trivial
 .split
  .rename_i n e U;refine aL.pure λ_ φ G a w H=>?_;refine⟨.int .i64 n,AK a w _ ?_,.d _ _ (.int _ _)⟩;simp[Builtin.len_,run_underlying (wg U),goInt]
  .trivial
def oR(isMax:Bool):AV->List AV->Option D
 | .d (.int k a),[]=>some (.int k a)
 | .d (.int k a),y::r=>match y with
  | .d (.int _ b)=>oR isMax (.d (.int k (if isMax then (if b>a then b else a)else (if b<a then b else a)))) r
  |_=>none
 |_,_=>none
def Jm(isMax:Bool)(xs:List AV):dO:=
 match xs with
 |x::r=>match oR isMax x r with
  |some d=>.val True (.d d)
  |none=>.no
 |[]=>.no
def Qi{P:Program}{φ w F}(isMax:Bool):∀(xs:List AV)(x:AV)(vs:List Value)(v:Value)(d:D),oR isMax x xs=some d->aG φ w F x v->xs.length=vs.length->
 (∀(i:Nat) c u,xs[i]?=some c->vs[i]?=some u->aG φ w F c u)->
 ∃u,(vs.foldlM (if isMax then Builtin.max2 else Builtin.min2) v).run P w=.ok u w/\aP w F d u:=by
 intro xs;induction xs with
 |nil=>
  intro x vs v d h I J Z;have:vs=[]:=aaB (by simpa using J.symm);subst this;unfold oR at h;split at h<;>simp_all;subst h;rw[lg I];exact .int _ _
 |cons y AO ih=>
  intro x vs v d h I J Z;cases vs with
  |nil=>simp at J
  |cons u us=>
   unfold oR at h;split at h
   .simp_all
   .rename_i k a BC r heq;simp at heq;obtain⟨rfl,rfl⟩:=heq;split at h
    .rename_i B9 b;have A4:=lg I;have AP:=lg (Z 0 (.d (.int B9 b)) u (by simp) (by simp));subst A4;subst AP;have AS:∀(i:Nat) c u,AO[i]?=some c->us[i]?=some u->aG φ w F c u:=λi c u E N=>Z (i+1) c u (by simpa using E) (by simpa using N);cases isMax
     .obtain⟨Ad,E,N⟩:=ih _ us (.int k (if b<a then b else a)) d h (.d _ _ (.int _ _)) (by simpa using J) AS;refine⟨Ad,?_,N⟩;simp only[aeC,abc]at E⊢;simp only[List.foldlM_cons,Builtin.min2,pure_bind];exact E
     .obtain⟨Ad,E,N⟩:=ih _ us (.int k (if b>a then b else a)) d h (.d _ _ (.int _ _)) (by simpa using J) AS;refine⟨Ad,?_,N⟩;simp only[ad1]at E⊢;simp only[List.foldlM_cons,Builtin.max2,pure_bind];exact E
    .cases h
   .cases h
def U7(P:Program)(S:St)(o:Oper)(isMax:Bool)(args:Array Operand)(ts:Array TypeId)(M:o.op=.call {callee:=.builtin (if isMax then .max else .min),args,argTypes:=ts})(I:∀x∈args.toList,(S.au x).1=true):aL P S o (Jm isMax (args.toList.map λx=>(S.au x).2)):=by
 unfold Jm;split
 .rename_i x r heq;split
  .rename_i d AB;refine aL.pure λ_ φ G a w H=>?_;obtain⟨l,J⟩:∃l,args.toList=l:=⟨_,rfl⟩;rw[J]at heq I;cases l with
   |nil=>simp at heq
   |cons y AO=>
    simp at heq;obtain⟨rfl,rfl⟩:=heq;obtain⟨u,E,N⟩:=Qi (P:=P) (φ:=φ) (w:=w) (F:=Fo G φ S.mem) isMax _ _ (AO.map a.eval) (a.eval y) d AB (H.au y (I y (by simp))) (by simp) (λi c u E N=>by
     simp only[aaV,aap]at E N;obtain⟨p,AF,rfl⟩:=E;obtain⟨q,Ar,rfl⟩:=N;rw[AF]at Ar;cases Ar;exact H.au p (I p (by simp[aaz AF])))
    refine⟨u,?_,.d _ _ N⟩;have BD:(args.map a.eval).toList=a.eval y::AO.map a.eval:=by simp[J]
    cases isMax
    .simp only[aeC,abc]at E M;simp[execOp,M,resolve,invoke,builtin,Builtin.min_,J,E]
    .simp only[ad1]at E M;simp[execOp,M,resolve,invoke,builtin,Builtin.max_,J,E]
  .trivial
 .trivial
def Ke(off:Nat):∀(l:List Value)(k:Nat)(cs:Array Value),off+k+l.length<=cs.size->
 ((l.zipIdx k).foldl (λcs x=>cs.setIfInBounds (off+x.2) x.1) cs).toList=cs.toList.take (off+k)++l++cs.toList.drop (off+k+l.length)
 |[],k,cs,_=>by simp
 |v::l,k,cs,h=>by
  simp only[List.zipIdx_cons,ajp,aao]at h⊢;rw[Ke off l (k+1) _ (by simp;omega),Array.toList_setIfInBounds];have:=list_seg_step cs.toList (off+k) v l (by simp;omega);rw[show off+(k+1)=off+k+1 by omega,show off+k+(l.length+1)=off+k+1+l.length by omega];simpa [aao,aaX,Nat.add_comm 1]using this
def ML(cs v:Array Value)(off:Nat)(h:off+v.size<=cs.size):
 (v.zipIdx.foldl (λcs (x:Value×Nat)=>cs.setIfInBounds (off+x.2) x.1) cs).toList=bL cs.toList off v.toList:=by
 rw[<-Array.foldl_toList,Array.toList_zipIdx,Ke off v.toList 0 cs (by simpa using h),dR _ _ _ (by simpa using h)];simp
def tD(place:Nat->Option (Nat×Nat)):List (Nat×AV)->Bool->List AV->Option (Bool×List AV)
 |[],c,cs=>some (c,cs)
 |(i,x)::r,c,cs=>match place i with
  |some (off,n)=>tD place r (c/\x.mU=true/\x.cells.length=n/\off+n<=cs.length) (bL cs off x.cells)
  |none=>none
def CJ{φ w F}(place:Nat->Option (Nat×Nat)):∀(ps:List (Nat×AV))(V c:Bool)(cs O:List AV)(vs:List (Nat×Value))(H:Array Value),
 tD place ps V cs=some (c,O)->c=true->cs.length=H.size->(∀v∈H,cR v=true)->(∀(i:Nat) x v,cs[i]?=some x->H[i]?=some v->aG φ w F x v)->
 ps.length=vs.length->(∀(i:Nat) p v,ps[i]?=some p->vs[i]?=some v->p.1=v.1/\aG φ w F p.2 v.2)->
 ∃E,Instr.fill place H vs=some E/\V=true/\O.length=E.size/\(∀v∈E,cR v=true)/\∀(i:Nat) x v,O[i]?=some x->E[i]?=some v->aG φ w F x v
 |[],V,c,cs,O,vs,H,h,N,J,I,M,Z,A0=>by
  have:vs=[]:=aaB (by simpa using Z.symm);subst this;simp only[tD,aaT,abn]at h;obtain⟨rfl,rfl⟩:=h;exact⟨H,rfl,N,J,I,M⟩
 |(i,x)::ps,V,c,cs,O,vs,H,h,N,J,I,M,Z,A0=>by
  cases vs with
  |nil=>simp at Z
  |cons v vs=>
   obtain⟨j,v⟩:=v;obtain⟨AF,A1⟩:=A0 0 (i,x) (j,v) (by simp) (by simp);simp only at AF A1;subst AF;simp only[tD]at h;split at h
   .rename_i off n AR
    --AG condition of AG rest holds AG condition of this part
    obtain⟨q,A4⟩:∃q:Bool,q=decide (V=true/\x.mU=true/\x.cells.length=n/\off+n<=cs.length):=⟨_,rfl⟩;have AS:c=true->q=true:=by
     rw[<-A4]at h;clear A4;revert h
     generalize bL cs off x.cells=AT;clear A0 Z M I J A1 N;induction ps generalizing q AT with
     |nil=>intro h;simp only[tD,aaT,abn]at h;obtain⟨rfl,_⟩:=h;exact id
     |cons p ps ih=>
      intro h AH;simp only[tD]at h;split at h
      .exact (aa6 (ih _ _ h AH)).1
      .cases h
    have A2:=AS N;rw[A4]at A2;replace A2:=aa6 A2;obtain⟨AU,AW,Ae,hle⟩:=A2;obtain⟨AI,AJ⟩:=A1.mU AW;have AK:off+v.cells.size<=H.size:=by omega
    have A3:=ML H v.cells off AK;obtain⟨A5,AL⟩:∃A5,A5=v.cells.zipIdx.foldl (λcs (x:Value×Nat)=>cs.setIfInBounds (off+x.2) x.1) H:=⟨_,rfl⟩;rw[<-AL]at A3;have AM:off+v.cells.toList.length<=H.toList.length:=by simpa using AK
    obtain⟨E,A',AH,AX,AY,AZ⟩:=CJ (φ:=φ) (w:=w) (F:=F) place ps _ c _ O vs A5 h N
     (by rw[cm _ _ _ (by omega),<-aa5,A3,cm _ _ _ AM];simpa using J)
     (λu hu=>by
      rw[<-Array.mem_toList_iff,A3]at hu;rcases ml AM hu with hu|hu
      .exact I u (by simpa using hu)
      .exact AJ u (by simpa using hu))
     (λi y u A_ hu=>by
      rw[<-aeV,A3]at hu;exact vZ (R:=λx v=>aG φ w F x v) (by simpa using J) (by simpa using AI.symm) (by omega) (λi c v h D=>M i c v h (by simpa using D)) (λi c v h D=>A1.cells AJ AI i c v h (by simpa using D)) i y u A_ hu)
     (by simpa using Z) (λi p v h D=>A0 (i+1) p v (by simpa using h) (by simpa using D))
    refine⟨E,?_,AU,AX,AY,AZ⟩;simp only[Instr.fill,AR];rw[aaf (by simp;omega)];rw[<-A',AL]
   .cases h
def bG(P:Program)(t:TypeId):Option (List (Nat×Nat)):=
 match P.underlying t with
 |some (.struct fs)=>fs.toList.mapM λf=>(P.info? f.type).map λi=>(f.offset,i.size)
 |_=>none
def Fb{P:Program}{w:World}:∀(fs:List Field)(l:List (Nat×Nat)),(fs.mapM λf=>(P.info? f.type).map λi=>(f.offset,i.size))=some l->
 (fs.mapM λf=>(do pure (f.offset,<-sizeOf f.type):Sem (Nat×Nat))).run P w=.ok l w
 |[],l,h=>by simp at h;subst h;simp
 |f::fs,l,h=>by
  simp only[List.mapM_cons]at h⊢;cases hi:P.info? f.type with
  |none=>simp[hi]at h
  |some i=>
   simp only[hi,afS,Option.pure_def,Option.bind_eq_bind,aek]at h;cases hm:(fs.mapM λf=>(P.info? f.type).map λi=>(f.offset,i.size))with
   |none=>simp[hm]at h
   |some Aa=>
    simp[hm]at h;subst h;have A6:(sizeOf f.type).run P w=.ok i.size w:=run_sizeOf (by simp[fW,hi]);have ih:=Fb (P:=P) (w:=w) fs Aa hm;simp only[Sem.run_bind,A6,Result.andThen_ok,Sem.run_pure,ih]
def Hj(P:Program)(t:TypeId)(ps:List (Nat×AV)):dO:=
 match tA P t with
 |some zs=>match bG P t with
  |some l=>match tD (λi=>l[i]?) ps true zs with
   |some (c,cs)=>.val c (Ec cs)
   |none=>.no
  |none=>match tk P t with
   | .arr _ e=>match fW P e with
    |some sz=>match tD (λi=>some (i*sz,sz)) ps true zs with
     |some (c,cs)=>.val c (Ec cs)
     |none=>.no
    |none=>.no
   |_=>.no
 |none=>.no
def Yi(P:Program)(S:St)(o:Oper)(t:TypeId)(ps:Array (Nat×Operand))(AN:o.op=.build t ps)(Ab:∀x∈ps.toList,(S.au x.2).1=true):
 aL P S o (Hj P t (ps.toList.map λx=>(x.1,(S.au x.2).2))):=by
 have parts:∀{φ G a w},Rel φ G S a w->∀(i:Nat)(p:Nat×AV)(v:Nat×Value),(ps.toList.map λx=>(x.1,(S.au x.2).2))[i]?=some p->(ps.toList.map λx=>(x.1,a.eval x.2))[i]?=some v->p.1=v.1/\aG φ w (Fo G φ S.mem) p.2 v.2:=by
  intro φ G a w M i p v I U;simp only[aaV,aap]at I U;obtain⟨x,AO,rfl⟩:=I;obtain⟨y,AP,rfl⟩:=U;rw[AO]at AP;cases AP;exact⟨rfl,M.au _ (Ab x (aaz AO))⟩
 unfold Hj;split
 .rename_i zs AQ;split
  .rename_i l J;split
   .rename_i c cs A';refine aL.tw λN φ G a w M=>?_;obtain⟨z,A7,A8,I,A9⟩:=qy AQ w;obtain⟨E,U,_,AA,AB,AC⟩:=CJ (φ:=φ) (w:=w) (F:=Fo G φ S.mem) _ _ _ _ _ _ (ps.toList.map λx=>(x.1,a.eval x.2)) z.cells A' N A8.symm I (λi x v h D=>A9 _ _ _ i x v h D) (by simp) (parts M);unfold bG at J;split at J
    .rename_i fs hu;have hm:=Fb (P:=P) (w:=w) fs.toList l J;refine⟨.agg E,?_,?_⟩
     .have Ac:(fs.mapM λf=>(do pure (f.offset,<-sizeOf f.type):Sem (Nat×Nat))).run P w=.ok l.toArray w:=by
       rw[Array.mapM_eq_mapM_toList];simp only[Sem.run_map,hm,Result.andThen_ok]
      simp only[execOp,AN,Instr.build,Sem.run_bind,A7,Result.andThen_ok,run_underlying hu,Ac];have e:(λ(i:Nat)=>l.toArray[i]?)=λ(i:Nat)=>l[i]?:=by funext i;simp
      have AD:(Array.map (λx=>(x.1,a.eval x.2)) ps).toList=ps.toList.map λx=>(x.1,a.eval x.2):=by simp
      rw[e,AD,U];rfl
     .have:=Cu (φ:=φ) (w:=w) (F:=Fo G φ S.mem) (cs:=cs) (vs:=E.toList) (by simpa using AA) (λv AE=>AB v (by simpa using AE)) (λi c v h D=>AC i c v h (by simpa using D));simpa using this
    .cases J
   .trivial
  .split
   .rename_i n e Ad;split
    .rename_i sz A6;split
     .rename_i c cs A';refine aL.tw λN φ G a w M=>?_;obtain⟨z,A7,A8,I,A9⟩:=qy AQ w;obtain⟨E,U,_,AA,AB,AC⟩:=CJ (φ:=φ) (w:=w) (F:=Fo G φ S.mem) _ _ _ _ _ _ (ps.toList.map λx=>(x.1,a.eval x.2)) z.cells A' N A8.symm I (λi x v h D=>A9 _ _ _ i x v h D) (by simp) (parts M);refine⟨.agg E,?_,?_⟩
      .simp only[execOp,AN,Instr.build,Sem.run_bind,A7,Result.andThen_ok,run_underlying (wg Ad),run_sizeOf A6];have AD:(Array.map (λx=>(x.1,a.eval x.2)) ps).toList=ps.toList.map λx=>(x.1,a.eval x.2):=by simp
       rw[AD,U];rfl
      .have:=Cu (φ:=φ) (w:=w) (F:=Fo G φ S.mem) (cs:=cs) (vs:=E.toList) (by simpa using AA) (λv AE=>AB v (by simpa using AE)) (λi c v h D=>AC i c v h (by simpa using D));simpa using this
     .trivial
    .trivial
   .trivial
 .trivial
def FX(sz:Nat):∀(vs:List (Nat×Value))(k:Nat)(cells:Array Value),vs.map (·.1)=List.range' k vs.length->(∀v∈vs,v.2.cells.size=sz)->(k+vs.length)*sz=cells.size->
 ∃out,Instr.fill (λi=>some (i*sz,sz)) cells vs=some out/\out.toList=cells.toList.take (k*sz)++vs.flatMap (λv=>v.2.cells.toList)
 |[],k,cells,_,_,U=>by
  refine⟨cells,rfl,?_⟩;simp only[aay,aeG]at U;simp only[U,List.flatMap_nil,aee];rw[<-aa5,List.take_length]
 |(i,v)::vs,k,cells,hi,V,U=>by
  simp only[aaK,aao,ah2,List.cons.injEq]at hi;obtain⟨rfl,hi⟩:=hi;have N:=V (i,v) (by simp);simp only at N;simp only[aao]at U;have Ae:i*sz+v.cells.size<=cells.size:=by
   rw[N,<-U,<-afl];exact aaG _ (by omega)
  have I:=ML cells v.cells (i*sz) Ae;obtain⟨AT,At⟩:∃AT,AT=v.cells.zipIdx.foldl (λcs (x:Value×Nat)=>cs.setIfInBounds (i*sz+x.2) x.1) cells:=⟨_,rfl⟩;rw[<-At]at I;have Au:i*sz+v.cells.toList.length<=cells.toList.length:=by simpa using Ae
  have A7:AT.size=cells.size:=by rw[<-aa5,I,cm _ _ _ Au];simp
  obtain⟨out,Z,AU⟩:=FX sz vs (i+1) AT hi (λx M=>V x (by simp[M])) (by rw[A7,<-U];congr 1;omega);refine⟨out,?_,?_⟩
  .simp only[Instr.fill];rw[aaf (by simp;omega),<-Z,At]
  .rw[AU,I,dR _ _ _ Au];have BS:v.cells.toList.length=sz:=by simpa using N
   rw[afl,amP (by simp;omega),aeJ (by simp;omega)];simp
def Hk{φ w F}{sz:Nat}:∀(E:List D)(vs:List Value),E.length=vs.length->(∀d∈E,d.size=sz)->(∀(i:Nat) d v,E[i]?=some d->vs[i]?=some v->aG φ w F (.d d) v)->
 cM w F sz E (vs.flatMap λv=>v.cells.toList)
 |[],vs,U,_,_=>by
  have:vs=[]:=aaB (by simpa using U.symm);subst this;exact cM.nil ..
 |d::E,vs,U,V,H=>by
  cases vs with
  |nil=>simp at U
  |cons v vs=>
   have ih:=Hk (φ:=φ) (w:=w) (F:=F) E vs (by simpa using U) (λx M=>V x (by simp[M])) (λi d v h AA=>H (i+1) d v (by simpa using h) (by simpa using AA));have AB:=H 0 d v (by simp) (by simp);cases AB with|d _ _ AB=>
   have AC:=V d (by simp);have AW:v.cells.size=sz:=by rw[AB.size,AC]
   have one:cM w F sz [d] v.cells.toList:=by
    refine⟨by simp[AW],λu hu=>AB.cells.2.1 u (by simpa using hu),λx M=>by simp at M;subst M;exact AC,λi x M=>?_⟩;cases i with
    |zero=>simp at M;subst M;exact⟨v,AB,λj c AF=>by simpa using AF⟩
    |succ i=>simp at M
   simpa using one.append ih
def MM{w:World}{F F':Nat->Prop}{sz:Nat}{E:List D}{cs rest:List Value}{elem:TypeId}{fr}{O:World}{arr:Array Value}(H:cM w F sz E cs)(hh:O.heap[w.heap.size]?=some (.cells arr elem fr))(AG:arr.toList=cs++rest)
 (hm:∀x v,aP w F x v->aP O F' x v) (B2:¬F' w.heap.size) (cap:Nat) (AL:E.length<=cap):aP O F' (.list E) (.slice (some ⟨w.heap.size,0,none⟩) E.length cap):=by
 obtain⟨BT,a2,a3,a4⟩:=H;have Af:∀i,∃v,∀d,E[i]?=some d->aP w F d v/\∀(j:Nat) c,v.cells[j]?=some c->cs[i*sz+j]?=some c:=by
  intro i;cases J:E[i]? with
  |none=>exact⟨undef,λd h=>by cases h⟩
  |some d=>obtain⟨v,I,Z⟩:=a4 i d J;exact⟨v,λAv h=>by cases h;exact⟨I,Z⟩⟩
 obtain⟨vs,AW⟩:=Classical.axiomOfChoice Af;refine .list E w.heap.size 0 cap sz vs AL ?_ B2 a3 (λi d J=>hm _ _ (AW i d J).1) (λi j c hi AF=>?_)
 .exact (aei.1 hh).1
 .obtain⟨I,Z⟩:=AW i E[i] (by simp[hi]);have AU:=Z j c AF;rw[J7 hh,<-aeV,AG,aeF,aaC (aai.1 AU).1];exact AU
def MN{φ:cj}{G:Fr}{m:Mem}{w O:World}(hold:∀b,b<w.heap.size->O.heap[b]?=w.heap[b]?)(V:w.heap.size<=O.heap.size)(x v)(M:aP w (Fo G φ m) x v):aP O (Fo G φ m) x v:=
 M.mono (λb A1 _=>hold b A1) V (λ_ _ h=>h)
def uc:List (Nat×AV)->Option (List D)
 |[]=>some []
 |(_,x)::r=>match x.norm,uc r with
  | .d d,some E=>some (d::E)
  |_,_=>none
def Hl{φ w F}:∀(ps:List (Nat×AV))(E:List D)(vs:List Value),uc ps=some E->ps.length=vs.length->(∀(i:Nat) p v,ps[i]?=some p->vs[i]?=some v->aG φ w F p.2 v)->
 E.length=vs.length/\∀(i:Nat) d v,E[i]?=some d->vs[i]?=some v->aG φ w F (.d d) v
 |[],E,vs,h,U,_=>by
  simp[uc]at h;subst h;exact⟨by simpa using U,λi d v AA=>by simp at AA⟩
 |(i,x)::ps,E,vs,h,U,H=>by
  simp only[uc]at h;split at h<;>simp at h;rename_i d B3 M AC;subst h;cases vs with
  |nil=>simp at U
  |cons v vs=>
   have ih:=Hl (φ:=φ) (w:=w) (F:=F) ps B3 vs AC (by simpa using U) (λi p v h AA=>H (i+1) p v (by simpa using h) (by simpa using AA));refine⟨by simp[ih.1],λj Av Aw h AA=>?_⟩;cases j with
   |zero=>
    simp at h AA;subst h;subst AA;have:=(H 0 (i,x) v (by simp) (by simp)).norm;simp only[M]at this;exact this
   |succ j=>exact ih.2 j Av Aw (by simpa using h) (by simpa using AA)
def iP(P:Program)(t:TypeId)(A4:Nat)(len:Nat):List (Nat×AV)->Option cL->Option dO
 |[(0,.lit (.slice none 0 0))],some ⟨_,v,_⟩=>match tk P t with
  | .slice e=>match fW P e,np P e with
   |some sz,some _=>some (.dA (sz=1/\len=1) (.vec A4 (v+1) 0 1) ⟨A4,v+1,.box [.lit (.slice none 0 0)]⟩)
   |_,_=>none
  |_=>none
 |_,_=>none
def tE(P:Program)(m:Mem)(A4:Nat)(t:TypeId)(len:Nat)(ps:List (Nat×AV)):dO:=
 match tk P t with
 | .slice e=>match fW P e,np P e,uc ps with
  |some sz,some A8,some E=>match Mem.get m A4 with
   |some ⟨_,v,_⟩=>.dA (A8.size=sz/\len*sz<=2^24/\ps.map (·.1)=List.range' 0 len/\(∀d∈E,d.size=sz)) (.vec A4 (v+1) 0 len) ⟨A4,v+1,.vec sz E⟩
   |none=>.val (A8.size=sz/\len*sz<=2^24/\ps.map (·.1)=List.range' 0 len/\(∀d∈E,d.size=sz)) (.d (.list E))
  |_,_,_=>.no
 |_=>.no
def lI(P:Program)(m:Mem)(A4:Nat)(t:TypeId)(len:Nat)(ps:List (Nat×AV)):dO:=
 match iP P t A4 len ps (Mem.get m A4)with
 |some r=>r
 |none=>tE P m A4 t len ps
def zL{P:Program}{w:World}{t e:TypeId}{sz len:Nat}{A8:D}(AX:tk P t=.slice e)(V:fW P e=some sz)(AH:np P e=some A8)(A1:len*sz<=2^24)
 {vs:List (Nat×Value)} (hi:vs.map (·.1)=List.range' 0 len) (N:∀v∈vs,v.2.cells.size=sz):
 ∃arr:Array Value,arr.toList=vs.flatMap (λv=>v.2.cells.toList)/\(Instr.buildSlice t len vs.toArray).run P w=.ok (.slice (some ⟨w.heap.size,0,none⟩) len len) (w.alloc (.cells arr e)):=by
 obtain⟨z,A2,BU,BV,_⟩:=Hd AH w;have A':vs.length=len:=by
  have:=aeH List.length hi;simpa using this
 have B4:¬(len*sz>2^24):=by omega
 by_cases AB:len*sz=0
 .obtain⟨out,I,Z⟩:=FX sz vs 0 #[] (by rw[A'];exact hi) N (by rw[A'];simp[AB]);refine⟨out,by simpa using Z,?_⟩;simp only[Instr.buildSlice,Sem.run_bind,run_underlying (gR AX),Result.andThen_ok,run_sizeOf V,AB,ad1,show Array.range 0=#[]from rfl,Array.map_empty,I,show ¬(0>2^24) by decide,abc,Sem.run_bind,Sem.run_pure,jB]
 .obtain⟨out,I,Z⟩:=FX sz vs 0 ((Array.range (len*sz)).map (z.cells[·%z.cells.size]!)) (by rw[A'];exact hi) N (by rw[A'];simp);refine⟨out,by simpa using Z,?_⟩;simp only[Instr.buildSlice,Sem.run_bind,run_underlying (gR AX),Result.andThen_ok,run_sizeOf V,B4,abc,AB,A2,Sem.run_pure,I,jB]
def LG(P:Program)(S:St)(o:Oper)(t:TypeId)(len:Nat)(ps:Array (Nat×Operand))(AY:o.op=.buildSlice t len ps)(M:∀x∈ps.toList,(S.au x.2).1=true):
 aL P S o (lI P S.mem (keyOf o) t len (ps.toList.map λx=>(x.1,(S.au x.2).2))):=by
 have parts:∀{φ G a w},Rel φ G S a w->∀(i:Nat)(p:Nat×AV)(v:Value),(ps.toList.map λx=>(x.1,(S.au x.2).2))[i]?=some p->(ps.toList.map λx=>a.eval x.2)[i]?=some v->aG φ w (Fo G φ S.mem) p.2 v:=by
  intro φ G a w H i p v I Z;simp only[aaV,aap]at I Z;obtain⟨x,Ax,rfl⟩:=I;obtain⟨y,Ay,rfl⟩:=Z;rw[Ax]at Ay;cases Ay;exact H.au _ (M x (aaz Ax))
 have main:∀{e sz A8 E},tk P t=.slice e->fW P e=some sz->np P e=some A8->uc (ps.toList.map λx=>(x.1,(S.au x.2).2))=some E->A8.size=sz->len*sz<=2^24->
  (ps.toList.map λx=>(x.1,(S.au x.2).2)).map (·.1)=List.range' 0 len->(∀d∈E,d.size=sz)->∀{φ G a w},Rel φ G S a w->
  E.length=len/\∃arr:Array Value,cM w (Fo G φ S.mem) sz E arr.toList/\(execOp a.eval o).run P w=.ok (.value (.slice (some ⟨w.heap.size,0,none⟩) len len)) (w.alloc (.cells arr e)):=by
  intro e sz A8 E AX V AH AC AZ A1 hi A7 φ G a w H;obtain⟨I,Z⟩:=Hl (φ:=φ) (w:=w) (F:=Fo G φ S.mem) _ E (ps.toList.map λx=>a.eval x.2) AC (by simp) (parts H);have AI:=Hk E _ I A7 Z;have B5:(ps.toList.map λx=>(x.1,a.eval x.2)).map (·.1)=List.range' 0 len:=by rw[<-hi];simp
  have N:∀v∈(ps.toList.map λx=>(x.1,a.eval x.2)),v.2.cells.size=sz:=by
   intro v N;simp only[aaD]at N;obtain⟨x,B6,rfl⟩:=N;obtain⟨i,Az,B7⟩:=amQ.1 B6;have hid:i<E.length:=by rw[I];simpa using Az
   have:=Z i E[i] (a.eval x.2) (by simp[hid]) (by simp[ad4 Az,B7]);cases this with|d _ _ h=>rw[h.size];exact A7 _ (aec hid)
  obtain⟨arr,Ag,A2⟩:=zL (P:=P) (w:=w) AX V AH A1 B5 N;refine⟨?_,arr,?_,?_⟩
  .have:=aeH List.length hi;simp at this;rw[I];simp;exact this
  .rw[Ag];have e:(ps.toList.map λx=>(x.1,a.eval x.2)).flatMap (λv=>v.2.cells.toList)=(ps.toList.map λx=>a.eval x.2).flatMap (λv=>v.cells.toList):=by simp[List.flatMap_map]
   rw[e];exact AI
  .have B8:(ps.map λx=>(x.1,a.eval x.2))=(ps.toList.map λx=>(x.1,a.eval x.2)).toArray:=by apply Array.ext';simp
   simp only[execOp,AY,Sem.run_bind];have Ah:(ps.map λ(i,x)=>(i,a.eval x))=(ps.toList.map λx=>(x.1,a.eval x.2)).toArray:=B8;rw[Ah,A2];rfl
 have nil:∀r,iP P t (keyOf o) len (ps.toList.map λx=>(x.1,(S.au x.2).2)) (Mem.get S.mem (keyOf o))=some r->aL P S o r:=by
  intro r A5;unfold iP at A5;split at A5
  .rename_i key v cont AO AM;split at A5
   .rename_i e A_;split at A5
    .rename_i sz A8 V AH;cases A5;refine aL.uM ?_;rintro ⟨rfl,rfl⟩ φ G a w H;have B9:ps.toList.length=1:=by have:=aeH List.length AO;simpa using this
     obtain⟨q,Ai⟩:∃q,ps.toList=[q]:=by
      match BW:ps.toList,B9 with
      |[q],_=>exact⟨q,rfl⟩
     have Aj:=parts H 0 (0,.lit (.slice none 0 0)) (a.eval q.2) (by rw[AO];rfl) (by rw[Ai];rfl);simp only at Aj;have Ak:a.eval q.2=.slice none 0 0:=by
      generalize a.eval q.2=u at Aj;cases Aj;rfl
     have BA:q.1=0:=by
      rw[Ai]at AO;simp only[aaK,amH,List.cons.injEq,abn]at AO;exact AO.1.1
     obtain⟨arr,Ag,A2⟩:=zL (P:=P) (w:=w) (len:=1) A_ V AH (by decide) (vs:=[(0,.slice none 0 0)]) rfl (by simp[Value.cells]);have AG:arr=#[.slice none 0 0]:=by apply Array.ext';rw[Ag];simp[Value.cells]
     subst AG;obtain⟨hm,AJ,L,AP,AK,_⟩:=H.mem.get AM;simp only at AJ AK;subst AJ;obtain⟨φ',Al,An,Ao,Ap⟩:=H.mem.fresh (e:=⟨keyOf o,v,cont⟩) hm AP AK w rfl rfl rfl rfl #[.slice none 0 0] e 1 1 (.box [.lit (.slice none 0 0)]) (λ_ A1=>A1) (λφ' hle BB B' AD=>by
      refine⟨⟨rfl,rfl,rfl⟩,#[.slice none 0 0],e,.new AD,rfl,by simp[cR],λn c u A6 hu=>?_⟩;cases n with
      |zero=>simp at A6 hu;subst A6;subst hu;exact .lit _ rfl
      |succ n=>simp at A6)
     refine⟨.slice (some ⟨w.heap.size,0,none⟩) 1 1,_,φ',.inl ?_,.vec _ (v+1) 0 _ _ _ Ao (aak _) (λ_=>⟨_,_,rfl,aak _,λ_=>⟨by simp,by simp⟩⟩) rfl,Al,An,Ap⟩;have Ah:(ps.map λ(i,x)=>(i,a.eval x))=#[(0,.slice none 0 0)]:=by
      apply Array.ext';simp[Ai,BA,Ak]
     simp only[execOp,AY,Sem.run_bind];rw[Ah];have BC:(Instr.buildSlice t 1 #[(0,Value.slice none 0 0)]).run P w=_:=A2;rw[BC];rfl
    .cases A5
   .cases A5
  .cases A5
 unfold lI;split
 .rename_i r A5;exact nil r A5
 rename_i A5;clear A5 nil;unfold tE;split
 .rename_i e A_;split
  .rename_i sz A8 E V AH AC;split
   .rename_i key v cont AM;refine aL.uM ?_;rintro ⟨AZ,A1,hi,A7⟩ φ G a w H;obtain⟨A',arr,AI,A2⟩:=main A_ V AH AC AZ A1 hi A7 H;obtain⟨hm,AJ,L,AP,AK,_⟩:=H.mem.get AM;simp only at AJ AK;subst AJ;obtain⟨φ',Al,An,Ao,Ap⟩:=H.mem.fresh (e:=⟨keyOf o,v,cont⟩) hm AP AK w rfl rfl rfl rfl arr e sz len (.vec sz E) (λ_ A1=>A1.2) (λφ' hle BB B' AD=>by
     refine yQ (cs:=arr.toList) (rest:=[]) (elem:=e) rfl rfl (AI.mono B') (by simp) (by simpa using Nat.le_of_eq A') (by rw[aee,AI.1,A']) (λ_=>?_);refine fS.new ?_;rw[AD,aee,amT])
    exact⟨_,_,φ',.inl A2,.vec _ (v+1) 0 _ _ _ Ao (aak _) (λ_=>⟨_,_,rfl,aak _,λ_=>⟨by simp,by simp⟩⟩) rfl,Al,An,Ap⟩
   .refine aL.anM ?_;rintro ⟨AZ,A1,hi,A7⟩ φ G a w H;obtain⟨A',arr,AI,A2⟩:=main A_ V AH AC AZ A1 hi A7 H;have hold:∀b,b<w.heap.size->(w.alloc (.cells arr e)).heap[b]?=w.heap[b]?:=λb A1=>RowKit.Below.heap_alloc w _ b A1;have AD:=heap_alloc_new w (.cells arr e);refine⟨_,_,.inl A2,.d _ _ ?_,hold,by simp,rfl,rfl,rfl⟩;have:=MM (cap:=len) AI AD (rest:=[]) (by simp) (λx v h=>MN hold (by simp) x v h) (λh=>absurd (FU H.mem _ h) (Nat.lt_irrefl _)) (Nat.le_of_eq A');rw[A']at this;exact this
  .trivial
 .trivial
def ud(s:List UInt8):List D:=s.map λb=>.int .u8 b.toNat
def byteOf:D->UInt8
 | .int _ n=>UInt8.ofNat n.toNat
 |_=>0
def D.isByte:D->Bool
 | .int .u8 _=>true
 |_=>false
def D.U8{d:D}(h:d.isByte=true):∃n,d=.int .u8 n:=by
 unfold D.isByte at h;split at h<;>simp_all
def nV(P:Program)(m:Mem)(A4:Nat)(src dst:TypeId)(x:AV):dO:=
 match tk P dst,x with
 | .int k,.d (.int _ n)=>.val (tk P src≠.other) (.d (.int k (k.wrap n)))
 | .str,.d (.int _ n)=>.val (tk P src≠.other) (.d (.str (Utf8.encode n).data.toList))
 | .str,.d (.str s)=>.val (tk P src=.str) (.d (.str s))
 | .str,x=>match tk P src with
  | .slice e=>match ja m 1 x with
   |some (c,A9)=>.val (c/\tk P e=.int .u8/\fW P e=some 1/\∀d∈A9,d.isByte=true) (.d (.str (A9.map byteOf)))
   |none=>.no
  |_=>.no
 | .slice e,.d (.str s)=>match tk P src,tk P e,Mem.get m A4 with
  | .str,.int .u8,none=>.val True (.d (.list (ud s)))
  |_,_,_=>.no
 |_,_=>.no
def Hm{P:Program}{w:World}:∀(cs:List Value)(AQ:ByteArray)(A0:List Int),cs=A0.map (Value.int .u8)->
 (forIn cs AQ (λc s=>(match c with| .int .u8 n=>pure (ForInStep.yield (s.push (UInt8.ofNat n.toNat)))|_=>(do stuck "bytesToString: byte expected";pure (ForInStep.yield s)):Sem (ForInStep ByteArray)))).run P w=.ok ⟨(AQ.data.toList++A0.map λn=>UInt8.ofNat n.toNat).toArray⟩ w
 |[],AQ,A0,h=>by
  have:A0=[]:=by simpa using h.symm
  subst this;simp
 |c::cs,AQ,A0,h=>by
  cases A0 with
  |nil=>simp at h
  |cons n A0=>
   simp at h;obtain⟨rfl,rfl⟩:=h;simp only[List.forIn_cons,Sem.run_bind,Sem.run_pure,Result.andThen_ok];rw[Hm (A0.map (Value.int .u8)) (AQ.push (UInt8.ofNat n.toNat)) A0 rfl];simp
def Qj{P:Program}{w:World}{e:TypeId}{b:ByteArray}:∃(arr:Array Value)(fr:Nat×Nat)(w':World)(cap:Nat)(rest:List Value),b.size<=cap/\(Conv.stringToBytes e b).run P w=.ok (.slice (some ⟨w.heap.size,0,none⟩) b.size cap) w'/\
 arr.toList=(b.data.toList.map λx=>Value.int .u8 x.toNat)++rest/\w'.heap[w.heap.size]?=some (.cells arr e fr)/\(∀k,k<w.heap.size->w'.heap[k]?=w.heap[k]?)/\w.heap.size<=w'.heap.size/\w'.os=w.os/\w'.tape=w.tape/\w'.output=w.output:=by
 obtain⟨cap,AL⟩:∃cap,cap=(Question.appendCap b.size 0 e).cut (w.tape w.drawn (.appendCap b.size 0 e)):=⟨_,rfl⟩;obtain⟨arr,AG⟩:∃arr:Array Value,arr=(b.data.map λx=>Value.int .u8 x.toNat)++Array.replicate (cap-b.size) (.int .u8 0):=⟨_,rfl⟩;obtain⟨O,AN⟩:∃O,O=w.drew.alloc (.cells arr e):=⟨_,rfl⟩;have AD:O.heap[w.heap.size]?=some (.cells arr e (0,0)):=by
  have:=heap_alloc_new w.drew (.cells arr e);rw[<-AN]at this;exact this
 have Ae:w.heap.size<O.heap.size:=(aei.1 AD).1;have BD:O.shape? w.heap.size=some (e,arr.size):=by simp[World.shape?,AD]
 refine⟨arr,(arr.size,arr.size+1),O.freeze ⟨w.heap.size,arr.size,none⟩ 1,cap,List.replicate (cap-b.size) (.int .u8 0),?_,?_,?_,?_,?_,?_,?_,?_,?_⟩
 .rw[AL];simp[Question.cut]
 .have Af:(choose (.appendCap b.size 0 e)).run P w=.ok cap w.drew:=by
   rw[AL];rfl
  have BE:(newRow e arr).run P w.drew=.ok ⟨w.heap.size,0,none⟩ O:=by rw[AN];rfl
  have BF:(markStringish ⟨w.heap.size,0,none⟩).run P O=.ok () (O.freeze ⟨w.heap.size,arr.size,none⟩ 1):=by
   simp only[markStringish,shape,Sem.run_bind,Sem.run,BD,Result.andThen_ok,freeze]
  simp only[Conv.stringToBytes,Sem.run_bind,Af,Result.andThen_ok,<-AG,BE,BF,Sem.run_pure]
 .rw[AG];simp
 .simp[World.freeze,ajw,AD]
 .intro k AJ;have I:(O.freeze ⟨w.heap.size,arr.size,none⟩ 1).heap[k]?=O.heap[k]?:=by
   simp only[World.freeze,Nat.one_ne_zero,abc,ajw];rw[aaf (by omega)]
  rw[I,AN];exact RowKit.Below.heap_alloc w.drew _ k AJ
 .simp[World.freeze];omega
 .simp[World.freeze,AN];rfl
 .simp[World.freeze,AN]
 .simp[World.freeze,AN];rfl
def SO(n:Int):byteOf (.int .u8 n)=UInt8.ofNat n.toNat:=rfl
def QY(P:Program)(S:St)(o:Oper)(src dst:TypeId)(x:Operand)(AY:o.op=.convert src dst x)(M:(S.au x).1=true):aL P S o (nV P S.mem (keyOf o) src dst (S.au x).2):=by
 have A2:∀(a:Act)(w w':World)(v:Value),(convert src dst (a.eval x)).run P w=.ok v w'->(execOp a.eval o).run P w=.ok (.value v) w':=by
  intro a w w' v h;simp[execOp,AY,h]
 unfold nV;split
 .rename_i k BX n J A3;refine aL.pure λA6 φ G a w H=>?_;have I:=H.au x M;rw[A3]at I;obtain⟨BG,hu⟩:=FW A6;refine⟨.int k (k.wrap n),A2 a w w _ ?_,.d _ _ (.int _ _)⟩;rw[lg I];simp[convert,run_underlying hu,run_underlying (zK J),Conv.intToInt]
 .rename_i k n J A3;refine aL.pure λA6 φ G a w H=>?_;have I:=H.au x M;rw[A3]at I;obtain⟨BG,hu⟩:=FW A6;refine⟨.string (Utf8.encode n),A2 a w w _ ?_,.d _ _ (.str _ _ rfl)⟩;rw[lg I];simp[convert,run_underlying hu,run_underlying (pJ J),Conv.intToString]
 .rename_i s J A3;refine aL.pure λA6 φ G a w H=>?_;have I:=H.au x M;rw[A3]at I;obtain⟨b,Aq,rfl⟩:=we I;refine⟨.string b,A2 a w w _ ?_,.d _ _ (.str _ _ rfl)⟩;rw[Aq];simp[convert,run_underlying (pJ A6),run_underlying (pJ J)]
 .rename_i J _ _;split
  .rename_i e Aa;split
   .rename_i c A9 AE;refine aL.pure ?_;rintro ⟨A6,Ab,BY,AR⟩ φ G a w H;replace AR:=λd J=>D.U8 (AR d J);have A3:=H.au x M;obtain⟨BH,Ar⟩:=Mp (P:=P) H.mem A3 AE A6 (λd J=>by obtain⟨n,rfl⟩:=AR d J;rfl);have A':=Ar.len w;have AS:=Ar.first w (λ_ _=>rfl);obtain⟨BI,BZ,B_,BJ⟩:=Ar.aq
    --Ba cells as numbers
    have Ac:∃A0:List Int,BH=A0.map (Value.int .u8)/\A9=A0.map (D.int .u8):=by
     refine⟨A9.map λd=>(match d with| .int _ n=>n|_=>0),?_,?_⟩
     .apply List.ext_getElem?;intro i;by_cases hi:i<A9.length
      .obtain⟨v,N,BK⟩:=BJ i A9[i] (by simp[hi]);obtain⟨n,Ad⟩:=AR A9[i] (aec hi);rw[Ad]at N;cases N;have:=BK 0 (.int .u8 n) rfl;simp only[ai9,aeG]at this;rw[this];simp[hi,Ad]
      .rw[afL (by rw[BI];omega),afL (by simp;omega)]
     .apply List.ext_getElem?;intro i;by_cases hi:i<A9.length
      .obtain⟨n,Ad⟩:=AR A9[i] (aec hi);simp[hi,Ad]
      .rw[afL (by omega),afL (by simp;omega)]
    obtain⟨A0,rfl,rfl⟩:=Ac;generalize Ak:a.eval x=As at A' AS A3;have N:(∃ao m cap,As=.slice ao m cap)\/(∃b,As=.string b):=by
     cases As<;>first|exact .inl ⟨_,_,_,rfl⟩|exact .inr ⟨_,rfl⟩|(simp[Builtin.lenOf,stuck]at A')
    refine⟨.string ⟨(A0.map λn=>UInt8.ofNat n.toNat).toArray⟩,A2 a w w _ ?_,.d _ _ (.str _ _ ?_)⟩
    .rw[Ak];rcases N with ⟨ao,m,cap,rfl⟩|⟨b,rfl⟩
     .simp only[Builtin.lenOf,Sem.run_pure,Result.ok.injEq,and_true]at A';subst A';cases ao with
      |none=>
       have BL:A0=[]:=by
        simp only[Builtin.firstCells,Sem.run_pure,Result.ok.injEq,and_true]at AS;have:=aeH Array.size AS;simp at this;exact aaB this.symm
       subst BL;simp[convert,run_underlying (gR Aa),run_underlying (pJ J),run_underlying (zK Ab),Conv.bytesToString];rfl
      |some Bb=>
       simp only[Builtin.firstCells,ai9]at AS;have A1:=Hm (P:=P) (w:=w) (A0.map (Value.int .u8)) ByteArray.empty A0 rfl;simp only[convert,run_underlying (gR Aa),run_underlying (pJ J),run_underlying (zK Ab),Sem.run_bind,Result.andThen_ok,Conv.bytesToString,AS];rw[<-Array.forIn_toList];simp only[Sem.run_pure];refine Eq.trans (aeH (λr=>Result.andThen r λa w'=>Result.ok (Value.string a) w') A1) ?_;rfl
     .exfalso;have Ac:∀s,(S.au x).2=.d (.str s)->False:=by assumption
      generalize (S.au x).2=y at AE A3 Ac;unfold ja at AE;split at AE
      .cases A3 with|d _ _ h=>cases h
      .exact Ac _ rfl
      .cases A3
      .cases A3
      .split at AE
       .rename_i key Aw Bc aq AM;simp only[aaT,abn]at AE;obtain⟨rfl,_⟩:=AE;obtain⟨_,_,L,AP,AK,_⟩:=H.mem.get AM;cases A3 with
        |vec _ _ _ _ _ L' B0 _ h _=>
         rw[AP]at B0;cases B0;obtain⟨_,_,Z,_⟩:=h (by rw[<-(aa6 A6).1];exact AK.symm);cases Z
       .cases AE
      .cases AE
    .simp[SO,Function.comp_def]
   .trivial
  .trivial
 .rename_i e s J A3;split
  .rename_i Aa Ab AM;intro _ φ G a w H;have I:=H.au x M;rw[A3]at I;obtain⟨b,Aq,rfl⟩:=we I;have BM:b.size=b.data.toList.length:=by rw[aa5];rfl
   obtain⟨arr,fr,w',cap,rest,AL,BN,AG,hh,hold,A7,BO,BP,BQ⟩:=Qj (P:=P) (w:=w) (e:=e) (b:=b);have AI:cM w (Fo G φ S.mem) 1 (ud b.data.toList) (b.data.toList.map λx=>Value.int .u8 x.toNat):=by
    refine⟨by simp[ud],?_,?_,?_⟩
    .intro v N;simp only[aaD]at N;obtain⟨y,_,rfl⟩:=N;rfl
    .intro d J;simp only[ud,aaD]at J;obtain⟨y,_,rfl⟩:=J;rfl
    .intro i d J;simp only[ud,aaV,aap]at J;obtain⟨y,BR,rfl⟩:=J;refine⟨.int .u8 y.toNat,.int _ _,λj c AF=>?_⟩;cases j with
     |zero=>simp only[Value.cells]at AF;simp at AF;subst AF;simp only[aaV,ai9,aeG,BR];rfl
     |succ j=>simp[Value.cells]at AF
   have U:=MM (cap:=cap) AI hh AG (λx v h=>MN hold A7 x v h) (λh=>absurd (FU H.mem _ h) (Nat.lt_irrefl _)) (by simp[ud];exact AL);refine⟨_,w',.inl (A2 a w w' _ ?_),.d _ _ U,hold,A7,BO,BP,BQ⟩;have A':(ud b.data.toList).length=b.size:=by rw[BM];simp[ud]
   rw[Aq,A'];simp only[convert,run_underlying (pJ Aa),run_underlying (gR J),run_underlying (zK Ab),Sem.run_bind,Result.andThen_ok];exact BN
  .trivial
 .trivial
end Go.Am
end

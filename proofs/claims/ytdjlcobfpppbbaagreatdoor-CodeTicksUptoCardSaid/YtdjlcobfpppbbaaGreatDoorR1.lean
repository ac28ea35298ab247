/-
  Texts of one proof, one behind the other.
-/
import Derived.SizedLaws
import Derived.Handed
import Derived.Shelf.Vars
import Derived.WalkKit
import Derived.Laws.Rows
import Derived.Laws.CopyRow
import Derived.Laws.StructEq
set_option linter.all false
section
namespace Go.Am
open Go
inductive D where
 |int (k:IntKind) (n:Int)
 |bool (b:Bool)
 |str (s:List UInt8)
 |list (xs:List D)
 |agg (cs:List D)
 |Bv
def D.size:D→Nat
 | .agg cs=>cs.length
 |_=>1
def D.flat:D→Bool
 | .agg _=>false
 |_=>true
def cx:Value→Bool
 | .agg _=>false
 | .tuple _=>false
 |_=>true
theorem dS{v:Value}(h:cx v=true):v.cells=#[v]:=by cases v<;>simp_all [cx,Value.cells]
inductive aK(w:World)(F:Nat→Prop):D→Value→Prop
 |int (k n):aK w F (.int k n) (.int k n)
 |bool (b):aK w F (.bool b) (.bool b)
 |Bv (v:Value) (h:v=.nilIface∨∃t p,v=.iface t p):aK w F .Bv v
 |str (b:ByteArray) (s:List UInt8) (h:b.data.toList=s):aK w F (.str s) (.string b)
 |agg (cs:List D) (a:Array Value) (hl:cs.length=a.size)
  (hf:∀d∈cs,d.flat=true) (hc:∀(i:Nat)(d:D)(v:Value),cs[i]?=some d→a[i]?=some v→aK w F d v):aK w F (.agg cs) (.agg a)
 |nil (a:Option Addr) (cap:Nat) (hn:a=none→cap=0):aK w F (.list []) (.slice a 0 cap)
 |list (xs:List D) (b off cap sz:Nat) (vs:Nat→Value) (di:xs.length≤cap) (hb:b<w.heap.size) (hF:¬F b) (bV:∀d∈xs,d.size=sz)
  (hv:∀(i:Nat)(d:D),xs[i]?=some d→aK w F d (vs i))
  (hc:∀(i j:Nat)(c:Value),i<xs.length→(vs i).cells[j]?=some c→w.cell? ⟨b,off+i*sz+j,none⟩=some c):
  aK w F (.list xs) (.slice (some ⟨b,off,none⟩) xs.length cap)
theorem aK.size{w F d v}(h:aK w F d v):v.cells.size=d.size:=by
 cases h
 case Bv h=>rcases h with rfl|⟨t,p,rfl⟩<;>rfl
 all_goals simp_all [D.size,Value.cells]
theorem aK.one{w F d v}(h:aK w F d v)(hf:d.flat=true):cx v=true:=by
 cases h
 case Bv h=>rcases h with rfl|⟨t,p,rfl⟩<;>rfl
 all_goals simp_all [D.flat,Am.cx]
theorem jK{w w':World}{b o:Nat}(h:w'.heap[b]?=w.heap[b]?):w'.cell? ⟨b,o,none⟩=w.cell? ⟨b,o,none⟩:=by
 simp[World.cell?,h]
theorem aK.mono{w w':World}{F F':Nat→Prop}{d v}(h:aK w F d v)
 (hk:∀b,b<w.heap.size→¬F b→w'.heap[b]?=w.heap[b]?) (hs:w.heap.size≤w'.heap.size) (hF:∀b,b<w.heap.size→F' b→F b):aK w' F' d v:=by
 induction h with
 |int k n=>exact .int k n
 |bool b=>exact .bool b
 |Bv v h=>exact .Bv v h
 |str b s h=>exact .str b s h
 |agg cs a hl hf _ ih=>exact .agg cs a hl hf ih
 |nil a cap hn=>exact .nil a cap hn
 |list xs b off cap sz vs di hb mw bV _ hc ih=>
  exact .list xs b off cap sz vs di (by omega) (fun h=>mw (hF b hb h)) bV ih (fun i j c hi hj=>by
   rw[jK (hk b hb mw)];exact hc i j c hi hj)
def bnB:Nat:=1000000
inductive AV where
 |bf
 |d (x:D)
 |agg (cs:List AV)
 |ptr (k aj off:Nat)
 |vec (k aj off len:Nat)
 |cF (k aj i j:Nat)
 |dL (x:D) (j:Nat)
 |fn (f:FuncId) (cap:List AV)
 |aW (vs:List AV)
 |gL (t:TypeId) (x:D)
 |lit (v:Value)
 |nn
 |err
structure Loc where
 aj:Nat
 dz:Nat
 sz:Nat
 cap:Nat
 base:Nat
 cO:List (Option Nat):=[]
abbrev bQ:=Nat→Option Loc
inductive aB(φ:bQ)(w:World)(F:Nat→Prop):AV→Value→Prop
 |bf (v):aB φ w F .bf v
 |d (x v) (h:aK w F x v):aB φ w F (.d x) v
 |agg (cs:List AV) (a:Array Value) (hl:cs.length=a.size) (h1:∀v∈a,cx v=true) (hc:∀(i:Nat)(c:AV)(v:Value),cs[i]?=some c→a[i]?=some v→aB φ w F c v):aB φ w F (.agg cs) (.agg a)
 |ptr (k aj off:Nat) (v:Value) (L:Loc) (hL:φ k=some L) (hv:aj≤L.aj) (h:aj=L.aj→v=.pointer (some ⟨L.dz,off,none⟩)) (h1:cx v=true):aB φ w F (.ptr k aj off) v
 |vec (k aj off len:Nat) (v:Value) (L:Loc) (hL:φ k=some L) (hv:aj≤L.aj)
  (h:aj=L.aj→∃a cap,v=.slice a len cap∧len≤cap∧(cap>0→a=some ⟨L.dz,L.base+off*L.sz,none⟩∧off+cap≤L.cap)) (h1:cx v=true):aB φ w F (.vec k aj off len) v
 |cF (k aj i j:Nat) (v:Value) (L:Loc) (hL:φ k=some L) (hv:aj≤L.aj) (h:aj=L.aj→v=.pointer (some ⟨L.dz,L.base+i*L.sz+j,none⟩)) (h1:cx v=true):aB φ w F (.cF k aj i j) v
 |dL (x:D) (j:Nat) (b off:Nat) (x':Value) (hb:b<w.heap.size) (hF:¬F b) (hx:aK w F x x')
  (hc:∀(i:Nat)(c:Value),x'.cells[i]?=some c→w.cell? ⟨b,off+i,none⟩=some c):aB φ w F (.dL x j) (.pointer (some ⟨b,off+j,none⟩))
 |fn (f:FuncId) (cap:List AV) (a:Array Value) (hf:f<bnB) (hl:cap.length=a.size) (hc:∀(i:Nat)(c:AV)(v:Value),cap[i]?=some c→a[i]?=some v→aB φ w F c v):aB φ w F (.fn f cap) (.func (.func f) #[] a)
 |qG (f:FuncId) (cap:List AV) (a:Array Value) (hl:cap.length=a.size) (hc:∀(i:Nat)(c:AV)(v:Value),cap[i]?=some c→a[i]?=some v→aB φ w F c v):aB φ w F (.fn (f+bnB) cap) (.func (.func f) a #[])
 |aW (vs:List AV) (a:Array Value) (hl:vs.length=a.size) (hc:∀(i:Nat)(c:AV)(v:Value),vs[i]?=some c→a[i]?=some v→aB φ w F c v):aB φ w F (.aW vs) (.tuple a)
 |gL (t:TypeId) (x:D) (v:Value) (h:aK w F x v):aB φ w F (.gL t x) (.iface t v)
 |lit (v) (h1:cx v=true):aB φ w F (.lit v) v
 |nn (a:Addr) (cap:Nat):aB φ w F .nn (.slice (some a) 0 cap)
 |err (t:TypeId) (v:Value):aB φ w F .err (.iface t v)
def bQ.le(φ φ':bQ):Prop:=∀k L,φ k=some L→∃L',φ' k=some L'∧L.aj≤L'.aj∧(L'.aj=L.aj→L'={L with cO:=L'.cO})
theorem bQ.le_refl(φ:bQ):φ.le φ:=fun _ L h=>⟨L,h,Nat.le_refl _,fun _=>rfl⟩
theorem bQ.le_trans{φ φ' my:bQ}(h:φ.le φ')(h':φ'.le my):φ.le my:=by
 intro k L hL;obtain⟨L1,h1,Wq,FN⟩:=h k L hL;obtain⟨L2,h2,rG,wK⟩:=h' k L1 h1;refine⟨L2,h2,by omega,fun e=>?_⟩;have e1:L1.aj=L.aj:=by omega
 have h3:=FN e1;rw[h3]at wK;exact wK (by rw[e])
theorem aB.mono{φ φ':bQ}{w w':World}{F F':Nat→Prop}{x v}(h:aB φ w F x v)(hφ:φ.le φ')
 (hk:∀b,b<w.heap.size→¬F b→w'.heap[b]?=w.heap[b]?) (hs:w.heap.size≤w'.heap.size) (hF:∀b,b<w.heap.size→F' b→F b):aB φ' w' F' x v:=by
 induction h with
 |bf v=>exact .bf v
 |d x v h=>exact .d x v (h.mono hk hs hF)
 |agg cs a hl h1 _ ih=>exact .agg cs a hl h1 ih
 |ptr k aj off v L hL hv h h1=>
  obtain⟨L',bU,sE,he⟩:=hφ k L hL;exact .ptr k aj off v L' bU (by omega) (fun e=>by
   have e1:L'.aj=L.aj:=by omega
   have h3:=he e1;rw[h3];exact h (by rw[e,e1])) h1
 |vec k aj off len v L hL hv h h1=>
  obtain⟨L',bU,sE,he⟩:=hφ k L hL;exact .vec k aj off len v L' bU (by omega) (fun e=>by
   have e1:L'.aj=L.aj:=by omega
   have h3:=he e1;rw[h3];exact h (by rw[e,e1])) h1
 |cF k aj i j v L hL hv h h1=>
  obtain⟨L',bU,sE,he⟩:=hφ k L hL;exact .cF k aj i j v L' bU (by omega) (fun e=>by
   have e1:L'.aj=L.aj:=by omega
   have h3:=he e1;rw[h3];exact h (by rw[e,e1])) h1
 |dL x j b off x' hb mw hx hc=>
  exact .dL x j b off x' (by omega) (fun h=>mw (hF b hb h)) (hx.mono hk hs hF) (fun i c hi=>by rw[jK (hk b hb mw)];exact hc i c hi)
 |fn f cap a hf hl _ ih=>exact .fn f cap a hf hl ih
 |qG f cap a hl _ ih=>exact .qG f cap a hl ih
 |aW vs a hl _ ih=>exact .aW vs a hl ih
 |gL t x v h=>exact .gL t x v (h.mono hk hs hF)
 |lit v h1=>exact .lit v h1
 |nn a cap=>exact .nn a cap
 |err t v=>exact .err t v
inductive aE where
 |dead
 |box (cs:List AV)
 |vec (sz:Nat) (rows:List D)
 |vv (rows:List (List D)) (y:Option AV)
structure cI where
 key:Nat
 aj:Nat
 cont:aE
abbrev Mem:=List cI
def Mem.get:Mem→Nat→Option cI
 |[],_=>none
 |e::r,k=>if e.key=k then some e else Mem.get r k
def Mem.set:Mem→cI→Mem
 |[],_=>[]
 |e::r,x=>if e.key=x.key then x::r else e::Mem.set r x
theorem Mem.get_mem{m:Mem}{k e}(h:Mem.get m k=some e):e∈m∧e.key=k:=by
 induction m with
 |nil=>simp[Mem.get]at h
 |cons x r ih=>
  simp only[Mem.get]at h;split at h
  ·simp_all
  ·have:=ih h;simp_all
theorem Mem.get_of_mem{m:Mem}{e}(hn:(m.map (·.key)).Nodup)(h:e∈m):Mem.get m e.key=some e:=by
 induction m with
 |nil=>simp at h
 |cons x r ih=>
  simp only[List.map_cons,List.nodup_cons]at hn;simp only[Mem.get];rcases List.mem_cons.1 h with rfl|h
  ·simp
  ·have:x.key≠e.key:=fun he=>hn.1 (by rw[he];exact List.mem_map_of_mem h);simp[this,ih hn.2 h]
theorem Mem.gx(m:Mem)(x:cI):(Mem.set m x).map (·.key)=m.map (·.key):=by
 induction m with
 |nil=>rfl
 |cons e r ih=>
  simp only[Mem.set];split
  ·simp_all
  ·simp[ih]
theorem Mem.mem_set{m:Mem}{x e:cI}(hn:(m.map (·.key)).Nodup):e∈Mem.set m x↔(e=x∧x.key∈m.map (·.key))∨(e∈m∧e.key≠x.key):=by
 induction m with
 |nil=>simp[Mem.set]
 |cons y r ih=>
  simp only[List.map_cons,List.nodup_cons]at hn;simp only[Mem.set];split
  ·rename_i hy;constructor
   ·intro h;rcases List.mem_cons.1 h with rfl|h
    ·left;simp[hy]
    ·right;refine⟨by simp[h],fun he=>hn.1 ?_⟩;rw[hy,←he];exact List.mem_map_of_mem h
   ·rintro (⟨rfl,_⟩|⟨h,bK⟩)
    ·simp
    ·rcases List.mem_cons.1 h with rfl|h
     ·exact absurd hy bK
     ·simp[h]
  ·rename_i hy;simp only[List.mem_cons,ih hn.2,List.map_cons];constructor
   ·rintro (rfl|⟨rfl,h⟩|⟨h,bK⟩)
    ·right;exact⟨.inl rfl,hy⟩
    ·left;exact⟨rfl,.inr h⟩
    ·right;exact⟨.inr h,bK⟩
   ·rintro (⟨rfl,h⟩|⟨h,bK⟩)
    ·rcases h with h|h
     ·exact absurd h.symm hy
     ·right;left;exact⟨rfl,h⟩
    ·rcases h with rfl|h
     ·left;rfl
     ·right;right;exact⟨h,bK⟩
theorem Mem.nQ{m:Mem}{x:cI}(h:x.key∈m.map (·.key)):Mem.get (Mem.set m x) x.key=some x:=by
 induction m with
 |nil=>simp at h
 |cons y r ih=>
  simp only[Mem.set];split
  ·simp[Mem.get]
  ·rename_i hy;simp only[Mem.get,hy,if_false];exact ih (by simp only[List.map_cons,List.mem_cons]at h;rcases h with h|h;exact absurd h.symm hy;exact h)
theorem Mem.nR{m:Mem}{x:cI}{k:Nat}(h:x.key≠k):Mem.get (Mem.set m x) k=Mem.get m k:=by
 induction m with
 |nil=>rfl
 |cons y r ih=>
  simp only[Mem.set];split
  ·rename_i hy;have:y.key≠k:=by rw[hy];exact h
   simp[Mem.get,h,this]
  ·simp only[Mem.get,ih]
def aE.cP(L:Loc):aE→Nat→Prop
 | .dead,_=>False
 | .box _,b=>L.dz=b
 | .vec _ _,b=>0<L.cap∧L.dz=b
 | .vv _ _,b=>(0<L.cap∧L.dz=b)∨some b∈L.cO
def iy(φ:bQ)(m:Mem)(b:Nat):Prop:=∃e∈m,∃L,φ e.key=some L∧e.cont.cP L b
structure Fr where
 g:Nat→Prop
 dv:List Deferred
instance:CoeFun Fr (fun _=>Nat→Prop):=⟨Fr.g⟩
def Fo(G:Fr)(φ:bQ)(m:Mem)(b:Nat):Prop:=G b∨iy φ m b
def eR(w:World)(b:Nat)(arr:Array Value)(elem:TypeId):Prop:=∃fr:Nat×Nat,w.heap[b]?=some (.cells arr elem fr)∧(fr=(0,0)∨arr.size≤fr.1)
theorem eR.same{w w':World}{b:Nat}{arr:Array Value}{elem:TypeId}(h:eR w b arr elem)(hs:w'.heap[b]?=w.heap[b]?):eR w' b arr elem:=by
 obtain⟨fr,h1,h2⟩:=h;exact⟨fr,by rw[hs];exact h1,h2⟩
theorem eR.lt{w:World}{b:Nat}{arr:Array Value}{elem:TypeId}(h:eR w b arr elem):b<w.heap.size:=by
 obtain⟨fr,h1,h2⟩:=h;exact (Array.getElem?_eq_some_iff.1 h1).1
theorem eR.new{w:World}{b:Nat}{arr:Array Value}{elem:TypeId}(h:w.heap[b]?=some (.cells arr elem (0,0))):eR w b arr elem:=⟨(0,0),h,.inl rfl⟩
def xg(w:World)(F:Nat→Prop)(v:Option Value)(xs:List D)(o:Option Nat):Prop:=
 match o with
 |none=>xs=[]∧∃a,v=some (.slice a 0 0)
 |some b=>∃(row:Array Value)(re:TypeId)(off cap:Nat),v=some (.slice (some ⟨b,off,none⟩) xs.length cap)∧0<cap∧xs.length≤cap∧off+cap≤row.size∧eR w b row re∧(∀u∈row,cx u=true)∧
  ∀(i:Nat)(d:D),xs[i]?=some d→d.size=1∧∃u,aK w F d u∧∀(j:Nat)(c:Value),u.cells[j]?=some c→row[off+i*1+j]?=some c
theorem xg.mono{w w':World}{F F':Nat→Prop}{v xs o}(h:xg w F v xs o)(hd:∀d u,d∈xs→aK w F d u→aK w' F' d u)
 (fB:∀b,o=some b→w'.heap[b]?=w.heap[b]?):xg w' F' v xs o:=by
 cases o with
 |none=>exact h
 |some b=>
  obtain⟨row,re,off,cap,h1,h2,h3,h4,h5,h6,h7⟩:=h;exact⟨row,re,off,cap,h1,h2,h3,h4,h5.same (fB b rfl),h6,fun j d hj=>let ⟨g1,u,g2,g3⟩:=h7 j d hj;⟨g1,u,hd d u (List.mem_of_getElem? hj) g2,g3⟩⟩
def j8(φ:bQ)(w:World)(F:Nat→Prop)(L:Loc)(rows:List (List D))(y:Option AV):Prop:=
 (L.sz=1∧rows.length+y.toList.length≤L.cap∧L.cO.length=rows.length)∧
  (∀(i j:Nat)(b:Nat),L.cO[i]?=some (some b)→L.cO[j]?=some (some b)→i=j)∧(∀b,some b∈L.cO→0<L.cap∧b≠L.dz)∧
  (0<L.cap→∃(arr:Array Value)(elem:TypeId),eR w L.dz arr elem∧arr.size=L.base+L.cap∧(∀v∈arr,cx v=true)∧
   (∀(i:Nat)(xs:List D)(o:Option Nat),rows[i]?=some xs→L.cO[i]?=some o→xg w F arr[L.base+i]? xs o)∧
   ∀x,y=some x→∃v,arr[L.base+rows.length]?=some v∧aB φ w F x v)
theorem j8.mono{φ φ':bQ}{w w':World}{F F':Nat→Prop}{L rows y}(f:AV→AV)(h:j8 φ w F L rows y)
 (hd:∀xs∈rows,∀d∈xs,∀u,aK w F d u→aK w' F' d u) (ha:∀x,y=some x→∀v,aB φ w F x v→aB φ' w' F' (f x) v)
 (fB:∀b,((0<L.cap∧L.dz=b)∨some b∈L.cO)→w'.heap[b]?=w.heap[b]?):j8 φ' w' F' L rows (y.map f):=by
 obtain⟨h0,h1,h2,h⟩:=h;refine⟨by cases y<;>exact h0,h1,h2,fun hc=>?_⟩;obtain⟨arr,elem,g1,g2,g3,g4,g5⟩:=h hc;refine⟨arr,elem,g1.same (fB _ (.inl ⟨hc,rfl⟩)),g2,g3,fun i xs o hi ho=>(g4 i xs o hi ho).mono (fun d u hm=>hd xs (List.mem_of_getElem? hi) d hm u) (fun b e=>fB b (.inr (by subst e;exact List.mem_of_getElem? ho))),fun x hx=>?_⟩;cases y with
 |none=>cases hx
 |some z=>
  cases hx;obtain⟨v,q1,q2⟩:=g5 z rfl;exact⟨v,q1,ha z rfl v q2⟩
theorem j8.afU{φ φ':bQ}{w w':World}{F F':Nat→Prop}{L rows y}(h:j8 φ w F L rows y)
 (hd:∀xs∈rows,∀d∈xs,∀u,aK w F d u→aK w' F' d u) (ha:∀x,y=some x→∀v,aB φ w F x v→aB φ' w' F' x v)
 (fB:∀b,((0<L.cap∧L.dz=b)∨some b∈L.cO)→w'.heap[b]?=w.heap[b]?):j8 φ' w' F' L rows y:=by
 have:=h.mono id hd ha fB;cases y<;>exact this
theorem j8.aj{φ w F L rows y}(h:j8 φ w F L rows y)(v:Nat):j8 φ w F {L with aj:=v} rows y:=h
def dU(φ:bQ)(w:World)(F:Nat→Prop)(L:Loc):aE→Prop
 | .dead=>True
 | .box cs=>(L.sz=1∧L.base=0∧L.cap=cs.length)∧∃(arr:Array Value)(elem:TypeId),eR w L.dz arr elem∧arr.size=cs.length∧(∀v∈arr,cx v=true)∧
  ∀(i:Nat)(c:AV)(v:Value),cs[i]?=some c→arr[i]?=some v→aB φ w F c v
 | .vec sz rows=>L.sz=sz∧rows.length≤L.cap∧(∀d∈rows,d.size=L.sz)∧(0<L.cap→∃(arr:Array Value)(elem:TypeId),eR w L.dz arr elem∧
  arr.size=L.base+L.cap*L.sz∧(∀v∈arr,cx v=true)∧
  ∀(i:Nat)(d:D),rows[i]?=some d→∃v,aK w F d v∧∀(j:Nat)(c:Value),v.cells[j]?=some c→arr[L.base+i*L.sz+j]?=some c)
 | .vv rows y=>j8 φ w F L rows y
def aaL(φ:bQ)(w:World)(F:Nat→Prop)(e:cI):Prop:=∃L,φ e.key=some L∧L.aj=e.aj∧dU φ w F L e.cont
theorem dU.lt{φ w F L c b}(h:dU φ w F L c)(ho:c.cP L b):b<w.heap.size:=by
 cases c with
 |dead=>exact ho.elim
 |box cs=>obtain⟨_,arr,elem,h,_⟩:=h;have:L.dz=b:=ho;subst this;exact h.lt
 |vec sz rows=>obtain⟨hc,rfl⟩:=ho;obtain⟨_,_,_,h⟩:=h;obtain⟨arr,elem,h,_⟩:=h hc;exact h.lt
 |vv rows y=>
  obtain⟨⟨_,_,hl⟩,_,h3,h⟩:=h;rcases ho with ⟨hc,rfl⟩|ho
  ·obtain⟨arr,elem,h,_⟩:=h hc;exact h.lt
  ·obtain⟨i,hi⟩:=List.getElem?_of_mem ho;obtain⟨arr,elem,_,_,_,h5,_⟩:=h (h3 b ho).1;have bz:=(List.getElem?_eq_some_iff.1 hi).1;obtain⟨row,re,_,_,_,_,_,_,g,_⟩:=h5 i (rows[i]'(by omega)) (some b) (by simp[show i<rows.length by omega]) hi
   exact g.lt
theorem dU.mono{φ φ':bQ}{w w':World}{F F':Nat→Prop}{L c}(h:dU φ w F L c)(hφ:φ.le φ')
 (hk:∀b,b<w.heap.size→¬F b→w'.heap[b]?=w.heap[b]?) (hs:w.heap.size≤w'.heap.size) (hF:∀b,b<w.heap.size→F' b→F b)
 (fB:∀b,c.cP L b→w'.heap[b]?=w.heap[b]?):dU φ' w' F' L c:=by
 cases c with
 |dead=>trivial
 |box cs=>
  obtain⟨h0,arr,elem,h1,h2,h3,h4⟩:=h;exact⟨h0,arr,elem,h1.same (fB _ rfl),h2,h3,fun i c v hc hv=>(h4 i c v hc hv).mono hφ hk hs hF⟩
 |vec sz rows=>
  obtain⟨pU,h0,hz,h⟩:=h;refine⟨pU,h0,hz,fun hc=>?_⟩;obtain⟨arr,elem,h1,h2,h3,h4⟩:=h hc;exact⟨arr,elem,h1.same (fB _ ⟨hc,rfl⟩),h2,h3,fun i d hd=>let ⟨v,hv,hj⟩:=h4 i d hd;⟨v,hv.mono hk hs hF,hj⟩⟩
 |vv rows y=>exact j8.afU h (fun _ _ _ _ u hu=>hu.mono hk hs hF) (fun x _ v hx=>hx.mono hφ hk hs hF) fB
structure bm(φ:bQ)(G:Fr)(m:Mem)(w:World):Prop where
 nodup:(m.map (·.key)).Nodup
 oH:∀k L,φ k=some L→k∈m.map (·.key)
 eZ:∀e∈m,aaL φ w (Fo G φ m) e
 apart:∀e∈m,∀e'∈m,∀L L',φ e.key=some L→φ e'.key=some L'→(∃b,e.cont.cP L b∧e'.cont.cP L' b)→e.key=e'.key
 j9:∀b,iy φ m b→¬G b
 bound:∀b,G b→b<w.heap.size
theorem bm.Bw{φ G m w}(h:bm φ G m w){b}(hb:iy φ m b):b<w.heap.size:=by
 obtain⟨e,he,L,hL,ho⟩:=hb;obtain⟨L',bU,_,hc⟩:=h.eZ e he;rw[hL]at bU;cases bU;exact hc.lt ho
structure aP(φ:bQ)(m:Mem)(w:World)(φ':bQ)(m':Mem)(w':World):Prop where
 le:φ.le φ'
 xh:∀b,b<w.heap.size→¬iy φ m b→w'.heap[b]?=w.heap[b]?
 own:∀b,b<w.heap.size→iy φ' m' b→iy φ m b
 size:w.heap.size≤w'.heap.size
 os:w'.os=w.os
 tape:w'.tape=w.tape
 output:w'.output=w.output
theorem aP.refl(φ m w):aP φ m w φ m w:=⟨bQ.le_refl _,fun _ _ _=>rfl,fun _ _ h=>h,Nat.le_refl _,rfl,rfl,rfl⟩
theorem aP.trans{φ m w φ1 m1 w1 φ2 m2 w2}(h:aP φ m w φ1 m1 w1)(k:aP φ1 m1 w1 φ2 m2 w2):aP φ m w φ2 m2 w2 where
 le:=bQ.le_trans h.le k.le
 xh:=fun b hb hn=>by
  rw[k.xh b (Nat.lt_of_lt_of_le hb h.size) (fun h1=>hn (h.own b hb h1)),h.xh b hb hn]
 own:=fun b hb hn=>h.own b hb (k.own b (Nat.lt_of_lt_of_le hb h.size) hn)
 size:=Nat.le_trans h.size k.size
 os:=k.os.trans h.os
 tape:=k.tape.trans h.tape
 output:=k.output.trans h.output
theorem aP.av{φ m w φ' m' w' G}(h:aP φ m w φ' m' w'){x v}(hx:aB φ w (Fo G φ m) x v):aB φ' w' (Fo G φ' m') x v:=
 hx.mono h.le (fun b hb hn=>h.xh b hb (fun ho=>hn (.inr ho))) h.size (fun b hb=>Or.imp id (h.own b hb))
theorem bm.cZ{φ G m w w'}(h:bm φ G m w){e e':cI}(he:e∈m){L L':Loc}(hL:φ e.key=some L)(iW:e'.key=e.key)
 (aA:L.aj≤L'.aj) (NP:L'.aj=L.aj→L'={L with cO:=L'.cO})
 (hv:L'.aj=e'.aj)
 (hold:∀b,b<w.heap.size→¬e.cont.cP L b→w'.heap[b]?=w.heap[b]?) (hs:w.heap.size≤w'.heap.size)
 (mE:∀b,e'.cont.cP L' b→e.cont.cP L b∨w.heap.size≤b)
 (pV:w'.os=w.os) (afV:w'.tape=w.tape) (fh:w'.output=w.output)
 (hc:∀φ':bQ,φ'=(fun k=>if k=e.key then some L' else φ k)→φ.le φ'→dU φ' w' (Fo G φ' (Mem.set m e')) L' e'.cont):
 ∃φ',bm φ' G (Mem.set m e') w'∧aP φ m w φ' (Mem.set m e') w'∧φ' e.key=some L'∧∀k,k≠e.key→φ' k=φ k:=by
 have hle:φ.le (fun k=>if k=e.key then some L' else φ k):=by
  intro k L0 h0;by_cases hk:k=e.key
  ·subst hk;rw[hL]at h0;cases h0;exact⟨L',by simp,aA,NP⟩
  ·exact⟨L0,by simp[hk,h0],Nat.le_refl _,fun _=>rfl⟩
 have awa:e'.key∈m.map (·.key):=by rw[iW];exact List.mem_map_of_mem he
 have uq:∀x∈m,x.key≠e.key→∀Lx,φ x.key=some Lx→∀b,x.cont.cP Lx b→e.cont.cP L b→False:=
  fun x hx bK Lx ew b iz Bx=>bK (h.apart x hx e he Lx L ew hL ⟨b,iz,Bx⟩)
 have FO:∀b,b<w.heap.size→iy (fun k=>if k=e.key then some L' else φ k) (Mem.set m e') b→iy φ m b:=by
  rintro b hb ⟨x,hx,Lx,ew,iz⟩;rcases (Mem.mem_set h.nodup).1 hx with ⟨rfl,_⟩|⟨gr,bK⟩
  ·simp[iW]at ew;subst ew;rcases mE b iz with Bx|xj
   ·exact⟨e,he,L,hL,Bx⟩
   ·omega
  ·rw[iW]at bK;simp[bK]at ew;exact⟨x,gr,Lx,ew,iz⟩
 have Wr:∀b,b<w.heap.size→¬iy φ m b→w'.heap[b]?=w.heap[b]?:=fun b hb hn=>
  hold b hb fun ho=>hn ⟨e,he,L,hL,ho⟩
 refine⟨_,⟨by rw[Mem.gx];exact h.nodup,?_,?_,?_,?_,?_⟩,⟨hle,Wr,FO,hs,pV,afV,fh⟩,by simp,fun k hk=>by simp[hk]⟩
 ·intro k L0 h0;rw[Mem.gx];by_cases hk:k=e.key
  ·subst hk;exact List.mem_map_of_mem he
  ·simp[hk]at h0;exact h.oH k L0 h0
 ·intro x hx;rcases (Mem.mem_set h.nodup).1 hx with ⟨rfl,_⟩|⟨gr,bK⟩
  ·exact⟨L',by simp[iW],hv,hc _ rfl hle⟩
  ·rw[iW]at bK;obtain⟨Lx,ew,hvx,oI⟩:=h.eZ x gr;refine⟨Lx,by simp[bK,ew],hvx,oI.mono hle (fun b hb hn=>Wr b hb (fun ho=>hn (.inr ho))) hs (fun b hb=>Or.imp id (FO b hb)) (fun b iz=>?_)⟩;exact hold _ (oI.lt iz) (fun Bx=>uq x gr bK Lx ew b iz Bx)
 ·rintro x hx y hy Lx Ly ew dE ⟨b,iz,gM⟩;rcases (Mem.mem_set h.nodup).1 hx with ⟨rfl,_⟩|⟨gr,FP⟩<;>rcases (Mem.mem_set h.nodup).1 hy with ⟨rfl,_⟩|⟨zK,FQ⟩
  ·rfl
  ·rw[iW]at FQ;simp[iW]at ew;subst ew;simp[FQ]at dE;obtain⟨Ly',aaM,_,kW⟩:=h.eZ y zK;rw[dE]at aaM;cases aaM;rcases mE b iz with Bx|xj
   ·exact (uq y zK FQ Ly dE b gM Bx).elim
   ·have:=kW.lt gM;omega
  ·rw[iW]at FP;simp[iW]at dE;subst dE;simp[FP]at ew;obtain⟨Lx',NQ,_,oI⟩:=h.eZ x gr;rw[ew]at NQ;cases NQ;rcases mE b gM with Bx|xj
   ·exact (uq x gr FP Lx ew b iz Bx).elim
   ·have:=oI.lt iz;omega
  ·rw[iW]at FP FQ;simp[FP]at ew;simp[FQ]at dE;exact h.apart x gr y zK Lx Ly ew dE ⟨b,iz,gM⟩
 ·intro b hb hG;exact h.j9 b (FO b (h.bound b hG) hb) hG
 ·intro b hG;exact Nat.lt_of_lt_of_le (h.bound b hG) hs
theorem bm.grow{φ G m w w'}(h:bm φ G m w)(hold:∀b,b<w.heap.size→w'.heap[b]?=w.heap[b]?)(hs:w.heap.size≤w'.heap.size):bm φ G m w' where
 nodup:=h.nodup
 oH:=h.oH
 eZ:=fun e he=>by
  obtain⟨L,hL,hv,hc⟩:=h.eZ e he;exact⟨L,hL,hv,hc.mono (bQ.le_refl _) (fun b hb _=>hold b hb) hs (fun _ _ h=>h) (fun b ho=>hold _ (hc.lt ho))⟩
 apart:=h.apart
 j9:=h.j9
 bound:=fun b hG=>Nat.lt_of_lt_of_le (h.bound b hG) hs
theorem aP.grow{φ m w w'}(hold:∀b,b<w.heap.size→w'.heap[b]?=w.heap[b]?)(hs:w.heap.size≤w'.heap.size)(pV:w'.os=w.os)(ht:w'.tape=w.tape)(ho:w'.output=w.output):aP φ m w φ m w':=
 ⟨bQ.le_refl _,fun b hb _=>hold b hb,fun _ _ h=>h,hs,pV,ht,ho⟩
abbrev Env:=List (Nat×Bool×AV)
def Env.lk:Env→Nat→Option (Bool×AV)
 |[],_=>none
 |(t,x)::r,u=>if t=u then some x else Env.lk r u
structure St where
 n:Nat
 gl:List (Nat×D)
 env:Env
 mem:Mem
def eK(w:World)(F:Nat→Prop)(gl:List (Nat×D)):Prop:=
 ∀x∈gl,(x.1<w.heap.size∧∀cs,x.2=.agg cs→∃cur e fz,w.heap[x.1]?=some (.cells cur e fz)∧cur.size=cs.length)∧¬F x.1∧∃x',aK w F x.2 x'∧∀(i:Nat)(c:Value),x'.cells[i]?=some c→w.cell? ⟨x.1,i,none⟩=some c
theorem eK.mono{w w':World}{F F':Nat→Prop}{gl}(h:eK w F gl)(hk:∀b,b<w.heap.size→¬F b→w'.heap[b]?=w.heap[b]?)(hs:w.heap.size≤w'.heap.size)
 (hF:∀b,b<w.heap.size→F' b→F b):eK w' F' gl:=fun x hx=>by
 obtain⟨⟨h1,h0⟩,h2,x',h3,h4⟩:=h x hx;exact⟨⟨by omega,by rw[hk _ h1 h2];exact h0⟩,fun hf=>h2 (hF _ h1 hf),x',h3.mono hk hs hF,fun i c hc=>by rw[jK (hk _ h1 h2)];exact h4 i c hc⟩
theorem aP.ka{φ m w φ' m' w' G gl}(h:aP φ m w φ' m' w')(hx:eK w (Fo G φ m) gl):eK w' (Fo G φ' m') gl:=
 hx.mono (fun b hb hn=>h.xh b hb (fun ho=>hn (.inr ho))) h.size (fun b hb=>Or.imp id (h.own b hb))
structure Rel(φ:bQ)(G:Fr)(S:St)(a:Act)(w:World):Prop where
 size:a.tmps.size=S.n
 defers:a.defers=G.dv
 env:∀t x,Env.lk S.env t=some (true,x)→aB φ w (Fo G φ S.mem) x (a.tmps.getD t undef)
 mem:bm φ G S.mem w
 ka:eK w (Fo G φ S.mem) S.gl
def St.put(S:St)(d:Option Nat)(g:Bool)(x:AV):St:=
 match d with
 |some d=>{S with env:=(d,g,x)::S.env}
 |none=>S
theorem Rel.put{φ G S a w}(h:Rel φ G S a w)(d:Option Nat)(hd:∀t,d=some t→t<S.n)(g:Bool)(x:AV)(v:Value)
 (hx:g=true→aB φ w (Fo G φ S.mem) x v):Rel φ G (S.put d g x) (a.put d v) w:=by
 cases d with
 |none=>exact h
 |some d=>
  have hd:=hd d rfl;refine⟨by simp[Act.put,St.put,h.size],by simp[Act.put,h.defers],?_,h.mem,h.ka⟩;intro t y hy;simp only[St.put,Env.lk]at hy;by_cases ht:d=t
  ·subst ht;simp only[if_true,Option.some.injEq,Prod.mk.injEq]at hy;obtain⟨rfl,rfl⟩:=hy;have:d<a.tmps.size:=by rw[h.size];exact hd
   have e:(a.put (some d) v).tmps.getD d undef=v:=by simp[Act.put,this]
   rw[e];exact hx rfl
  ·simp only[ht,if_false]at hy;have e:(a.put (some d) v).tmps.getD t undef=a.tmps.getD t undef:=by simp[Act.put,ht]
   rw[e];exact h.env t y hy
theorem Rel.xk{φ G S a w φ' m' w'}(h:Rel φ G S a w)(hm:bm φ' G m' w')(hk:aP φ S.mem w φ' m' w'):Rel φ' G {S with mem:=m'} a w':=
 ⟨h.size,h.defers,fun t x hx=>hk.av (h.env t x hx),hm,hk.ka h.ka⟩
theorem nh{v:Value}(h:cx v=true):v.oneCell'=true:=by cases v<;>simp_all [cx,Value.oneCell']
inductive TK where
 |int (k:IntKind)
 |bool
 |str
 |slice (e:TypeId)
 |arr (n:Nat) (e:TypeId)
 |struct
 |iface
 |ptr (e:TypeId)
 |func
 |other
 deriving DecidableEq
def tk(P:Program)(t:TypeId):TK:=
 match P.underlying t with
 |some (.int k)=>.int k
 |some .bool=>.bool
 |some .string=>.str
 |some (.slice e)=>.slice e
 |some (.array n e)=>.arr n e
 |some (.struct _)=>.struct
 |some (.interface _)=>.iface
 |some (.pointer e)=>.ptr e
 |some (.func _ _ _)=>.func
 |_=>.other
def fi(P:Program)(t:TypeId):Option Nat:=(P.info? t).map (·.size)
def vp(P:Program)(s:TypeId)(f:Nat):Option Nat:=
 match P.underlying s with
 |some (.struct fs)=>match fs[f]? with
  |some fl=>match P.info? fl.type with
   |some i=>if i.size=0 then none else some fl.offset
   |none=>none
  |none=>none
 |_=>none
def TK.agg:TK→Bool
 | .arr _ _=>true
 | .struct=>true
 |_=>false
theorem pW{P:Program}{t:TypeId}{w:World}(h:tk P t≠.other):(isAgg t).run P w=.ok (tk P t).agg w:=by
 unfold isAgg;cases hu:P.underlying t with
 |none=>simp[tk,hu]at h
 |some d=>
  rw[Sem.run_bind,run_underlying hu];cases d<;>simp_all [tk,TK.agg]
theorem run_sizeOf{P:Program}{t:TypeId}{n:Nat}{w:World}(h:fi P t=some n):(sizeOf t).run P w=.ok n w:=by
 unfold fi at h;cases hi:P.info? t with
 |none=>simp[hi]at h
 |some i=>simp[hi]at h;simp[sizeOf,typeInfo,hi,h]
theorem fj(b o j:Nat):(⟨b,o,none⟩:Addr).add j=⟨b,o+j,none⟩:=by unfold Addr.add;split<;>simp_all
theorem sF{P:Program}{t:TypeId}{w:World}{a:Addr}{v:Value}(ha:(tk P t).agg=false)(ho:tk P t≠.other)(hc:w.cell? a=some v):
 (Instr.loadAt t (.pointer (some a))).run P w=.ok v w:=by
 simp[Instr.loadAt,Instr.sureAddr,loadVar,Sem.run_bind,pW ho,ha,load,Sem.run,hc]
theorem sG{P:Program}{t:TypeId}{w:World}{b o:Nat}{vs:List Value}(ha:(tk P t).agg=true)(hs:fi P t=some vs.length)
 (hc:∀j v,vs[j]?=some v→w.cell? ⟨b,o+j,none⟩=some v):
 (Instr.loadAt t (.pointer (some ⟨b,o,none⟩))).run P w=.ok (.agg vs.toArray) w:=by
 have ho:tk P t≠.other:=by intro h;rw[h]at ha;cases ha
 have hl:=run_loadCells_list (P:=P) w ⟨b,o,none⟩ vs (fun j v h=>by rw[fj];exact hc j v h);simp[Instr.loadAt,Instr.sureAddr,loadVar,Sem.run_bind,pW ho,ha,run_sizeOf hs,hl]
theorem jo{P:Program}(g o:Nat)(t:TypeId)(fz:Nat×Nat):∀(vs:List Value)(i:Nat)(cur:Array Value)(w:World),w.heap[g]?=some (.cells cur t fz)→(fz=(0,0)∨cur.size≤fz.1)→o+i+vs.length≤cur.size→(∀v∈vs,v.oneCell'=true)→
 (storeCells ⟨g,o,none⟩ vs i).run P w=.ok () (w.setRow g (cur.toList.take (o+i)++vs++cur.toList.drop (o+i+vs.length)).toArray)
 |[],i,cur,w,hg,_,_,_=>by
  simp only[storeCells,List.append_nil,List.length_nil,Nat.add_zero,List.take_append_drop,Array.toArray_toList];rw[setRow_self w g cur t fz hg];rfl
 |v::rest,i,cur,w,hg,By,hl,h1=>by
  have hi:o+i<cur.size:=by simp at hl;omega
  have akO:(⟨g,o,none⟩:Addr).add i=⟨g,o+i,none⟩:=by unfold Addr.add;split<;>simp_all
  have nS:w.cell? ⟨g,o+i,none⟩=some cur[o+i]:=by simp[World.cell?,hg,hi]
  have akP:w.frozen? ⟨g,o+i,none⟩=false:=by
   obtain⟨lo,lH⟩:=fz;simp only[World.frozen?,hg,Bool.and_eq_false_iff,decide_eq_false_iff_not];rcases By with h|h
   ·cases h;omega
   ·simp only at h;omega
  have de:(store ((⟨g,o,none⟩:Addr).add i) v).run P w=.ok () (w.setRow g (cur.setIfInBounds (o+i) v)):=by
   rw[akO,run_store P w _ v _ (h1 v (by simp)),nS];simp[akP,setCell_eq_setRow w g (o+i) cur t fz v hg]
  have ih:=jo (P:=P) g o t fz rest (i+1) (cur.setIfInBounds (o+i) v) (w.setRow g (cur.setIfInBounds (o+i) v)) (setRow_heap w g cur _ t _ hg) (by simpa using By) (by simp at hl⊢;omega) (fun x hx=>h1 x (by simp[hx]));simp only[storeCells,Sem.run_bind,de,Result.andThen_ok,ih,setRow_setRow];congr 3;have e:=list_seg_step cur.toList (o+i) v rest (by simp at hl⊢;omega);simpa [Array.toList_setIfInBounds,Nat.add_assoc]using e
theorem Jg{P:Program}{t:TypeId}{w:World}{b o:Nat}{arr:Array Value}{elem:TypeId}{v:Value}(hs:fi P t=some v.cells.size)
 (hg:eR w b arr elem) (hl:o+v.cells.size≤arr.size) (h1:∀x∈v.cells,cx x=true):
 (Instr.storeAt t (.pointer (some ⟨b,o,none⟩)) v).run P w=.ok () (w.setRow b (arr.toList.take o++v.cells.toList++arr.toList.drop (o+v.cells.size)).toArray):=by
 obtain⟨fz,hg,By⟩:=hg;have h:=jo (P:=P) b o elem fz v.cells.toList 0 arr w hg By (by simpa using hl) (fun x hx=>nh (h1 x (by simpa using hx)));simp only[Nat.add_zero,Array.length_toList]at h;simp[Instr.storeAt,Instr.sureAddr,storeVar,Sem.run_bind,run_sizeOf hs,h]
def D.cells:D→List D
 | .agg cs=>cs
 |x=>[x]
def D.at(xs:List D)(i:Nat):D:=xs[i]?.getD (.bool false)
def D.cell(x:D)(j:Nat):D:=x.cells[j]?.getD (.bool false)
def toD1:AV→Option D
 | .d x=>some x
 | .lit (.slice none 0 0)=>some (.list [])
 | .nn=>some (.list [])
 |_=>none
def gn:List AV→Option (List D)
 |[]=>some []
 |x::r=>match x,gn r with
  | .d y,some ys=>some (y::ys)
  |_,_=>none
def toDsN:List AV→Option (List D)
 |[]=>some []
 |x::r=>match toD1 x,toDsN r with
  |some y,some ys=>some (y::ys)
  |_,_=>none
def mkAgg(cs:List AV):AV:=match gn cs with|some ds=>.d (.agg ds)|none=>.agg cs
def AV.norm:AV→AV
 | .agg cs=>match toDsN cs with|some ds=>.d (.agg ds)|none=>.agg cs
 | .lit (.slice none 0 0)=>.d (.list [])
 | .nn=>.d (.list [])
 |x=>x
def AV.cells:AV→List AV
 | .agg cs=>cs
 | .d (.agg ds)=>ds.map .d
 |x=>[x]
theorem D.fS(x:D):x.cells.length=x.size:=by cases x<;>rfl
theorem NR{w:World}{F:Nat→Prop}{x:D}{v:Value}(hf:x.flat=true)(h:aK w F x v)(hx:x.cells=[x])(hv:v.cells=#[v]):
 v.cells.toList.length=x.cells.length∧(∀u∈v.cells,cx u=true)∧∀(i:Nat)(c:D)(u:Value),x.cells[i]?=some c→v.cells[i]?=some u→aK w F c u∧c.flat=true:=by
 rw[hx,hv];refine⟨rfl,fun u hu=>by simp at hu;subst hu;exact h.one hf,fun i c u h1 h2=>?_⟩;cases i with
 |zero=>simp at h1 h2;subst h1;subst h2;exact⟨h,hf⟩
 |succ i=>simp at h1
theorem aK.cells{w F x v}(h:aK w F x v):v.cells.toList.length=x.cells.length∧(∀u∈v.cells,cx u=true)∧∀(i:Nat)(c:D)(u:Value),x.cells[i]?=some c→v.cells[i]?=some u→aK w F c u∧c.flat=true:=by
 cases hd:x with
 |agg cs=>
  subst hd;cases h with
  |agg cs a hl hf hc=>
   refine⟨by simp[D.cells,Value.cells,hl],?_,fun i c u h1 h2=>⟨hc i c u h1 h2,hf c (List.mem_of_getElem? h1)⟩⟩;intro u hu;have hu:u∈a:=hu;obtain⟨i,hi,rfl⟩:=Array.mem_iff_getElem.1 hu;have lH:i<cs.length:=by rw[hl];exact hi
   exact (hc i cs[i] a[i] (by simp[lH]) (by simp[hi])).one (hf _ (List.getElem_mem lH))
 |_=>subst hd;exact NR rfl h rfl (dS (h.one rfl))
theorem aK.nu{w F}{cs:List D}{vs:List Value}(hl:cs.length=vs.length)(h1:∀v∈vs,cx v=true)
 (hc:∀(i:Nat) c v,cs[i]?=some c→vs[i]?=some v→aK w F c v):aK w F (.agg cs) (.agg vs.toArray):=by
 refine .agg cs vs.toArray (by simpa using hl) ?_ (fun i d v h h'=>hc i d v h (by simpa using h'));intro d hd;obtain⟨i,hi,rfl⟩:=List.mem_iff_getElem.1 hd;have lH:i<vs.length:=by omega
 have h3:=hc i cs[i] vs[i] (by simp[hi]) (by simp[lH]);have h2:=h1 vs[i] (List.getElem_mem lH);revert h3 h2
 generalize vs[i]=v;generalize cs[i]=c;intro h3 h2;cases h3<;>simp_all [D.flat,cx]
theorem At{φ w F}:∀{cs:List AV}{ds:List D}{vs:List Value},gn cs=some ds→(∀(i:Nat) c v,cs[i]?=some c→vs[i]?=some v→aB φ w F c v)→
 cs.length=ds.length∧∀(i:Nat) d v,ds[i]?=some d→vs[i]?=some v→aK w F d v
 |[],ds,vs,h,_=>by simp[gn]at h;subst h;simp
 |x::r,ds,vs,h,hc=>by
  simp only[gn]at h;split at h<;>simp at h;rename_i y ys hy;subst h;cases vs with
  |nil=>
   have ih:=At (φ:=φ) (w:=w) (F:=F) (vs:=[]) hy (fun i c v _ h2=>by simp at h2);exact⟨by simp[ih.1],fun i d v _ h2=>by simp at h2⟩
  |cons v0 vs=>
   have ih:=At (vs:=vs) hy (fun i c v h1 h2=>hc (i+1) c v (by simpa using h1) (by simpa using h2));refine⟨by simp[ih.1],fun i d v h1 h2=>?_⟩;cases i with
   |zero=>
    simp at h1 h2;subst h1;subst h2;have:=hc 0 (.d y) v0 (by simp) (by simp);cases this with|d _ _ h=>exact h
   |succ i=>exact ih.2 i d v (by simpa using h1) (by simpa using h2)
theorem FR{φ w F x d v}(h:toD1 x=some d)(hx:aB φ w F x v):aK w F d v:=by
 unfold toD1 at h;split at h<;>simp at h
 ·subst h;cases hx with|d _ _ h=>exact h
 ·subst h;cases hx;exact .nil none 0 fun _=>rfl
 ·subst h;cases hx;exact .nil _ _ (by simp)
theorem sH{φ w F}:∀{cs:List AV}{ds:List D}{vs:List Value},toDsN cs=some ds→(∀(i:Nat) c v,cs[i]?=some c→vs[i]?=some v→aB φ w F c v)→
 cs.length=ds.length∧∀(i:Nat) d v,ds[i]?=some d→vs[i]?=some v→aK w F d v
 |[],ds,vs,h,_=>by simp[toDsN]at h;subst h;simp
 |x::r,ds,vs,h,hc=>by
  simp only[toDsN]at h;split at h<;>simp at h;rename_i y ys hx hy;subst h;cases vs with
  |nil=>
   have ih:=sH (φ:=φ) (w:=w) (F:=F) (vs:=[]) hy (fun i c v _ h2=>by simp at h2);exact⟨by simp[ih.1],fun i d v _ h2=>by simp at h2⟩
  |cons v0 vs=>
   have ih:=sH (vs:=vs) hy (fun i c v h1 h2=>hc (i+1) c v (by simpa using h1) (by simpa using h2));refine⟨by simp[ih.1],fun i d v h1 h2=>?_⟩;cases i with
   |zero=>
    simp at h1 h2;subst h1;subst h2;exact FR hx (hc 0 x v0 (by simp) (by simp))
   |succ i=>exact ih.2 i d v (by simpa using h1) (by simpa using h2)
theorem xl{φ w F}{cs:List AV}{vs:List Value}(hl:cs.length=vs.length)(h1:∀v∈vs,cx v=true)
 (hc:∀(i:Nat) c v,cs[i]?=some c→vs[i]?=some v→aB φ w F c v):aB φ w F (mkAgg cs) (.agg vs.toArray):=by
 unfold mkAgg;split
 ·rename_i ds jq;have:=At jq hc;exact .d _ _ (.nu (by omega) h1 this.2)
 ·exact .agg cs vs.toArray (by simpa using hl) (fun v hv=>h1 v (by simpa using hv)) (fun i c v h h'=>hc i c v h (by simpa using h'))
theorem aB.norm{φ w F x v}(h:aB φ w F x v):aB φ w F x.norm v:=by
 unfold AV.norm;split
 ·rename_i cs;split
  ·rename_i ds jq;cases h with
   |agg _ a hl h1 hc=>
    have:=sH (vs:=a.toList) jq (fun i c v h h'=>hc i c v h (by simpa using h'));have h2:=aK.nu (w:=w) (F:=F) (cs:=ds) (vs:=a.toList) (by simp;omega) (fun v hv=>h1 v (by simpa using hv)) this.2;rw[Array.toArray_toList]at h2;exact .d _ _ h2
  ·exact h
 ·cases h;exact .d _ _ (.nil none 0 fun _=>rfl)
 ·cases h;exact .d _ _ (.nil _ _ (by simp))
 ·exact h
theorem aB.cells{φ w F x v}(h:aB φ w F x v)(h1:∀u∈v.cells,cx u=true)(hl:v.cells.size=x.cells.length):
 ∀(i:Nat) c u,x.cells[i]?=some c→v.cells[i]?=some u→aB φ w F c u:=by
 cases h with
 |agg cs a hl h1 hc=>exact fun i c u dQ hu=>hc i c u dQ hu
 |d x v h=>
  intro i c u dQ hu;have:=h.cells;cases x with
  |agg cs=>
   simp only[AV.cells,List.getElem?_map,Option.map_eq_some_iff]at dQ;obtain⟨y,hy,rfl⟩:=dQ;exact .d _ _ (this.2.2 i y u hy hu).1
  |_=>
   simp only[AV.cells]at dQ;cases i with
   |zero=>simp at dQ;subst dQ;exact .d _ _ (this.2.2 0 _ u rfl hu).1
   |succ i=>simp at dQ
 |bf v=>
  intro i c u dQ hu;cases i with
  |zero=>simp[AV.cells]at dQ;subst dQ;exact .bf _
  |succ i=>simp[AV.cells]at dQ
 |ptr k aj off v L hL hv h h2=>
  intro i c u dQ hu;rw[dS h2]at hu;cases i with
  |zero=>simp[AV.cells]at dQ hu;subst dQ;subst hu;exact .ptr k aj off v L hL hv h h2
  |succ i=>simp[AV.cells]at dQ
 |vec k aj off len v L hL hv h h2=>
  intro i c u dQ hu;rw[dS h2]at hu;cases i with
  |zero=>simp[AV.cells]at dQ hu;subst dQ;subst hu;exact .vec k aj off len v L hL hv h h2
  |succ i=>simp[AV.cells]at dQ
 |cF k aj p j v L hL hv h h2=>
  intro i c u dQ hu;rw[dS h2]at hu;cases i with
  |zero=>simp[AV.cells]at dQ hu;subst dQ;subst hu;exact .cF k aj p j v L hL hv h h2
  |succ i=>simp[AV.cells]at dQ
 |dL x j b off x' hb hF hx hc=>
  intro i c u dQ hu;cases i with
  |zero=>simp[AV.cells,Value.cells]at dQ hu;subst dQ;subst hu;exact .dL x j b off x' hb hF hx hc
  |succ i=>simp[AV.cells]at dQ
 |fn f cap a hf DQ hc=>
  intro i c u dQ hu;cases i with
  |zero=>simp[AV.cells,Value.cells]at dQ hu;subst dQ;subst hu;exact .fn f cap a hf DQ hc
  |succ i=>simp[AV.cells]at dQ
 |qG f cap a DQ hc=>
  intro i c u dQ hu;cases i with
  |zero=>simp[AV.cells,Value.cells]at dQ hu;subst dQ;subst hu;exact .qG f cap a DQ hc
  |succ i=>simp[AV.cells]at dQ
 |aW vs a hl hc=>
  have:=h1 (.tuple a) (by simp[Value.cells]);simp[cx]at this
 |gL t x v h=>
  intro i c u dQ hu;cases i with
  |zero=>simp[AV.cells,Value.cells]at dQ hu;subst dQ;subst hu;exact .gL t x v h
  |succ i=>simp[AV.cells]at dQ
 |lit v h2=>
  intro i c u dQ hu;rw[dS h2]at hu;cases i with
  |zero=>simp[AV.cells]at dQ hu;subst dQ;subst hu;exact .lit _ h2
  |succ i=>simp[AV.cells]at dQ
 |nn a cap=>
  intro i c u dQ hu;cases i with
  |zero=>simp[AV.cells,Value.cells]at dQ hu;subst dQ;subst hu;exact .nn a cap
  |succ i=>simp[AV.cells]at dQ
 |err t v=>
  intro i c u dQ hu;cases i with
  |zero=>simp[AV.cells,Value.cells]at dQ hu;subst dQ;subst hu;exact .err t v
  |succ i=>simp[AV.cells]at dQ
def constAV:Value→AV
 | .int k n=>.d (.int k n)
 | .bool b=>.d (.bool b)
 | .string s=>.d (.str s.data.toList)
 | .agg _=>.bf
 | .tuple _=>.bf
 |v=>.lit v
theorem zL(φ w F v):aB φ w F (constAV v) v:=by
 cases v<;>first|exact .d _ _ (.int _ _)|exact .d _ _ (.bool _)|exact .d _ _ (.str _ _ rfl)|exact .bf _|exact .lit _ rfl
def glk:List (Nat×D)→Nat→Option D
 |[],_=>none
 |(g,d)::r,k=>if g=k then some d else glk r k
theorem JJ:∀{l:List (Nat×D)}{g d},glk l g=some d→(g,d)∈l
 |[],g,d,h=>by simp[glk]at h
 |(g',d')::r,g,d,h=>by
  simp only[glk]at h;split at h
  ·rename_i hg;subst hg;cases h;simp
  ·have:=JJ h;simp[this]
def St.opd(S:St):Operand→Bool×AV
 | .tmp t=>(Env.lk S.env t).getD (true,.bf)
 | .const v=>(true,constAV v)
 | .global g=>match glk S.gl g with
  |some d=>(true,.dL d 0)
  |none=>(true,.lit (.pointer (some ⟨g,0,none⟩)))
 | .func f=>(decide (f<bnB),.fn f [])
theorem Rel.opd{φ G S a w}(h:Rel φ G S a w)(x:Operand)(hx:(S.opd x).1=true):aB φ w (Fo G φ S.mem) (S.opd x).2 (a.eval x):=by
 cases x with
 |tmp t=>
  simp only[St.opd]at hx⊢;cases hl:Env.lk S.env t with
  |none=>exact .bf _
  |some y=>
   obtain⟨g,x⟩:=y;rw[hl]at hx;simp only[Option.getD_some]at hx⊢;subst hx;exact h.env t x hl
 |const v=>exact zL ..
 |global g=>
  simp only[St.opd]at hx⊢;split
  ·rename_i d hd;obtain⟨⟨h1,_⟩,h2,x',h3,h4⟩:=h.ka _ (JJ hd);have e:a.eval (.global g)=.pointer (some ⟨g,0+0,none⟩):=rfl;rw[e];exact .dL d 0 g 0 x' h1 h2 h3 (fun i c hi=>by simpa using h4 i c hi)
  ·exact .lit _ rfl
 |func f=>exact .fn f [] #[] (by simpa [St.opd]using hx) rfl (by simp)
inductive dk where
 |no
 |val (c:Bool) (x:AV)
 |cZ (c:Bool) (x:AV) (e:cI)
def Bz(P:Program)(o:Oper)(a:Act)(w:World)(v:Value)(w':World):Prop:=
 (execOp a.eval o).run P w=.ok (.value v) w'∨((execOp a.eval o).run P w=.ok .skip w'∧v=undef)
def aH(P:Program)(S:St)(o:Oper):dk→Prop
 | .no=>True
 | .val c x=>c=true→∀φ G a w,Rel φ G S a w→∃v w',Bz P o a w v w'∧aB φ w' (Fo G φ S.mem) x v∧
  (∀b,b<w.heap.size→w'.heap[b]?=w.heap[b]?)∧w.heap.size≤w'.heap.size∧w'.os=w.os∧w'.tape=w.tape∧w'.output=w.output
 | .cZ c x e=>c=true→∀φ G a w,Rel φ G S a w→∃v w' φ',Bz P o a w v w'∧aB φ' w' (Fo G φ' (Mem.set S.mem e)) x v∧
  bm φ' G (Mem.set S.mem e) w'∧aP φ S.mem w φ' (Mem.set S.mem e) w'∧∀k,k≠e.key→φ' k=φ k
theorem aH.pure{P S o x}{c:Prop}[Decidable c](h:c→∀φ G a w,Rel φ G S a w→∃v,(execOp a.eval o).run P w=.ok (.value v) w∧aB φ w (Fo G φ S.mem) x v):aH P S o (.val (decide c) x):=by
 intro hc φ G a w hr;obtain⟨v,h1,h2⟩:=h (of_decide_eq_true hc) φ G a w hr;exact⟨v,w,.inl h1,h2,fun _ _=>rfl,Nat.le_refl _,rfl,rfl,rfl⟩
theorem aH.qx{P S o x e}{c:Prop}[Decidable c](h:c→∀φ G a w,Rel φ G S a w→∃v w' φ',Bz P o a w v w'∧aB φ' w' (Fo G φ' (Mem.set S.mem e)) x v∧
 bm φ' G (Mem.set S.mem e) w'∧aP φ S.mem w φ' (Mem.set S.mem e) w'∧∀k,k≠e.key→φ' k=φ k):aH P S o (.cZ (decide c) x e):=fun hc=>h (of_decide_eq_true hc)
theorem aH.akQ{P S o x}{c:Prop}[Decidable c](h:c→∀φ G a w,Rel φ G S a w→∃v w',Bz P o a w v w'∧aB φ w' (Fo G φ S.mem) x v∧
 (∀b,b<w.heap.size→w'.heap[b]?=w.heap[b]?)∧w.heap.size≤w'.heap.size∧w'.os=w.os∧w'.tape=w.tape∧w'.output=w.output):aH P S o (.val (decide c) x):=fun hc=>h (of_decide_eq_true hc)
theorem aH.pG{P S o x}{c:Bool}(h:c=true→∀φ G a w,Rel φ G S a w→∃v,(execOp a.eval o).run P w=.ok (.value v) w∧aB φ w (Fo G φ S.mem) x v):aH P S o (.val c x):=by
 intro hc φ G a w hr;obtain⟨v,h1,h2⟩:=h hc φ G a w hr;exact⟨v,w,.inl h1,h2,fun _ _=>rfl,Nat.le_refl _,rfl,rfl,rfl⟩
def ke(P:Program)(S:St)(o:Oper):dk→Prop
 | .no=>True
 | .val c x=>c=true→∀φ G a w,Rel φ G S a w→∃v,(execOp a.eval o).run P w=.ok (.value v) w∧aB φ w (Fo G φ S.mem) x v
 | .cZ _ _ _=>False
theorem ke.of{P S o x}{c:Prop}[Decidable c](h:c→∀φ G a w,Rel φ G S a w→∃v,(execOp a.eval o).run P w=.ok (.value v) w∧aB φ w (Fo G φ S.mem) x v):ke P S o (.val (decide c) x):=fun hc=>h (of_decide_eq_true hc)
theorem ke.res{P S o r}(h:ke P S o r):aH P S o r:=by
 cases r with
 |no=>trivial
 |val c x=>
  intro hc φ G a w hr;obtain⟨v,h1,h2⟩:=h hc φ G a w hr;exact⟨v,w,.inl h1,h2,fun _ _=>rfl,Nat.le_refl _,rfl,rfl,rfl⟩
 |cZ c x e=>exact h.elim
def loadR(P:Program)(m:Mem)(t:TypeId)(p:AV):dk:=
 match p with
 | .ptr k aj off=>match Mem.get m k with
  |some ⟨_,v,.box cs⟩=>match (tk P t).agg with
   |true=>match fi P t with
    |some n=>.val (v=aj∧off+n≤cs.length) (mkAgg ((cs.drop off).take n))
    |none=>.no
   |false=>.val (v=aj∧tk P t≠.other∧off<cs.length) (cs[off]?.getD .bf)
  |_=>.no
 | .cF k aj i j=>match Mem.get m k with
  |some ⟨_,v,.vec sz rows⟩=>match (tk P t).agg with
   |true=>.val (v=aj∧i<rows.length∧fi P t=some sz∧j=0∧(D.at rows i).flat=false) (.d (D.at rows i))
   |false=>.val (v=aj∧tk P t≠.other∧i<rows.length∧j<sz) (.d (D.cell (D.at rows i) j))
  |some ⟨_,v,.vv rows (some y)⟩=>match (tk P t).agg with
   |true=>.no
   |false=>.val (v=aj∧tk P t≠.other∧i=rows.length∧j=0) y
  |_=>.no
 | .dL x j=>match (tk P t).agg with
  |true=>match j with
   |0=>.val (fi P t=some x.size∧x.flat=false) (.d x)
   |j=>match fi P t with
    |some n=>.val (j+n≤x.size) (.d (.agg ((x.cells.drop j).take n)))
    |none=>.no
  |false=>.val (tk P t≠.other∧j<x.size) (.d (x.cell j))
 |_=>.no
theorem bm.get{φ G m w}(h:bm φ G m w){k e}(hg:Mem.get m k=some e):e∈m∧e.key=k∧∃L,φ k=some L∧L.aj=e.aj∧dU φ w (Fo G φ m) L e.cont:=by
 obtain⟨hm,hk⟩:=Mem.get_mem hg;obtain⟨L,h1,h2,h3⟩:=h.eZ e hm;rw[hk]at h1;exact⟨hm,hk,L,h1,h2,h3⟩
theorem aB.pX{φ w F k aj off v L}(h:aB φ w F (.ptr k aj off) v)(hL:φ k=some L)(hv:L.aj=aj):v=.pointer (some ⟨L.dz,off,none⟩):=by
 cases h with|ptr _ _ _ _ L' bU _ h _=>rw[hL]at bU;cases bU;exact h hv.symm
theorem aB.kf{φ w F k aj i j v L}(h:aB φ w F (.cF k aj i j) v)(hL:φ k=some L)(hv:L.aj=aj):v=.pointer (some ⟨L.dz,L.base+i*L.sz+j,none⟩):=by
 cases h with|cF _ _ _ _ _ L' bU _ h _=>rw[hL]at bU;cases bU;exact h hv.symm
theorem DR{w:World}{b:Nat}{arr:Array Value}{e:TypeId}{fr}(h:w.heap[b]?=some (.cells arr e fr))(o:Nat):w.cell? ⟨b,o,none⟩=arr[o]?:=by
 simp[World.cell?,h]
theorem gz{w:World}{b:Nat}{arr:Array Value}{e:TypeId}(h:eR w b arr e)(o:Nat):w.cell? ⟨b,o,none⟩=arr[o]?:=by
 obtain⟨fr,h,_⟩:=h;exact DR h o
theorem jm{xs:List D}{i:Nat}(h:i<xs.length):xs[i]?=some (D.at xs i):=by simp[D.at,h]
theorem tK{w F x v}(h:aK w F x v)(hf:x.flat=false):∃arr,v=.agg arr:=by
 cases h<;>simp_all [D.flat]
theorem JK(P:Program)(S:St)(o:Oper)(t:TypeId)(x:Operand)(ho:o.op=.load t x)(hx:(S.opd x).1=true):ke P S o (loadR P S.mem t (S.opd x).2):=by
 have bP:∀(a:Act)(w:World)(v:Value),(Instr.loadAt t (a.eval x)).run P w=.ok v w→(execOp a.eval o).run P w=.ok (.value v) w:=by
  intro a w v h;simp[execOp,ho,h]
 unfold loadR;split
 ·rename_i k aj off hp;split
  ·rename_i key v cs hg;split
   ·rename_i kg;split
    ·rename_i n hn;refine ke.of ?_;rintro ⟨rfl,hle⟩ φ G a w hr;have hv:=hr.opd x hx;rw[hp]at hv;obtain⟨hm,hk,L,hL,aA,_,arr,elem,hh,bV,h1,ep⟩:=hr.mem.get hg;have e:=hv.pX hL aA;have hlen:((arr.toList.drop off).take n).length=n:=by simp;omega
     refine⟨.agg ((arr.toList.drop off).take n).toArray,bP a w _ ?_,?_⟩
     ·rw[e];refine sG kg (by rw[hlen];exact hn) (fun j v hj=>?_);rw[gz hh];rw[List.getElem?_take]at hj;split at hj
      ·simpa using hj
      ·cases hj
     ·refine xl (by rw[hlen];simp;omega) (fun v hv=>h1 v ?_) (fun i c v hc hv=>?_)
      ·have:=List.mem_of_mem_take hv;simpa using List.mem_of_mem_drop this
      ·rw[List.getElem?_take]at hc hv;split at hc
       ·rename_i hi;simp only[hi,if_true]at hv;exact ep (off+i) c v (by simpa using hc) (by simpa using hv)
       ·cases hc
    ·trivial
   ·rename_i kg;refine ke.of ?_;rintro ⟨rfl,bK,bz⟩ φ G a w hr;have hv:=hr.opd x hx;rw[hp]at hv;obtain⟨hm,hk,L,hL,aA,_,arr,elem,hh,bV,h1,ep⟩:=hr.mem.get hg;have e:=hv.pX hL aA;have aaN:off<arr.size:=by omega
    refine⟨arr[off],bP a w _ ?_,ep off _ _ ?_ (by simp[aaN])⟩
    ·rw[e];exact sF kg bK (by rw[gz hh];simp[aaN])
    ·simp[bz]
  ·trivial
 ·rename_i k aj i j hp;split
  ·rename_i key v sz rows hg;split
   ·rename_i kg;refine ke.of ?_;rintro ⟨rfl,bz,jr,rfl,hf⟩ φ G a w hr;have hv:=hr.opd x hx;rw[hp]at hv;obtain⟨hm,hk,L,hL,aA,vq,di,lI,iX⟩:=hr.mem.get hg;have e:=hv.kf hL aA;obtain⟨arr,elem,hh,bV,h1,ep⟩:=iX (by omega);obtain⟨u,hu,DS⟩:=ep i _ (jm bz);obtain⟨ua,rfl⟩:=tK hu hf;refine⟨.agg ua,bP a w _ ?_,.d _ _ hu⟩;rw[e];have zM:ua.toList.length=sz:=by
     have h3:=hu.size;rw[lI _ (List.mem_of_getElem? (jm bz)),vq]at h3;simpa [Value.cells]using h3
    have:=sG (P:=P) (t:=t) (w:=w) (b:=L.dz) (o:=L.base+i*L.sz+0) (vs:=ua.toList) kg (by rw[zM];exact jr) (fun j v hj=>by
     rw[gz hh];exact DS j v (by simpa [Value.cells]using hj))
    simpa using this
   ·rename_i kg;refine ke.of ?_;rintro ⟨rfl,bK,bz,hj⟩ φ G a w hr;have hv:=hr.opd x hx;rw[hp]at hv;obtain⟨hm,hk,L,hL,aA,vq,di,lI,iX⟩:=hr.mem.get hg;have e:=hv.kf hL aA;obtain⟨arr,elem,hh,bV,h1,ep⟩:=iX (by omega);obtain⟨u,hu,DS⟩:=ep i _ (jm bz);have zM:(D.at rows i).size=sz:=by rw[lI _ (List.mem_of_getElem? (jm bz)),vq]
    have oJ:j<u.cells.size:=by rw[hu.size,zM];exact hj
    have hjd:j<(D.at rows i).cells.length:=by rw[D.fS,zM];exact hj
    refine⟨u.cells[j],bP a w _ ?_,.d _ _ (hu.cells.2.2 j _ _ (by simp[D.cell,hjd]) (by simp[oJ])).1⟩;rw[e];exact sF kg bK (by rw[gz hh];exact DS j _ (by simp[oJ]))
  ·rename_i key v rows y hg;split
   ·trivial
   ·rename_i kg;refine ke.of ?_;rintro ⟨rfl,bK,rfl,rfl⟩ φ G a w hr;have hv:=hr.opd x hx;rw[hp]at hv;obtain⟨hm,hk,L,hL,aA,⟨oK,di,_⟩,_,_,iX⟩:=hr.mem.get hg;have e:=hv.kf hL aA;simp only[Option.toList_some,List.length_singleton]at di;obtain⟨arr,elem,hh,bV,h1,_,ep⟩:=iX (by omega);obtain⟨u,hu,hyu⟩:=ep y rfl;refine⟨u,bP a w _ ?_,hyu⟩;rw[e];exact sF kg bK (by rw[gz hh,oK,Nat.mul_one,Nat.add_zero];exact hu)
  ·trivial
 ·rename_i d j hp;split
  ·rename_i kg;split
   ·refine ke.of ?_;rintro ⟨jr,hf⟩ φ G a w hr;have hv:=hr.opd x hx;rw[hp]at hv;generalize b7:a.eval x=av at hv;cases hv with
    |dL _ _ b off x' hb hF oL hc=>
     obtain⟨ua,rfl⟩:=tK oL hf;refine⟨.agg ua,bP a w _ ?_,.d _ _ oL⟩;rw[b7];exact sG (vs:=ua.toList) kg (by rw[jr];have:=oL.size;simp[Value.cells]at this;simp[this]) (fun j v hj=>hc j v (by simpa [Value.cells]using hj))
   ·split
    ·rename_i n hn;refine ke.of ?_;intro hle φ G a w hr;have hv:=hr.opd x hx;rw[hp]at hv;generalize b7:a.eval x=av at hv;cases hv with
     |dL _ _ b off x' hb hF oL hc=>
      have kX:=oL.cells;have hl:x'.cells.toList.length=d.size:=by rw[kX.1,D.fS]
      have hlen:((x'.cells.toList.drop j).take n).length=n:=by simp at hl⊢;omega
      refine⟨.agg ((x'.cells.toList.drop j).take n).toArray,bP a w _ ?_,.d _ _ (.nu ?_ ?_ ?_)⟩
      ·rw[b7];refine sG kg (by rw[hlen];exact hn) (fun i v hi=>?_);rw[List.getElem?_take]at hi;split at hi
       ·rw[show off+j+i=off+(j+i) by omega];exact hc (j+i) v (by simpa using hi)
       ·cases hi
      ·rw[hlen];simp[D.fS];omega
      ·intro v hv;exact kX.2.1 v (by simpa using List.mem_of_mem_drop (List.mem_of_mem_take hv))
      ·intro i c v h1 h2;rw[List.getElem?_take]at h1 h2;split at h1
       ·rename_i hi;simp only[hi,if_true]at h2;exact (kX.2.2 (j+i) c v (by simpa using h1) (by simpa using h2)).1
       ·cases h1
    ·trivial
  ·rename_i kg;refine ke.of ?_;rintro ⟨bK,hj⟩ φ G a w hr;have hv:=hr.opd x hx;rw[hp]at hv;generalize b7:a.eval x=av at hv;cases hv with
   |dL _ _ b off x' hb hF oL hc=>
    have oJ:j<x'.cells.size:=by rw[oL.size];exact hj
    have hjd:j<d.cells.length:=by rw[D.fS];exact hj
    refine⟨x'.cells[j],bP a w _ ?_,.d _ _ (oL.cells.2.2 j _ _ (by simp[D.cell,hjd]) (by simp[oJ])).1⟩;rw[b7];exact sF kg bK (hc j _ (by simp[oJ]))
 ·trivial
def AV.solid:AV→Bool
 | .bf=>false
 | .aW _=>false
 |_=>true
theorem aB.solid{φ w F x v}(h:aB φ w F x v)(hs:x.solid=true):v.cells.size=x.cells.length∧∀u∈v.cells,cx u=true:=by
 have one:∀{v:Value}{x:AV},cx v=true→x.cells.length=1→v.cells.size=x.cells.length∧∀u∈v.cells,cx u=true:=by
  intro v x h1 hl;rw[dS h1,hl];exact⟨rfl,fun u hu=>by simp at hu;subst hu;exact h1⟩
 cases h with
 |bf=>simp[AV.solid]at hs
 |aW=>simp[AV.solid]at hs
 |d x v h=>
  have hc:=h.cells;refine⟨?_,hc.2.1⟩;have:=hc.1;cases x<;>simp_all [AV.cells,D.cells]
 |agg cs a hl h1 hc=>exact⟨by simp[Value.cells,AV.cells,hl],h1⟩
 |ptr _ _ _ _ _ _ _ _ h1=>exact one h1 rfl
 |vec _ _ _ _ _ _ _ _ _ h1=>exact one h1 rfl
 |cF _ _ _ _ _ _ _ _ _ h1=>exact one h1 rfl
 |dL=>exact one rfl rfl
 |fn=>exact one rfl rfl
 |qG=>exact one rfl rfl
 |gL=>exact one rfl rfl
 |lit _ h1=>exact one h1 rfl
 |nn=>exact one rfl rfl
 |err=>exact one rfl rfl
def putCells{α:Type}(cs:List α)(off:Nat)(ys:List α):List α:=
 match ys with
 |[y]=>cs.set off y
 |ys=>cs.take off++ys++cs.drop (off+ys.length)
theorem dq{α:Type}(cs:List α)(off:Nat)(ys:List α)(h:off+ys.length≤cs.length):putCells cs off ys=cs.take off++ys++cs.drop (off+ys.length):=by
 unfold putCells;split
 ·rename_i y;simp at h;rw[List.set_eq_take_append_cons_drop,if_pos (by omega)];simp
 ·rfl
theorem bR{α:Type}(cs:List α)(off:Nat)(ys:List α)(h:off+ys.length≤cs.length):(putCells cs off ys).length=cs.length:=by
 rw[dq cs off ys h];simp;omega
theorem gA{α:Type}(cs:List α)(off:Nat)(ys:List α)(h:off+ys.length≤cs.length)(i:Nat):
 (putCells cs off ys)[i]?=if i<off then cs[i]? else if i<off+ys.length then ys[i-off]? else cs[i]?:=by
 rw[dq cs off ys h];by_cases h1:i<off
 ·rw[if_pos h1,List.append_assoc,List.getElem?_append_left (by simp;omega),List.getElem?_take,if_pos h1]
 ·rw[if_neg h1,List.append_assoc,List.getElem?_append_right (by simp;omega)];simp only[List.length_take,Nat.min_eq_left (show off≤cs.length by omega)];by_cases h2:i<off+ys.length
  ·rw[if_pos h2,List.getElem?_append_left (by omega)]
  ·rw[if_neg h2,List.getElem?_append_right (by omega),List.getElem?_drop];congr 1;omega
theorem rH{α β:Type}{R:α→β→Prop}{cs ys:List α}{vs us:List β}{off:Nat}(hl:cs.length=vs.length)(DQ:ys.length=us.length)(h:off+ys.length≤cs.length)
 (hc:∀(i:Nat) c v,cs[i]?=some c→vs[i]?=some v→R c v) (hy:∀(i:Nat) c v,ys[i]?=some c→us[i]?=some v→R c v):
 ∀(i:Nat) c v,(putCells cs off ys)[i]?=some c→(putCells vs off us)[i]?=some v→R c v:=by
 intro i c v;rw[gA cs off ys h,gA vs off us (by omega),←DQ];split
 ·exact hc i c v
 ·split
  ·exact hy _ c v
  ·exact hc i c v
theorem Au{φ G m w}(h:bm φ G m w):∀b,Fo G φ m b→b<w.heap.size:=fun b hb=>hb.elim (h.bound b) (fun ho=>h.Bw ho)
theorem m7(w:World)(g k:Nat)(cs:Array Value)(h:k≠g):(w.setRow g cs).heap[k]?=w.heap[k]?:=by
 simp only[World.setRow,Array.getElem?_modify];rw[if_neg (fun e=>h e.symm)]
theorem bm.FT{φ G m w}(h:bm φ G m w){e:cI}(he:e∈m){L:Loc}(hL:φ e.key=some L)(aA:L.aj=e.aj){b0:Nat}(ho:e.cont.cP L b0)(fZ:Array Value)
 (L':Loc) (hv:e.aj≤L'.aj) (NP:L'.aj=L.aj→L'={L with cO:=L'.cO}) (c':aE) (mE:∀b,c'.cP L' b→e.cont.cP L b)
 (hc:∀φ':bQ,φ.le φ'→(∀x v,aB φ w (Fo G φ m) x v→aB φ' (w.setRow b0 fZ) (Fo G φ' (Mem.set m ⟨e.key,L'.aj,c'⟩)) x v)→
  (∀x v,aK w (Fo G φ m) x v→aK (w.setRow b0 fZ) (Fo G φ' (Mem.set m ⟨e.key,L'.aj,c'⟩)) x v)→
  dU φ' (w.setRow b0 fZ) (Fo G φ' (Mem.set m ⟨e.key,L'.aj,c'⟩)) L' c'):
 ∃φ',bm φ' G (Mem.set m ⟨e.key,L'.aj,c'⟩) (w.setRow b0 fZ)∧aP φ m w φ' (Mem.set m ⟨e.key,L'.aj,c'⟩) (w.setRow b0 fZ)∧φ' e.key=some L'∧∀k,k≠e.key→φ' k=φ k:=by
 have fB:iy φ m b0:=⟨e,he,L,hL,ho⟩;refine h.cZ (e':=⟨e.key,L'.aj,c'⟩) he hL rfl (L':=L') (by rw[aA];exact hv) NP rfl
  (fun b hb hn=>m7 w b0 b fZ (fun heq=>hn (heq▸ho))) (by simp) (fun b hb=>.inl (mE b hb)) rfl rfl rfl ?_
 intro φ' hφ hle;have hF:∀b,b<w.heap.size→Fo G φ' (Mem.set m ⟨e.key,L'.aj,c'⟩) b→Fo G φ m b:=by
  rintro b fG (hG|⟨x,hx,Lx,ew,iz⟩)
  ·exact .inl hG
  ·right;rcases (Mem.mem_set h.nodup).1 hx with ⟨rfl,_⟩|⟨gr,bK⟩
   ·subst hφ;simp at ew;subst ew;exact⟨e,he,L,hL,mE b iz⟩
   ·subst hφ;simp at bK;simp[bK]at ew;exact⟨x,gr,Lx,ew,iz⟩
 have hk:∀b,b<w.heap.size→¬Fo G φ m b→(w.setRow b0 fZ).heap[b]?=w.heap[b]?:=
  fun b hb hn=>m7 w b0 b fZ (fun heq=>hn (.inr (heq▸fB)))
 exact hc φ' hle (fun x v hx=>hx.mono hle hk (by simp) hF) (fun x v hx=>hx.mono hk (by simp) hF)
theorem bm.store{φ G m w}(h:bm φ G m w){e:cI}(he:e∈m){L:Loc}(hL:φ e.key=some L)(aA:L.aj=e.aj){b0:Nat}(ho:e.cont.cP L b0)(fZ:Array Value)
 (tL:Nat) (hv:e.aj≤tL) (c':aE) (mE:∀b,c'.cP {L with aj:=tL} b→e.cont.cP L b)
 (hc:∀φ':bQ,φ.le φ'→(∀x v,aB φ w (Fo G φ m) x v→aB φ' (w.setRow b0 fZ) (Fo G φ' (Mem.set m ⟨e.key,tL,c'⟩)) x v)→
  (∀x v,aK w (Fo G φ m) x v→aK (w.setRow b0 fZ) (Fo G φ' (Mem.set m ⟨e.key,tL,c'⟩)) x v)→
  dU φ' (w.setRow b0 fZ) (Fo G φ' (Mem.set m ⟨e.key,tL,c'⟩)) {L with aj:=tL} c'):
 ∃φ',bm φ' G (Mem.set m ⟨e.key,tL,c'⟩) (w.setRow b0 fZ)∧aP φ m w φ' (Mem.set m ⟨e.key,tL,c'⟩) (w.setRow b0 fZ)∧φ' e.key=some {L with aj:=tL}∧∀k,k≠e.key→φ' k=φ k:=
 h.FT he hL aA ho fZ {L with aj:=tL} hv (fun hh=>by simp at hh;cases L;simp_all) c' mE hc
theorem bm.Qx{φ G m w}(h:bm φ G m w){e:cI}(he:e∈m){L:Loc}(hL:φ e.key=some L)(aA:L.aj=e.aj)(w1:World)(oM:w1.heap=w.heap)(pV:w1.os=w.os)(BA:w1.tape=w.tape)(fh:w1.output=w.output)
 (arr:Array Value) (elem:TypeId) (c':aE) (L':Loc) (hv:L'.aj=e.aj+1) (mE:∀b,c'.cP L' b→e.cont.cP L b∨w.heap.size=b)
 (hc:∀φ':bQ,φ.le φ'→(∀x v,aB φ w (Fo G φ m) x v→aB φ' (w1.alloc (.cells arr elem)) (Fo G φ' (Mem.set m ⟨e.key,e.aj+1,c'⟩)) x v)→
  (∀x v,aK w (Fo G φ m) x v→aK (w1.alloc (.cells arr elem)) (Fo G φ' (Mem.set m ⟨e.key,e.aj+1,c'⟩)) x v)→
  (w1.alloc (.cells arr elem)).heap[w.heap.size]?=some (.cells arr elem (0,0))→(∀b,b<w.heap.size→(w1.alloc (.cells arr elem)).heap[b]?=w.heap[b]?)→
  dU φ' (w1.alloc (.cells arr elem)) (Fo G φ' (Mem.set m ⟨e.key,e.aj+1,c'⟩)) L' c'):
 ∃φ',bm φ' G (Mem.set m ⟨e.key,e.aj+1,c'⟩) (w1.alloc (.cells arr elem))∧aP φ m w φ' (Mem.set m ⟨e.key,e.aj+1,c'⟩) (w1.alloc (.cells arr elem))∧
  φ' e.key=some L'∧∀k,k≠e.key→φ' k=φ k:=by
 have hold:∀b,b<w.heap.size→(w1.alloc (.cells arr elem)).heap[b]?=w.heap[b]?:=fun b hb=>by rw[RowKit.Below.heap_alloc w1 _ b (by rw[oM];exact hb),oM]
 have bV:w.heap.size≤(w1.alloc (.cells arr elem)).heap.size:=by simp[oM]
 refine h.cZ (e':=⟨e.key,e.aj+1,c'⟩) he hL rfl (L':=L') (by rw[aA,hv];simp) (fun hh=>by simp[aA,hv]at hh) hv
  (fun b hb _=>hold b hb) bV (fun b hb=>(mE b hb).imp id (fun e=>by omega)) pV BA fh ?_
 intro φ' hφ hle;have hF:∀b,b<w.heap.size→Fo G φ' (Mem.set m ⟨e.key,e.aj+1,c'⟩) b→Fo G φ m b:=by
  rintro b hb (hG|⟨x,hx,Lx,ew,iz⟩)
  ·exact .inl hG
  ·right;rcases (Mem.mem_set h.nodup).1 hx with ⟨rfl,_⟩|⟨gr,bK⟩
   ·subst hφ;simp at ew;subst ew;rcases mE b iz with h'|h'
    ·exact⟨e,he,L,hL,h'⟩
    ·omega
   ·subst hφ;simp at bK;simp[bK]at ew;exact⟨x,gr,Lx,ew,iz⟩
 refine hc φ' hle (fun x v hx=>hx.mono hle (fun b hb _=>hold b hb) bV hF) (fun x v hx=>hx.mono (fun b hb _=>hold b hb) bV hF) ?_ hold;have:=heap_alloc_new w1 (.cells arr elem);rwa [oM]at this
theorem bm.fresh{φ G m w}(h:bm φ G m w){e:cI}(he:e∈m){L:Loc}(hL:φ e.key=some L)(aA:L.aj=e.aj)(w1:World)(oM:w1.heap=w.heap)(pV:w1.os=w.os)(BA:w1.tape=w.tape)(fh:w1.output=w.output)
 (arr:Array Value) (elem:TypeId) (sz cap:Nat) (c':aE) (mE:∀b,c'.cP ⟨e.aj+1,w.heap.size,sz,cap,0,[]⟩ b→w.heap.size=b)
 (hc:∀φ':bQ,φ.le φ'→(∀x v,aB φ w (Fo G φ m) x v→aB φ' (w1.alloc (.cells arr elem)) (Fo G φ' (Mem.set m ⟨e.key,e.aj+1,c'⟩)) x v)→
  (∀x v,aK w (Fo G φ m) x v→aK (w1.alloc (.cells arr elem)) (Fo G φ' (Mem.set m ⟨e.key,e.aj+1,c'⟩)) x v)→
  (w1.alloc (.cells arr elem)).heap[w.heap.size]?=some (.cells arr elem (0,0))→
  dU φ' (w1.alloc (.cells arr elem)) (Fo G φ' (Mem.set m ⟨e.key,e.aj+1,c'⟩)) ⟨e.aj+1,w.heap.size,sz,cap,0,[]⟩ c'):
 ∃φ',bm φ' G (Mem.set m ⟨e.key,e.aj+1,c'⟩) (w1.alloc (.cells arr elem))∧aP φ m w φ' (Mem.set m ⟨e.key,e.aj+1,c'⟩) (w1.alloc (.cells arr elem))∧
  φ' e.key=some ⟨e.aj+1,w.heap.size,sz,cap,0,[]⟩∧∀k,k≠e.key→φ' k=φ k:=
 h.Qx he hL aA w1 oM pV BA fh arr elem c' _ rfl (fun b hb=>.inr (mE b hb)) (fun φ' h1 h2 h3 h4 _=>hc φ' h1 h2 h3 h4)
def D.setCells(r:D)(j:Nat)(y:D):D:=.agg (putCells r.cells j y.cells)
def storeV(P:Program)(t:TypeId)(k aj i j:Nat)(x:AV):Option cI→dk
 |some ⟨_,v,.vv rows (some _)⟩=>match x with
  | .vec a b c d=>.cZ (v=aj∧i=rows.length∧j=0∧fi P t=some 1) .bf ⟨k,aj,.vv rows (some (.vec a b c d))⟩
  |_=>.no
 |_=>.no
def storeR(P:Program)(m:Mem)(t:TypeId)(p x:AV):dk:=
 match p with
 | .ptr k aj off=>match Mem.get m k with
  |some ⟨_,v,.box cs⟩=>.cZ (v=aj∧x.solid=true∧fi P t=some x.cells.length∧off+x.cells.length≤cs.length) .bf ⟨k,aj,.box (putCells cs off x.cells)⟩
  |_=>.no
 | .cF k aj i j=>match Mem.get m k,x.norm with
  |some ⟨_,v,.vec sz rows⟩,.d y=>match tk P t with
   | .struct=>.cZ (v=aj∧i<rows.length∧fi P t=some sz∧y.size=sz∧j=0) .bf ⟨k,aj,.vec sz (rows.set i y)⟩
   |_=>match sz with
    |1=>.cZ (v=aj∧i<rows.length∧fi P t=some 1∧y.size=1∧j=0) .bf ⟨k,aj,.vec 1 (rows.set i y)⟩
    |sz=>.cZ (v=aj∧i<rows.length∧fi P t=some y.size∧j+y.size≤sz∧(D.at rows i).flat=false) .bf ⟨k,aj,.vec sz (rows.set i ((D.at rows i).setCells j y))⟩
  |e,_=>storeV P t k aj i j x e
 |_=>.no
theorem Fe{w w':World}{F F':Nat→Prop}{arr:Array Value}{rows:List D}{base sz cap i o:Nat}{us:List Value}{r':D}{v':Value}(hs:arr.size=base+cap*sz)(di:rows.length≤cap)(hi:i<rows.length)
 (ho:base+i*sz≤o) (hou:o+us.length≤base+i*sz+sz)
 (ep:∀(n:Nat)(d:D),rows[n]?=some d→∃v,aK w F d v∧∀(j:Nat)(c:Value),v.cells[j]?=some c→arr[base+n*sz+j]?=some c)
 (NS:∀d∈rows,d.size=sz)
 (hm:∀x v,aK w F x v→aK w' F' x v) (b9:aK w' F' r' v') (lI:r'.size=sz)
 (sE:∀(j:Nat)(c:Value),v'.cells[j]?=some c→(putCells arr.toList o us)[base+i*sz+j]?=some c):
 ∀(n:Nat)(d:D),(rows.set i r')[n]?=some d→∃v,aK w' F' d v∧∀(j:Nat)(c:Value),v.cells[j]?=some c→(putCells arr.toList o us).toArray[base+n*sz+j]?=some c:=by
 have cD:base+i*sz+sz≤arr.size:=by
  have:i*sz+sz≤cap*sz:=by rw[←Nat.succ_mul];exact Nat.mul_le_mul_right _ (by omega)
  omega
 intro n d hd;by_cases hn:n=i
 ·subst hn;simp[hi]at hd;subst hd;exact⟨v',b9,fun j c hj=>by simpa using sE j c hj⟩
 ·rw[List.getElem?_set_ne (fun h=>hn h.symm)]at hd;obtain⟨v,hv,oN⟩:=ep n d hd;refine⟨v,hm d v hv,fun j c hj=>?_⟩;have DT:j<sz:=by
   have h1:=hv.size;rw[NS d (List.mem_of_getElem? hd)]at h1;have:=(Array.getElem?_eq_some_iff.1 hj).1;omega
  rw[List.getElem?_toArray,gA arr.toList o us (by simp;omega)];have key:¬(o≤base+n*sz+j∧base+n*sz+j<o+us.length):=by
   rintro ⟨h1,h2⟩;rcases Nat.lt_or_gt_of_ne hn with bz|FU
   ·have:n*sz+sz≤i*sz:=by rw[←Nat.succ_mul];exact Nat.mul_le_mul_right _ bz
    omega
   ·have:i*sz+sz≤n*sz:=by rw[←Nat.succ_mul];exact Nat.mul_le_mul_right _ FU
    omega
  have hh:=oN j c hj;split
  ·simpa using hh
  ·rw[if_neg (by omega)];simpa using hh
theorem rI{P:Program}{t:TypeId}{w:World}{b o:Nat}{arr:Array Value}{elem:TypeId}{v:Value}(hs:fi P t=some v.cells.size)
 (hg:eR w b arr elem) (hl:o+v.cells.size≤arr.size) (h1:∀x∈v.cells,cx x=true):
 (Instr.storeAt t (.pointer (some ⟨b,o,none⟩)) v).run P w=.ok () (w.setRow b (putCells arr.toList o v.cells.toList).toArray):=by
 rw[Jg hs hg hl h1,dq _ _ _ (by simpa using hl)];simp
theorem Jh{w:World}{b:Nat}{arr:Array Value}{elem:TypeId}{fr}(hg:w.heap[b]?=some (.cells arr elem fr))(fZ:Array Value):(w.setRow b fZ).heap[b]?=some (.cells fZ elem fr):=setRow_heap w b arr fZ elem fr hg
theorem eR.setRow{w:World}{b:Nat}{arr:Array Value}{elem:TypeId}(hg:eR w b arr elem)(fZ:Array Value)(hs:fZ.size=arr.size):eR (w.setRow b fZ) b fZ elem:=by
 obtain⟨fr,h1,h2⟩:=hg;exact⟨fr,Jh h1 fZ,by rw[hs];exact h2⟩
theorem kh{α:Type}{cs ys:List α}{off:Nat}{x:α}(h:off+ys.length≤cs.length)(hx:x∈putCells cs off ys):x∈cs∨x∈ys:=by
 rw[dq cs off ys h]at hx;simp only[List.mem_append]at hx;rcases hx with (hx|hx)|hx
 ·exact .inl (List.mem_of_mem_take hx)
 ·exact .inr hx
 ·exact .inl (List.mem_of_mem_drop hx)
theorem Qy(P:Program)(S:St)(o:Oper)(t:TypeId)(p x:Operand)(ho:o.op=.store t p x)(hp:(S.opd p).1=true)(hx:(S.opd x).1=true){k aj i j:Nat}(zN:(S.opd p).2=.cF k aj i j):
 aH P S o (storeV P t k aj i j (S.opd x).2 (Mem.get S.mem k)):=by
 unfold storeV;split
 ·rename_i key v rows y hg;split
  ·rename_i a b c d bL;refine aH.qx ?_;rintro ⟨rfl,rfl,rfl,jr⟩ φ G aa w hr;have hk:key=k:=(Mem.get_mem hg).2;subst hk;have hv:=hr.opd p hp;have hu:=hr.opd x hx;rw[zN]at hv;rw[bL]at hu;obtain⟨hm,_,L,hL,aA,cd⟩:=hr.mem.get hg;obtain⟨⟨oK,di,hl⟩,akR,bK,iX⟩:=cd;have e:=hv.kf hL aA;simp only[Option.toList_some,List.length_singleton]at di;have vr:0<L.cap:=by omega
   obtain⟨arr,elem,hh,bV,h1,eQ,_⟩:=iX vr;generalize bZ:aa.eval x=u at hu;have JL:cx u=true:=by cases hu;assumption
   have DS:u.cells=#[u]:=dS JL;have iN:L.base+rows.length+[u].length≤arr.toList.length:=by simp;omega
   obtain⟨φ',dx,aN,fe,eA⟩:=hr.mem.store (e:=⟨key,v,.vv rows (some y)⟩) hm hL aA (b0:=L.dz) (.inl ⟨vr,rfl⟩) (putCells arr.toList (L.base+rows.length) [u]).toArray v (Nat.le_refl _) (.vv rows (some (.vec a b c d))) (fun _ hb=>hb) (fun φ' ll b7 iY=>by
    refine⟨⟨oK,by simpa using di,hl⟩,akR,bK,fun _=>⟨_,elem,hh.setRow _ (by rw[List.size_toArray,bR _ _ _ iN];simp),?_,?_,?_,?_⟩⟩
    ·rw[List.size_toArray,bR _ _ _ iN];simpa using bV
    ·intro z hz;rcases kh iN (by simpa using hz)with hz|hz
     ·exact h1 z (by simpa using hz)
     ·simp at hz;subst hz;exact JL
    ·intro n xs q hn hq;have xn:=(List.getElem?_eq_some_iff.1 hn).1;have:=eQ n xs q hn hq;rw[show (putCells arr.toList (L.base+rows.length) [u]).toArray[L.base+n]?=arr[L.base+n]? by
      rw[List.getElem?_toArray,gA _ _ _ iN,if_pos (by omega)];simp]
     refine this.mono (fun d u _ hd=>iY d u hd) (fun b hb=>?_);subst hb;exact m7 w L.dz b _ (fun heq=>(bK b (List.mem_of_getElem? hq)).2 heq)
    ·intro z hz;cases hz;refine⟨u,?_,b7 _ _ hu⟩;show (putCells arr.toList (L.base+rows.length) [u]).toArray[L.base+rows.length]?=some u;rw[List.getElem?_toArray,gA _ _ _ iN,if_neg (by omega),if_pos (by simp)];simp)
   refine⟨undef,_,φ',?_,.bf _,dx,aN,eA⟩;have de:=rI (P:=P) (t:=t) (w:=w) (b:=L.dz) (o:=L.base+rows.length) (v:=u) (by rw[DS];exact jr) hh (by rw[DS];simpa using iN) (by rw[DS];simpa using JL);rw[DS]at de;refine .inr ⟨?_,rfl⟩;rw[oK,Nat.mul_one,Nat.add_zero]at e;simp[execOp,ho,e,bZ,de]
  ·trivial
 ·trivial
theorem T9(P:Program)(S:St)(o:Oper)(t:TypeId)(p x:Operand)(ho:o.op=.store t p x)(hp:(S.opd p).1=true)(hx:(S.opd x).1=true):aH P S o (storeR P S.mem t (S.opd p).2 (S.opd x).2):=by
 have bP:∀(a:Act)(w w':World),(Instr.storeAt t (a.eval p) (a.eval x)).run P w=.ok () w'→Bz P o a w undef w':=by
  intro a w w' h;exact .inr ⟨by simp[execOp,ho,h],rfl⟩
 unfold storeR;split
 ·rename_i k aj off zN;split
  ·rename_i key v cs hg;refine aH.qx ?_;rintro ⟨rfl,Ua,jr,hle⟩ φ G a w hr;have hv:=hr.opd p hp;have bL:=hr.opd x hx;rw[zN]at hv;obtain⟨hm,hk,L,hL,aA,rJ,arr,elem,hh,bV,h1,ep⟩:=hr.mem.get hg;have e:=hv.pX hL aA;obtain⟨pY,qH⟩:=bL.solid Ua;simp only at hk;subst hk;have iN:off+(a.eval x).cells.toList.length≤arr.toList.length:=by simp only[Array.length_toList,pY,bV];exact hle
   obtain⟨φ',dx,aN,fe,eA⟩:=hr.mem.store (e:=⟨key,v,.box cs⟩) hm hL aA rfl (putCells arr.toList off (a.eval x).cells.toList).toArray v (Nat.le_refl _) (.box (putCells cs off (S.opd x).2.cells)) (fun _ hb=>hb) (fun φ' ll b7 iY=>by
    refine⟨⟨rJ.1,rJ.2.1,by rw[bR _ _ _ hle];exact rJ.2.2⟩,_,elem,hh.setRow _ (by show (putCells arr.toList _ _).length=_;rw[bR _ _ _ iN];simp),?_,?_,?_⟩
    ·rw[bR _ _ _ hle,←bV];show (putCells arr.toList off _).length=_;rw[bR _ _ _ iN];simp
    ·intro u hu;rcases kh iN (by simpa using hu)with hu|hu
     ·exact h1 u (by simpa using hu)
     ·exact qH u (by simpa using hu)
    ·intro i c u hc hu;refine b7 c u ?_;exact rH (vs:=arr.toList) (us:=(a.eval x).cells.toList) (by simp[bV]) (by simpa using pY.symm) hle (fun i c v h h'=>ep i c v h (by simpa using h'))
      (fun i c v h h'=>bL.cells qH pY i c v h (by simpa using h')) i c u hc (by simpa using hu))
   refine⟨undef,_,φ',bP a w _ ?_,.bf _,dx,aN,eA⟩;rw[e];exact rI (by rw[pY];exact jr) hh (by omega) qH
  ·trivial
 ·rename_i k aj i j zN;have vec:∀(c:Prop)[Decidable c](sz:Nat)(rows:List D)(y r':D)(v:Nat),Mem.get S.mem k=some ⟨k,v,.vec sz rows⟩→(S.opd x).2.norm=.d y→
   (c→v=aj∧i<rows.length∧fi P t=some y.size∧j+y.size≤sz∧((D.at rows i).size=sz→r'.size=sz)∧
    ∀w F (u v:Value),(D.at rows i).size=sz→aK w F (D.at rows i) v→aK w F y u→∃v',aK w F r' v'∧v'.cells.toList=putCells v.cells.toList j u.cells.toList)→
   aH P S o (.cZ (decide c) .bf ⟨k,aj,.vec sz (rows.set i r')⟩):=by
   intro c _ sz rows y r' v hg hy eT;refine aH.qx fun hc φ G a w hr=>?_;obtain⟨rfl,bz,jr,hj,akS,Qz⟩:=eT hc;have hv:=hr.opd p hp;have bL:=(hr.opd x hx).norm;rw[hy]at bL;rw[zN]at hv;obtain⟨hm,hk,L,hL,aA,vq,di,lI,iX⟩:=hr.mem.get hg;have e:=hv.kf hL aA;have vr:0<L.cap:=by omega
   obtain⟨arr,elem,hh,bV,h1,ep⟩:=iX vr;have aaP:r'.size=sz:=akS (by rw[lI _ (List.mem_of_getElem? (jm bz)),vq]);cases bL with
   |d _ u hu=>
    generalize bZ:a.eval x=u at hu;have zM:u.cells.size=y.size:=hu.size;have cD:L.base+i*L.sz+L.sz≤arr.size:=by
     have:i*L.sz+L.sz≤L.cap*L.sz:=by rw[←Nat.succ_mul];exact Nat.mul_le_mul_right _ (by omega)
     omega
    obtain⟨rv,JM,aaQ⟩:=ep i _ (jm bz);have Ub:rv.cells.size=L.sz:=by rw[JM.size];exact lI _ (List.mem_of_getElem? (jm bz))
    have iN:L.base+i*L.sz+j+u.cells.toList.length≤arr.toList.length:=by simp[zM];omega
    obtain⟨φ',dx,aN,fe,eA⟩:=hr.mem.store (e:=⟨k,v,.vec sz rows⟩) hm hL aA ⟨vr,rfl⟩ (putCells arr.toList (L.base+i*L.sz+j) u.cells.toList).toArray v (Nat.le_refl _) (.vec sz (rows.set i r')) (fun _ hb=>hb) (fun φ' ll b7 iY=>by
     refine⟨vq,by simpa using di,?_,fun _=>⟨_,elem,hh.setRow _ (by show (putCells arr.toList _ _).length=_;rw[bR _ _ _ iN];simp),?_,?_,?_⟩⟩
     ·intro d hd;rcases List.mem_or_eq_of_mem_set hd with hd|rfl
      ·exact lI d hd
      ·show _=L.sz;rw[vq];exact aaP
     ·show (putCells arr.toList _ _).length=_;rw[bR _ _ _ iN];simpa using bV
     ·intro z hz;rcases kh iN (by simpa using hz)with hz|hz
      ·exact h1 z (by simpa using hz)
      ·exact hu.cells.2.1 z (by simpa using hz)
     ·obtain⟨v',sE,akT⟩:=Qz _ _ u rv (by rw[lI _ (List.mem_of_getElem? (jm bz)),vq]) (iY _ _ JM) (iY _ _ hu);refine Fe (F:=Fo G φ S.mem) (base:=L.base) (cap:=L.cap) (sz:=L.sz) bV di bz (by omega) (by simp[zM];omega) ep lI iY sE (by rw[aaP,vq]) ?_;intro q c hq;have oO:(putCells rv.cells.toList j u.cells.toList)[q]?=some c:=by rw[←akT];simpa using hq
      have hql:q<L.sz:=by
       have:=(List.getElem?_eq_some_iff.1 oO).1;rw[bR _ _ _ (by simp[zM,Ub];omega)]at this;simpa [Ub]using this
      rw[gA _ _ _ (by simp[zM,Ub];omega)]at oO;rw[gA _ _ _ iN];by_cases h1:q<j
      ·rw[if_pos h1]at oO;rw[if_pos (by omega)];simpa using aaQ q c (by simpa using oO)
      ·rw[if_neg h1]at oO;rw[if_neg (by omega)];by_cases h2:q<j+u.cells.toList.length
       ·rw[if_pos h2]at oO;rw[if_pos (by omega)];rw[show L.base+i*L.sz+q-(L.base+i*L.sz+j)=q-j by omega];exact oO
       ·rw[if_neg h2]at oO;rw[if_neg (by omega)];simpa using aaQ q c (by simpa using oO))
    refine⟨undef,_,φ',bP a w _ ?_,.bf _,dx,aN,eA⟩;rw[e,bZ];exact rI (by rw[zM];exact jr) hh (by simpa using iN) hu.cells.2.1
  have whole:∀(y r:D),y.size=r.size→∀w F (u v:Value),aK w F r v→aK w F y u→∃v',aK w F y v'∧v'.cells.toList=putCells v.cells.toList 0 u.cells.toList:=by
   intro y r hyr w F u v hr hy;refine⟨u,hy,?_⟩;have h1:=hr.size;have h2:=hy.size;rw[dq _ _ _ (by simp;omega)];simp;omega
  split
  ·rename_i key v sz rows y hg hy;have hk:key=k:=(Mem.get_mem hg).2;subst hk;split
   ·exact vec _ sz rows y y v hg hy (fun ⟨h1,h2,h3,h4,h5⟩=>⟨h1,h2,by rw[h4];exact h3,by omega,fun _=>h4,by
     subst h5;intro w F u v hs b9 nU;exact whole y _ (by rw[hs,h4]) w F u v b9 nU⟩)
   ·split
    ·exact vec _ 1 rows y y v hg hy (fun ⟨h1,h2,h3,h4,h5⟩=>⟨h1,h2,by rw[h4];exact h3,by omega,fun _=>h4,by
      subst h5;intro w F u v hs b9 nU;exact whole y _ (by rw[hs,h4]) w F u v b9 nU⟩)
    ·refine vec _ sz rows y _ v hg hy (fun ⟨h1,h2,h3,h4,h5⟩=>⟨h1,h2,h3,h4,?_,?_⟩)
     ·intro h6;show (putCells _ _ _).length=sz;rw[bR _ _ _ (by rw[D.fS,D.fS,h6];exact h4),D.fS,h6]
     ·intro w F u v hs b9 nU;obtain⟨ra,rfl⟩:=tK b9 h5;have cd:=b9.cells;have kW:=nU.cells;have hl:j+y.cells.length≤(D.at rows i).cells.length:=by rw[D.fS,D.fS,hs];exact h4
      refine⟨.agg (putCells ra.toList j u.cells.toList).toArray,.nu ?_ ?_ ?_,by simp[Value.cells]⟩
      ·have h6:=cd.1;simp only[Value.cells]at h6;rw[bR _ _ _ hl,bR _ _ _ (by rw[kW.1,h6];exact hl),←h6]
      ·intro z hz;have h6:=cd.1;simp only[Value.cells]at h6;rcases kh (by rw[kW.1,h6];exact hl) hz with hz|hz
       ·exact cd.2.1 z (by simpa [Value.cells]using hz)
       ·exact kW.2.1 z (by simpa using hz)
      ·exact rH (by simpa [Value.cells]using cd.1.symm) (by simpa using kW.1.symm) hl (fun i c v h h'=>(cd.2.2 i c v h (by simpa [Value.cells]using h')).1) (fun i c v h h'=>(kW.2.2 i c v h (by simpa using h')).1)
  ·exact Qy P S o t p x ho hp hx zN
 ·trivial
theorem ij(P:Program)(w:World)(e:TypeId)(cs:Array Value):(newRow e cs).run P w=.ok ⟨w.heap.size,0,none⟩ (w.alloc (.cells cs e)):=rfl
def keyOf(o:Oper):Nat:=100+50*o.dst.getD 100000
def sI(P:Program)(t:TypeId):Option (List AV):=
 match P.info? t with
 |some i=>match i.zero with
  |some z=>if z.cells.all cx then some (z.cells.toList.map constAV)else none
  |none=>none
 |none=>none
theorem nw{P:Program}{t:TypeId}{zs:List AV}(h:sI P t=some zs)(w:World):∃z,(zeroValue t).run P w=.ok z w∧z.cells.size=zs.length∧(∀v∈z.cells,cx v=true)∧
 ∀φ w' F (i:Nat) c v,zs[i]?=some c→z.cells[i]?=some v→aB φ w' F c v:=by
 unfold sI at h;split at h
 ·rename_i i hi;split at h
  ·rename_i z hz;split at h
   ·rename_i dV;simp at h;subst h;refine⟨z,by simp[zeroValue,typeInfo,hi,hz],by simp,?_,?_⟩
    ·intro v hv;exact Array.all_eq_true'.1 dV v hv
    ·intro φ w' F i c v hc hv;simp only[List.getElem?_map,Array.getElem?_toList,Option.map_eq_some_iff]at hc;obtain⟨u,hu,rfl⟩:=hc;rw[hv]at hu;cases hu;exact zL ..
   ·cases h
  ·cases h
 ·cases h
def boxR(m:Mem)(k:Nat)(c:Bool)(cs:List AV):dk:=
 match Mem.get m k with
 |some ⟨_,v,_⟩=>.cZ c (.ptr k (v+1) 0) ⟨k,v+1,.box cs⟩
 |none=>.no
theorem JN{P:Program}{S:St}{o:Oper}{k:Nat}{c:Bool}{cs:List AV}
 (h:c=true→∀φ G a w,Rel φ G S a w→∃(arr:Array Value)(elem:TypeId),(execOp a.eval o).run P w=.ok (.value (.pointer (some ⟨w.heap.size,0,none⟩))) (w.alloc (.cells arr elem))∧
  arr.size=cs.length∧(∀v∈arr,cx v=true)∧∀(i:Nat) c v,cs[i]?=some c→arr[i]?=some v→aB φ w (Fo G φ S.mem) c v):aH P S o (boxR S.mem k c cs):=by
 unfold boxR;split
 ·rename_i key v cont hg;intro hc φ G a w hr;obtain⟨arr,elem,bP,bV,h1,ep⟩:=h hc φ G a w hr;obtain⟨hm,hk,L,hL,aA,_⟩:=hr.mem.get hg;simp only at hk aA;subst hk;obtain⟨φ',dx,aN,fe,eA⟩:=hr.mem.fresh (e:=⟨key,v,cont⟩) hm hL aA w rfl rfl rfl rfl arr elem 1 cs.length (.box cs) (fun _ hb=>hb) (fun φ' hle b7 iY iZ=>
   ⟨⟨rfl,rfl,rfl⟩,arr,elem,eR.new iZ,bV,h1,fun i c u hc hu=>b7 c u (ep i c u hc hu)⟩)
  exact⟨_,_,φ',.inl bP,.ptr key (v+1) 0 _ _ fe (Nat.le_refl _) (fun _=>rfl) rfl,dx,aN,eA⟩
 ·trivial
theorem aaR(P:Program)(S:St)(o:Oper)(t:TypeId)(x:Operand)(ho:o.op=.box t x)(hx:(S.opd x).1=true):aH P S o (boxR S.mem (keyOf o) (S.opd x).2.solid (S.opd x).2.cells):=by
 refine JN fun hs φ G a w hr=>?_;have hv:=hr.opd x hx;obtain⟨h1,h2⟩:=hv.solid hs;refine⟨(a.eval x).cells,t,?_,h1,h2,hv.cells h2 h1⟩;simp[execOp,ho,Instr.box,newVar,ij]
theorem FV(P:Program)(S:St)(o:Oper)(t:TypeId)(ho:o.op=.alloc t)(zs:List AV)(hz:sI P t=some zs):aH P S o (boxR S.mem (keyOf o) true zs):=by
 refine JN fun _ φ G a w hr=>?_;obtain⟨z,bP,bV,h1,ep⟩:=nw hz w;refine⟨z.cells,t,?_,bV,h1,fun i c v hc hv=>ep _ _ _ i c v hc hv⟩;simp[execOp,ho,Instr.alloc,newVar,ij,bP]
def lJ(P:Program)(t:TypeId):Option D:=
 match sI P t,(tk P t).agg with
 |some zs,true=>(toDsN zs).map .agg
 |some [z],false=>toD1 z
 |_,_=>none
def xo(P:Program)(t:TypeId):Option Nat:=(P.info? t).map (·.bytes)
theorem BB{P:Program}{t:TypeId}{d:D}(h:lJ P t=some d)(w:World):∃z,(zeroValue t).run P w=.ok z w∧z.cells.size=d.size∧(∀v∈z.cells,cx v=true)∧
 ∀w' F,∃v,aK w' F d v∧v.cells=z.cells:=by
 unfold lJ at h;split at h
 ·rename_i zs hz kg;simp only[Option.map_eq_some_iff]at h;obtain⟨ds,jq,rfl⟩:=h;obtain⟨z,bP,bV,h1,ep⟩:=nw hz w;have hl:∀w' F,zs.length=ds.length∧∀(i:Nat) d v,ds[i]?=some d→z.cells.toList[i]?=some v→aK w' F d v:=fun w' F=>
   sH (φ:=fun _=>none) (w:=w') (F:=F) (vs:=z.cells.toList) jq (fun i c v hc hv=>ep _ _ _ i c v hc (by simpa using hv))
  refine⟨z,bP,by rw[bV,(hl w (fun _=>False)).1];rfl,h1,fun w' F=>⟨.agg z.cells,?_,rfl⟩⟩;have:=aK.nu (w:=w') (F:=F) (cs:=ds) (vs:=z.cells.toList) (by rw[←(hl w' F).1];simpa using bV.symm) (fun v hv=>h1 v (by simpa using hv)) (hl w' F).2;simpa using this
 ·rename_i z0 hz kg;obtain⟨z,bP,bV,h1,ep⟩:=nw hz w;obtain⟨u,hu⟩:∃u,z.cells=#[u]:=by
   have:z.cells.size=1:=bV;exact⟨z.cells[0],by apply Array.ext<;>simp_all⟩
  have hd:∀w' F,aK w' F d u:=fun w' F=>FR (φ:=fun _=>none) h (ep _ _ _ 0 z0 u (by simp) (by simp[hu]));have JL:cx u=true:=h1 u (by simp[hu]);refine⟨z,bP,by rw[hu,←(hd w (fun _=>False)).size,dS JL],h1,fun w' F=>⟨u,hd w' F,by rw[dS JL,hu]⟩⟩
 ·cases h
def cn(w:World)(F:Nat→Prop)(sz:Nat)(rows:List D)(cs:List Value):Prop:=
 cs.length=rows.length*sz∧(∀v∈cs,cx v=true)∧(∀d∈rows,d.size=sz)∧∀(i:Nat) d,rows[i]?=some d→∃v,aK w F d v∧∀(j:Nat) c,v.cells[j]?=some c→cs[i*sz+j]?=some c
theorem ur{sz:Nat}{w:World}{F:Nat→Prop}{d:D}{v:Value}(h:aK w F d v)(hs:d.size=sz){j:Nat}{c:Value}(hj:v.cells[j]?=some c):j<sz:=by
 have h1:=h.size;have:=(Array.getElem?_eq_some_iff.1 hj).1;omega
theorem cn.append{w F sz xs ys cs lB}(h:cn w F sz xs cs)(h':cn w F sz ys lB):cn w F sz (xs++ys) (cs++lB):=by
 obtain⟨a1,a2,a3,a4⟩:=h;obtain⟨b1,b2,b3,b4⟩:=h';refine⟨by simp[a1,b1,Nat.add_mul],?_,?_,?_⟩
 ·intro v hv;rcases List.mem_append.1 hv with hv|hv;exact a2 v hv;exact b2 v hv
 ·intro v hv;rcases List.mem_append.1 hv with hv|hv;exact a3 v hv;exact b3 v hv
 ·intro i d hd;by_cases hi:i<xs.length
  ·rw[List.getElem?_append_left hi]at hd;obtain⟨v,hv,oN⟩:=a4 i d hd;refine⟨v,hv,fun j c hj=>?_⟩;have DT:=ur hv (a3 d (List.mem_of_getElem? hd)) hj;rw[List.getElem?_append_left]
   ·exact oN j c hj
   ·rw[a1];have:i*sz+sz≤xs.length*sz:=by rw[←Nat.succ_mul];exact Nat.mul_le_mul_right _ hi
    omega
  ·rw[List.getElem?_append_right (by omega)]at hd;obtain⟨v,hv,oN⟩:=b4 _ d hd;refine⟨v,hv,fun j c hj=>?_⟩;have e:xs.length*sz+(i-xs.length)*sz=i*sz:=by rw[←Nat.add_mul];congr 1;omega
   rw[List.getElem?_append_right (by rw[a1];omega),a1,show i*sz+j-xs.length*sz=(i-xs.length)*sz+j by omega];exact oN j c hj
theorem cn.take{w F sz xs cs}(h:cn w F sz xs cs)(n:Nat)(hn:n≤xs.length):cn w F sz (xs.take n) (cs.take (n*sz)):=by
 obtain⟨a1,a2,a3,a4⟩:=h;have hle:n*sz≤xs.length*sz:=Nat.mul_le_mul_right _ hn;refine⟨by simp only[List.length_take,a1];rw[Nat.min_eq_left hn,Nat.min_eq_left hle],fun v hv=>a2 v (List.mem_of_mem_take hv),fun v hv=>a3 v (List.mem_of_mem_take hv),?_⟩;intro i d hd;rw[List.getElem?_take]at hd;split at hd
 ·rename_i hi;obtain⟨v,hv,oN⟩:=a4 i d hd;refine⟨v,hv,fun j c hj=>?_⟩;have DT:=ur hv (a3 d (List.mem_of_getElem? hd)) hj;have:i*sz+sz≤n*sz:=by rw[←Nat.succ_mul];exact Nat.mul_le_mul_right _ hi
  rw[List.getElem?_take,if_pos (by omega)];exact oN j c hj
 ·cases hd
theorem cn.drop{w F sz xs cs}(h:cn w F sz xs cs)(n:Nat):cn w F sz (xs.drop n) (cs.drop (n*sz)):=by
 obtain⟨a1,a2,a3,a4⟩:=h;refine⟨by simp[a1,Nat.sub_mul],fun v hv=>a2 v (List.mem_of_mem_drop hv),fun v hv=>a3 v (List.mem_of_mem_drop hv),?_⟩;intro i d hd;rw[List.getElem?_drop]at hd;obtain⟨v,hv,oN⟩:=a4 _ d hd;refine⟨v,hv,fun j c hj=>?_⟩;rw[List.getElem?_drop,show n*sz+(i*sz+j)=(n+i)*sz+j by rw[Nat.add_mul];omega];exact oN j c hj
theorem cn.mono{w F w' F' sz xs cs}(h:cn w F sz xs cs)(hm:∀x v,aK w F x v→aK w' F' x v):cn w' F' sz xs cs:=
 ⟨h.1,h.2.1,h.2.2.1,fun i d hd=>let ⟨v,hv,hc⟩:=h.2.2.2 i d hd;⟨v,hm _ _ hv,hc⟩⟩
theorem cn.nil(w F sz):cn w F sz [] []:=⟨by simp,by simp,by simp,by simp⟩
theorem rK{φ w F}{L:Loc}{rows:List D}{pre cs rest:List Value}{sz:Nat}{elem:TypeId}(bV:L.sz=sz)(hr:cn w F sz rows cs)(jL:pre.length=L.base)(h0:∀v∈pre,cx v=true)(h1:∀v∈rest,cx v=true)
 (di:rows.length≤L.cap) (hl:(cs++rest).length=L.cap*sz) (hh:0<L.cap→eR w L.dz (pre++(cs++rest)).toArray elem):dU φ w F L (.vec sz rows):=by
 obtain⟨a1,a2,a3,a4⟩:=hr;subst bV;refine⟨rfl,di,a3,fun hc=>⟨_,elem,hh hc,by simp only[List.size_toArray,List.length_append]at hl⊢;omega,?_,?_⟩⟩
 ·intro v hv;simp at hv;rcases hv with hv|hv|hv
  ·exact h0 v hv
  ·exact a2 v hv
  ·exact h1 v hv
 ·intro i d hd;obtain⟨v,hv,oN⟩:=a4 i d hd;refine⟨v,hv,fun j c hj=>?_⟩;have DT:=ur hv (a3 d (List.mem_of_getElem? hd)) hj;have bz:i<rows.length:=(List.getElem?_eq_some_iff.1 hd).1;have:i*L.sz+L.sz≤rows.length*L.sz:=by rw[←Nat.succ_mul];exact Nat.mul_le_mul_right _ bz
  rw[List.getElem?_toArray,List.getElem?_append_right (by omega),jL,show L.base+i*L.sz+j-L.base=i*L.sz+j by omega,List.getElem?_append_left (by rw[a1];omega)];exact oN j c hj
theorem tM{φ w F}{L:Loc}{rows:List D}{cs rest:List Value}{sz:Nat}{elem:TypeId}(bV:L.sz=sz)(hb:L.base=0)(hr:cn w F sz rows cs)(h1:∀v∈rest,cx v=true)
 (di:rows.length≤L.cap) (hl:(cs++rest).length=L.cap*sz) (hh:0<L.cap→eR w L.dz (cs++rest).toArray elem):dU φ w F L (.vec sz rows):=
 rK (pre:=[]) bV hr (by simp[hb]) (by simp) h1 di hl hh
theorem mO{φ w F}{L:Loc}{rows:List D}{sz:Nat}(h:dU φ w F L (.vec sz rows))(hc:0<L.cap):∃(arr:Array Value)(elem:TypeId),eR w L.dz arr elem∧arr.size=L.base+L.cap*sz∧
 (∀v∈arr,cx v=true)∧cn w F sz rows ((arr.toList.drop L.base).take (rows.length*sz)):=by
 obtain⟨hs,di,lI,iX⟩:=h;obtain⟨arr,elem,hh,bV,h1,ep⟩:=iX hc;subst hs;refine⟨arr,elem,hh,bV,h1,?_,fun v hv=>h1 v (by simpa using List.mem_of_mem_drop (List.mem_of_mem_take hv)),lI,?_⟩
 ·simp only[List.length_take,List.length_drop,Array.length_toList,bV];exact Nat.min_eq_left (by rw[Nat.add_sub_cancel_left];exact Nat.mul_le_mul_right _ di)
 ·intro i d hd;obtain⟨v,hv,oN⟩:=ep i d hd;refine⟨v,hv,fun j c hj=>?_⟩;have DT:=ur hv (lI d (List.mem_of_getElem? hd)) hj;have bz:i<rows.length:=(List.getElem?_eq_some_iff.1 hd).1;have:i*L.sz+L.sz≤rows.length*L.sz:=by rw[←Nat.succ_mul];exact Nat.mul_le_mul_right _ bz
  rw[List.getElem?_take,if_pos (by omega),List.getElem?_drop,←Nat.add_assoc];simpa using oN j c hj
theorem FW{w F}{xs:List D}{ao:Option Addr}{m cap sz:Nat}(h:aK w F (.list xs) (.slice ao m cap))(hs:∀d∈xs,d.size=sz):
 m=xs.length∧∃cs,cn w F sz xs cs∧(xs≠[]→∃b off,ao=some ⟨b,off,none⟩∧b<w.heap.size∧¬F b∧∀(j:Nat) v,cs[j]?=some v→w.cell? ⟨b,off+j,none⟩=some v):=by
 generalize hx:D.list xs=x at h;generalize hv:Value.slice ao m cap=v at h;cases h with
 |nil a c=>
  simp at hx hv;subst hx;exact⟨by simp[hv.2.1],[],cn.nil ..,fun h=>absurd rfl h⟩
 |list ys b off xp cL vs di hb hF bV QA hc=>
  simp at hx hv;obtain⟨rfl,rfl,rfl⟩:=hv;subst hx;refine⟨rfl,?_⟩
  --zO cells,row by row
  have NT:xs≠[]→cL=sz:=fun bK=>by
   cases xs with
   |nil=>exact absurd rfl bK
   |cons d r=>rw[←bV d (by simp),hs d (by simp)]
  by_cases bK:xs=[]
  ·subst bK;exact⟨[],cn.nil ..,fun h=>absurd rfl h⟩
  have NT:=NT bK;subst NT;have iX:∀(i j:Nat),i<xs.length→j<cL→∃c,(vs i).cells[j]?=some c∧w.cell? ⟨b,off+(i*cL+j),none⟩=some c∧cx c=true:=by
   intro i j hi hj;have h1:=QA i xs[i] (by simp[hi]);have h2:=h1.size;rw[hs _ (List.getElem_mem hi)]at h2;have oJ:j<(vs i).cells.size:=by omega
   refine⟨(vs i).cells[j],by simp[oJ],?_,h1.cells.2.1 _ (by simp)⟩;have:=hc i j _ hi (show (vs i).cells[j]?=some (vs i).cells[j] by simp[oJ]);rw[←Nat.add_assoc];exact this
  refine⟨(List.range (xs.length*cL)).map (fun j=>(w.cell? ⟨b,off+j,none⟩).getD undef),⟨by simp,?_,hs,?_⟩,fun _=>⟨b,off,rfl,hb,hF,?_⟩⟩
  ·intro v hv;simp only[List.mem_map,List.mem_range]at hv;obtain⟨j,hj,rfl⟩:=hv;have ni:0<cL:=by rcases Nat.eq_zero_or_pos cL with h0|h0;simp[h0]at hj;exact h0
   obtain⟨c,_,h2,h3⟩:=iX (j/cL) (j%cL) (Nat.div_lt_of_lt_mul (by rw[Nat.mul_comm];exact hj)) (Nat.mod_lt _ ni);rw[Nat.mul_comm,Nat.div_add_mod]at h2;simp[h2,h3]
  ·intro i d hd;have hi:i<xs.length:=(List.getElem?_eq_some_iff.1 hd).1;refine⟨vs i,QA i d hd,fun j c hj=>?_⟩;have DT:=ur (QA i d hd) (hs d (List.mem_of_getElem? hd)) hj;obtain⟨c',h1,h2,_⟩:=iX i j hi DT;rw[hj]at h1;cases h1;have:i*cL+cL≤xs.length*cL:=by rw[←Nat.succ_mul];exact Nat.mul_le_mul_right _ hi
   simp[h2,show i*cL+j<xs.length*cL by omega]
  ·intro j v hv;simp only[List.getElem?_map,Option.map_eq_some_iff]at hv;obtain⟨k,hk,rfl⟩:=hv;have hj:j<xs.length*cL:=by
    rcases Nat.lt_or_ge j (xs.length*cL)with h|h
    ·exact h
    ·simp[List.getElem?_eq_none (l:=List.range (xs.length*cL)) (by simpa using h)]at hk
   simp[hj]at hk;subst hk;have ni:0<cL:=by rcases Nat.eq_zero_or_pos cL with h0|h0;simp[h0]at hj;exact h0
   obtain⟨c,_,h2,_⟩:=iX (j/cL) (j%cL) (Nat.div_lt_of_lt_mul (by rw[Nat.mul_comm];exact hj)) (Nat.mod_lt _ ni);rw[Nat.mul_comm,Nat.div_add_mod]at h2;simp[h2]
 |_=>simp at hx
def srcRows(m:Mem)(sz:Nat):AV→Option (Bool×List D)
 | .d (.list ys)=>some (true,ys)
 | .d (.str s)=>some (sz=1,s.map fun b=>.int .u8 b.toNat)
 | .lit (.slice none 0 0)=>some (true,[])
 | .nn=>some (true,[])
 | .vec k aj off len=>match Mem.get m k with
  |some ⟨_,v,.vec _ rows⟩=>some (v=aj∧off+len≤rows.length,(rows.drop off).take len)
  |_=>none
 |_=>none
structure Fq(P:Program)(w:World)(F:Nat→Prop)(sz:Nat)(ys:List D)(x:Value)(news:List Value):Prop where
 len:∀w',(Builtin.lenOf x).run P w'=.ok ys.length w'
 QB:∀n,n≤ys.length→∀w',(∀b,b<w.heap.size→w'.heap[b]?=w.heap[b]?)→(Builtin.firstCells sz n x).run P w'=.ok (news.take (n*sz)).toArray w'
 rows:cn w F sz ys news
theorem Fq.first{P w F sz ys x news}(h:Fq P w F sz ys x news)(w':World)(hw:∀b,b<w.heap.size→w'.heap[b]?=w.heap[b]?):(Builtin.firstCells sz ys.length x).run P w'=.ok news.toArray w':=by
 rw[h.QB _ (Nat.le_refl _) w' hw,List.take_of_length_le (by rw[h.rows.1];exact Nat.le_refl _)]
theorem FX{P:Program}{S:St}{φ G w}(hm:bm φ G S.mem w){x:AV}{v:Value}(hx:aB φ w (Fo G φ S.mem) x v){c ys}{sz:Nat}(hs:srcRows S.mem sz x=some (c,ys))(hc:c=true)(bV:∀d∈ys,d.size=sz):
 ∃news,Fq P w (Fo G φ S.mem) sz ys v news:=by
 unfold srcRows at hs;split at hs
 ·rename_i FY;simp at hs;obtain⟨_,rfl⟩:=hs;cases hx with
  |d _ _ h=>
   have hv:∃ao m cap,v=.slice ao m cap:=by cases h<;>exact⟨_,_,_,rfl⟩
   obtain⟨ao,m,cap,rfl⟩:=hv;obtain⟨rfl,cs,hr,bK⟩:=FW h bV;refine⟨cs,⟨fun w'=>by simp[Builtin.lenOf],fun n hn w' hw=>?_,hr⟩⟩;by_cases aaS:FY=[]
   ·subst aaS;have:cs=[]:=List.eq_nil_of_length_eq_zero (by simpa using hr.1);subst this;have fm:n=0:=by simpa using hn
    subst fm;cases ao with
    |none=>simp[Builtin.firstCells]
    |some a=>simp[Builtin.firstCells,loadCells,loadCellsFrom]
   ·obtain⟨b,off,rfl,hb,_,nS⟩:=bK aaS;exact run_firstCells_some (P:=P) w' sz n ⟨b,off,none⟩ FY.length cap _ (hr.take n hn |>.1.trans (by simp[hn])) (fun j u hj=>by
     rw[fj,jK (hw b hb)];rw[List.getElem?_take]at hj;split at hj
     ·exact nS j u hj
     ·cases hj)
 ·rename_i s;simp only[Option.some.injEq,Prod.mk.injEq]at hs;obtain⟨rfl,rfl⟩:=hs;simp only[decide_eq_true_eq]at hc;subst hc;cases hx with
  |d _ _ h=>
   cases h with
   |str b _ hb=>
    subst hb;have NS:b.size=b.data.toList.length:=by rw[Array.length_toList];rfl
    refine⟨b.data.toList.map fun x=>Value.int .u8 x.toNat,⟨fun w'=>by simp only[Builtin.lenOf,List.length_map,←NS];rfl,fun n hn w' _=>?_,?_,?_,?_,?_⟩⟩
    ·simp only[Builtin.firstCells,Sem.run_pure];congr 1;apply Array.ext';simp
    ·simp
    ·intro v hv;simp only[List.mem_map]at hv;obtain⟨y,_,rfl⟩:=hv;rfl
    ·exact bV
    ·intro i d hd;simp only[List.getElem?_map,Option.map_eq_some_iff]at hd;obtain⟨y,hy,rfl⟩:=hd;refine⟨.int .u8 y.toNat,.int _ _,fun j c hj=>?_⟩;cases j with
     |zero=>simp only[Value.cells]at hj;simp at hj;subst hj;simp only[List.getElem?_map,Nat.mul_one,Nat.add_zero,hy];rfl
     |succ j=>simp[Value.cells]at hj
 ·simp at hs;obtain⟨_,rfl⟩:=hs;cases hx with
  |lit=>exact⟨[],⟨fun w'=>by simp[Builtin.lenOf],fun n _ w' _=>by simp[Builtin.firstCells],cn.nil ..⟩⟩
 ·simp at hs;obtain⟨_,rfl⟩:=hs;cases hx with
  |nn a cap=>exact⟨[],⟨fun w'=>by simp[Builtin.lenOf],fun n hn w' _=>by
   have fm:n=0:=by simpa using hn
   subst fm;simp[Builtin.firstCells,loadCells,loadCellsFrom],cn.nil ..⟩⟩
 ·rename_i k aj off len;split at hs
  ·rename_i key v' cL rows hg;simp only[Option.some.injEq,Prod.mk.injEq]at hs;obtain⟨rfl,rfl⟩:=hs;simp only[decide_eq_true_eq]at hc;obtain⟨rfl,hle⟩:=hc;obtain⟨fa,hk,L,hL,aA,cd⟩:=hm.get hg;have hlen:((rows.drop off).take len).length=len:=by simp;omega
   cases hx with
   |vec _ _ _ _ _ L' bU _ h h1=>
    rw[hL]at bU;cases bU;obtain⟨ao,cap,rfl,fX,dF⟩:=h aA.symm;clear h h1;by_cases cf:len=0
    ·subst cf;refine⟨[],⟨fun w'=>by simp[Builtin.lenOf],fun n hn w' _=>?_,by simpa using cn.nil ..⟩⟩;have fm:n=0:=by simpa using hn
     subst fm;cases ao with
     |none=>simp[Builtin.firstCells]
     |some a=>simp[Builtin.firstCells,loadCells,loadCellsFrom]
    ·obtain⟨rfl,mP⟩:=dF (by omega);obtain⟨arr,elem,hh,tN,rL,hr⟩:=mO cd (by omega);have hss:cL=sz:=by
      have kJ:0<((rows.drop off).take len).length:=by omega
      have h2:=bV (((rows.drop off).take len)[0]'kJ) (List.getElem_mem kJ)
      have h3:=hr.2.2.1 (((rows.drop off).take len)[0]'kJ) (List.mem_of_mem_drop (List.mem_of_mem_take (List.getElem_mem kJ)))
      rw[←h2,←h3]
     subst hss;have zP:L.sz=cL:=cd.1;have iS:=(hr.drop off).take len (by simp;omega);refine⟨_,⟨fun w'=>by simp[Builtin.lenOf,hlen],fun n hn w' hw=>?_,iS⟩⟩;have hb:L.dz<w.heap.size:=hh.lt;exact run_firstCells_some (P:=P) w' cL n ⟨L.dz,L.base+off*L.sz,none⟩ len cap _ ((iS.take n hn).1.trans (by rw[List.length_take,Nat.min_eq_left hn])) (fun j u hj=>by
      rw[fj,jK (hw L.dz hb),gz hh,zP];rw[List.getElem?_take]at hj;split at hj
      ·rw[List.getElem?_take]at hj;split at hj
       ·rw[List.getElem?_drop,List.getElem?_take]at hj;split at hj
        ·rw[List.getElem?_drop]at hj;rw[Nat.add_assoc];simpa using hj
        ·cases hj
       ·cases hj
      ·cases hj)
  ·cases hs
 ·cases hs
section
variable {P:Program}
def eN(P:Program)(u:TypeId):Bool:=
 match P.underlying u with
 |some (.slice _)=>true
 |some .string=>true
 |_=>false
theorem xq{u:TypeId}(h:eN P u=true):(∃e,P.underlying u=some (.slice e))∨P.underlying u=some .string:=by
 unfold eN at h;split at h
 ·rename_i e hd;exact .inl ⟨e,hd⟩
 ·rename_i hd;exact .inr hd
 ·cases h
structure Dd(P:Program)(w:World)(F:Nat→Prop)(u:TypeId)(sz:Nat)(z:Value)(ys:List D)(x:Value)(news:List Value):Prop where
 rows:cn w F sz ys news
 kind:(eN P u=true∧Fq P w F sz ys x news)∨((∃k,P.underlying u=some (.int k))∧(∃kk,x=.int kk ys.length)∧ys.length≤4611686018427387904∧z.cells.size=sz∧news=(Builtin.zeroCells z.cells ys.length).toList)
theorem FZ{n:Nat}(h:n≤4611686018427387904):IntKind.i64.wrap (n:Int)=(n:Int):=IntWalk.i64_in _ (by omega)
theorem uu{z:Array Value}{n:Nat}(h:n*z.size=0):Builtin.zeroCells z n=#[]:=by
 apply Array.eq_empty_of_size_eq_zero;rw[size_zeroCells];exact h
theorem pZ{w:World}{t u ty e:TypeId}{i:TypeInfo}{z:Value}(ht:P.underlying t=some (.slice e))(hi:P.info? e=some i)(hz:i.zero=some z)
 {ao:Option Addr} {len cap:Nat} {F x news} (hs:Dd P w F u i.size z [] x news) (hle:len≤cap):
 (Builtin.append_ #[t,u] ty #[.slice ao len cap,x]).run P w=.ok (.slice ao len cap) w:=by
 rcases hs.kind with ⟨hu,hs⟩|⟨⟨k,hd⟩,⟨kk,rfl⟩,_,nx,rfl⟩
 ·have hn:news=[]:=List.eq_nil_of_length_eq_zero (by simpa using hs.rows.1);subst hn;have hl:=hs.len w;have hf:=hs.first w (fun _ _=>rfl);simp only[List.length_nil]at hl hf;rcases xq hu with ⟨e2,hd⟩|hd<;>cases ao<;>
   simp[Builtin.append_,run_underlying ht,run_underlying hd,sizeOf,typeInfo,hi,hl,hf,hle,storeCells]
 ·have w0:=FZ (n:=0) (by omega);simp only[Int.ofNat_zero,Int.natCast_zero]at w0;cases ao<;>simp[Builtin.append_,run_underlying ht,run_underlying hd,sizeOf,typeInfo,hi,w0,asInt,asIntOf,hle,storeCells]
theorem run_append_fits{w:World}{t u ty e:TypeId}{i:TypeInfo}{z:Value}(ht:P.underlying t=some (.slice e))(hi:P.info? e=some i)(hz:i.zero=some z)
 {g b len cap:Nat} {F ys x news} (hs:Dd P w F u i.size z ys x news) {cur:Array Value} {e':TypeId} (hg:eR w g cur e')
 (iO:len+ys.length≤cap) (nj:b+len*i.size+news.length≤cur.size) (F0:ys.length*i.bytes≤140737488355328):
 (Builtin.append_ #[t,u] ty #[.slice (some ⟨g,b,none⟩) len cap,x]).run P w=.ok (.slice (some ⟨g,b,none⟩) (len+ys.length) cap) (w.setRow g (putCells cur.toList (b+len*i.size) news).toArray):=by
 obtain⟨fz,hg,By⟩:=hg;have de:=jo (P:=P) g (b+len*i.size) e' fz news 0 cur w hg By (by simpa using nj) (fun x hx=>nh (hs.rows.2.1 x hx));simp only[Nat.add_zero]at de;rw[dq _ _ _ (by simpa using nj)];rcases hs.kind with ⟨hu,hs⟩|⟨⟨k,hd⟩,⟨kk,rfl⟩,hsm,nx,rfl⟩
 ·have hf:=hs.first w (fun _ _=>rfl);rcases xq hu with ⟨e2,hd⟩|hd<;>simp[Builtin.append_,run_underlying ht,run_underlying hd,sizeOf,typeInfo,hi,hs.len,iO,hf,fj,de]
 ·have wn:=FZ hsm;have h1:¬((ys.length:Int)<0):=by omega
  have h2:¬(281474976710656<(ys.length:Int)*(i.bytes:Int)):=by
   have:(ys.length:Int)*(i.bytes:Int)=((ys.length*i.bytes:Nat):Int):=by simp
   rw[this];omega
  by_cases h0:ys.length*i.size=0
  ·have DU:=uu (z:=z.cells) (n:=ys.length) (by rw[nx];exact h0);rw[DU]at de⊢;simp only[Array.toList_empty]at de;simp[Builtin.append_,run_underlying ht,run_underlying hd,sizeOf,typeInfo,hi,wn,asInt,asIntOf,h1,h2,h0,iO,fj,de]
  ·simp[Builtin.append_,run_underlying ht,run_underlying hd,sizeOf,typeInfo,zeroValue,hi,hz,wn,asInt,asIntOf,h1,h2,h0,iO,fj,de]
theorem rM{w:World}{t u ty e:TypeId}{i:TypeInfo}{z:Value}(ht:P.underlying t=some (.slice e))(hi:P.info? e=some i)(hz:i.zero=some z)
 {ao:Option Addr} {len cap:Nat} {F ys x news} (hs:Dd P w F u i.size z ys x news) (lq:List Value)
 (hold:∀w',w'.heap=w.heap→(Builtin.firstCells i.size len (.slice ao len cap)).run P w'=.ok lq.toArray w')
 (iO:cap<len+ys.length) (h63:len+ys.length≤9223372036854775807) (nj:Builtin.nextslicecap (len+ys.length) cap*i.bytes≤281474976710656) (F0:ys.length*i.bytes≤140737488355328):
 (Builtin.append_ #[t,u] ty #[.slice ao len cap,x]).run P w=
  .ok (.slice (some ⟨w.heap.size,0,none⟩) (len+ys.length) (grownCap w (len+ys.length) cap e))
   (w.drew.alloc (.cells (lq.toArray++news.toArray++Builtin.zeroCells z.cells (grownCap w (len+ys.length) cap e-(len+ys.length))) e)):=by
 have hn:¬(len+ys.length≤cap):=by omega
 have Uc:¬(9223372036854775807<((len:Int)+(ys.length:Int))):=by omega
 have Ud:¬(281474976710656<Builtin.nextslicecap (len+ys.length) cap*i.bytes):=by omega
 have hfo:=hold w.drew rfl;rcases hs.kind with ⟨hu,hs⟩|⟨⟨k,hd⟩,⟨kk,rfl⟩,hsm,nx,rfl⟩
 ·have hf:=hs.first w.drew (fun _ _=>rfl);rcases xq hu with ⟨e2,hd⟩|hd<;>
   (simp[Builtin.append_,run_underlying ht,run_underlying hd,sizeOf,typeInfo,zeroValue,hi,hz,hs.len,hn,Uc,Ud,Question.forced,hf,hfo,ij,grownCap]
    congr 2;apply Array.ext';simp[List.append_assoc])
 ·have wn:=FZ hsm;have h1:¬((ys.length:Int)<0):=by omega
  have h2:¬(281474976710656<(ys.length:Int)*(i.bytes:Int)):=by
   have:(ys.length:Int)*(i.bytes:Int)=((ys.length*i.bytes:Nat):Int):=by simp
   rw[this];omega
  by_cases h0:ys.length*i.size=0
  ·have DU:=uu (z:=z.cells) (n:=ys.length) (by rw[nx];exact h0);rw[DU];simp[Builtin.append_,run_underlying ht,run_underlying hd,sizeOf,typeInfo,zeroValue,hi,hz,wn,asInt,asIntOf,h1,h2,h0,hn,Uc,Ud,Question.forced,hfo,ij,grownCap]
  ·simp[Builtin.append_,run_underlying ht,run_underlying hd,sizeOf,typeInfo,zeroValue,hi,hz,wn,asInt,asIntOf,h1,h2,h0,hn,Uc,Ud,Question.forced,hfo,ij,grownCap]
end
theorem qy{z:Array Value}{n:Nat}(h:∀v∈z,cx v=true):∀v∈Builtin.zeroCells z n,cx v=true:=by
 intro v hv;simp only[Builtin.zeroCells,Array.mem_map,Array.mem_range]at hv;obtain⟨i,hi,rfl⟩:=hv;have ni:0<z.size:=by
  rcases Nat.eq_zero_or_pos z.size with h0|h0
  ·simp[h0]at hi
  ·exact h0
 have bz:i%z.size<z.size:=Nat.mod_lt _ ni;rw[getElem!_pos z _ bz];exact h _ (by simp)
theorem Zv{P:Program}{t:TypeId}{k}(h:tk P t=.int k):P.underlying t=some (.int k):=by
 unfold tk at h;split at h<;>simp_all
def appN(zd:D):AV→Option (Bool×List D)
 | .d (.int _ n)=>some (decide (0≤n)&&decide (n≤4611686018427387904),List.replicate n.toNat zd)
 |_=>none
def appS(b:Bool):Option (Bool×List D)→Option (Bool×List D)
 |some (c,ys)=>some (c&&b,ys)
 |none=>none
def appSrc(P:Program)(m:Mem)(sz:Nat)(zd:D)(u:TypeId)(x:AV):Option (Bool×List D):=
 match tk P u with
 | .int _=>appN zd x
 |_=>appS (eN P u) (srcRows m sz x)
theorem cn.afW{w:World}{F:Nat→Prop}{z:Array Value}{sz:Nat}{zd:D}(oK:∀v∈z,cx v=true)(nx:z.size=sz)(hd:zd.size=sz)(hv:∃v,aK w F zd v∧v.cells=z)(n:Nat):
 cn w F sz (List.replicate n zd) (Builtin.zeroCells z n).toList:=by
 refine⟨by simp[size_zeroCells,nx],fun v hv=>qy oK v (by simpa using hv),fun d zQ=>by rw[(List.mem_replicate.1 zQ).2];exact hd,fun i d hi=>?_⟩;obtain⟨lH,rfl⟩:=List.getElem?_eq_some_iff.1 hi;obtain⟨v,h1,h2⟩:=hv;refine⟨v,by simpa using h1,fun j c hj=>?_⟩;have oJ:j<z.size:=by rw[←h2];exact (Array.getElem?_eq_some_iff.1 hj).1
 simp at lH;have bz:i*sz+j<n*z.size:=by
  rw[nx];have:i*sz+sz≤n*sz:=by rw[←Nat.succ_mul];exact Nat.mul_le_mul_right _ lH
  omega
 simp only[Builtin.zeroCells,Array.getElem?_toList,Array.getElem?_map,Array.getElem?_range];rw[if_pos bz];simp only[Option.map_some];have e:(i*sz+j)%z.size=j:=by rw[←nx,Nat.mul_comm,Nat.mul_add_mod,Nat.mod_eq_of_lt oJ]
 rw[e,getElem!_pos z j oJ,←hj,h2];simp[oJ]
theorem JO{P:Program}{S:St}{φ G w}(hm:bm φ G S.mem w){u:TypeId}{i:TypeInfo}{z:Value}{zd:D}(oK:∀v∈z.cells,cx v=true)(nx:z.cells.size=i.size)(xr:zd.size=i.size)(hzv:∃v,aK w (Fo G φ S.mem) zd v∧v.cells=z.cells)
 {x:AV} {v:Value} (hx:aB φ w (Fo G φ S.mem) x v) {c ys} (hs:appSrc P S.mem i.size zd u x=some (c,ys)) (hc:c=true) (bV:∀d∈ys,d.size=i.size):
 ∃news,Dd P w (Fo G φ S.mem) u i.size z ys v news:=by
 unfold appSrc at hs;split at hs
 ·rename_i k hk;unfold appN at hs;split at hs
  ·rename_i kk n;cases hs;simp only[Bool.and_eq_true,decide_eq_true_eq]at hc;cases hx with
   |d _ _ hx=>
    cases hx;have hn:((List.replicate n.toNat zd).length:Int)=n:=by simp;omega
    refine⟨_,cn.afW oK nx xr hzv n.toNat,.inr ⟨⟨k,Zv hk⟩,⟨kk,by rw[hn]⟩,by simp;omega,nx,by simp⟩⟩
  ·cases hs
 ·rename_i hk;cases hr:srcRows S.mem i.size x with
  |none=>rw[hr]at hs;cases hs
  |some y=>
   obtain⟨c',FY⟩:=y;rw[hr]at hs;cases hs;simp only[Bool.and_eq_true]at hc;obtain⟨news,hn⟩:=FX (P:=P) hm hx hr hc.1 bV;exact⟨news,hn.rows,.inl ⟨hc.2,hn⟩⟩
def appV(P:Program)(m:Mem)(u:TypeId)(sz im:Nat)(zd:D)(s x:AV):dk:=
 match s,x with
 | .vec k aj off len,.vec kx vx 0 1=>match Mem.get m k,Mem.get m kx with
  |some ⟨_,v,.vv rows none⟩,some ⟨_,v',.box [.lit (.slice none 0 0)]⟩=>
   .cZ (eN P u=true∧v'=vx∧v=aj∧sz=1∧zd.size=1∧off+len≤rows.length∧(len+1)*im≤140737488355328∧len+1≤4611686018427387904) (.vec k (aj+1) 0 (len+1)) ⟨k,aj+1,.vv ((rows.drop off).take len++[[]]) none⟩
  |_,_=>.no
 |_,_=>.no
theorem F2{φ φ':bQ}{w w':World}{F F':Nat→Prop}{L:Loc}{rows:List (List D)}(h:j8 φ w F L rows none){off len:Nat}(hle:off+len≤rows.length)
 (L':Loc) (hz:L'.sz=1) (hs:L'.cO=(L.cO.drop off).take len++[none]) (di:len+1≤L'.cap) (hb:∀b,some b∈L.cO→b≠L'.dz) {fZ:Array Value} {Ws:TypeId} (hr:eR w' L'.dz fZ Ws) (bV:fZ.size=L'.base+L'.cap) (h1:∀v∈fZ,cx v=true)
 (hold:∀i,i<len→∃(arr:Array Value)(elem:TypeId),0<L.cap∧eR w L.dz arr elem∧fZ[L'.base+i]?=arr[L.base+off+i]?) (iZ:fZ[L'.base+len]?=some (.slice none 0 0))
 (hd:∀d u,aK w F d u→aK w' F' d u) (hw:∀b,some b∈L.cO→w'.heap[b]?=w.heap[b]?):j8 φ' w' F' L' ((rows.drop off).take len++[[]]) none:=by
 obtain⟨⟨g1,g2,g3⟩,g4,g5,g6⟩:=h;have hlen:((rows.drop off).take len).length=len:=by simp;omega
 have Ft:((L.cO.drop off).take len).length=len:=by simp;omega
 have fa:∀b,some b∈L'.cO→some b∈L.cO:=by
  intro b hb;rw[hs]at hb;rcases List.mem_append.1 hb with hb|hb
  ·exact List.mem_of_mem_drop (List.mem_of_mem_take hb)
  ·simp at hb
 have oY:∀(i b:Nat),L'.cO[i]?=some (some b)→i<len∧L.cO[off+i]?=some (some b):=by
  intro i b hb;rw[hs]at hb;by_cases hi:i<len
  ·rw[List.getElem?_append_left (by omega),List.getElem?_take,if_pos hi,List.getElem?_drop]at hb;exact⟨hi,hb⟩
  ·rw[List.getElem?_append_right (by omega),Ft]at hb;cases Wt:i-len with
   |zero=>rw[Wt]at hb;simp at hb
   |succ n=>rw[Wt]at hb;simp at hb
 refine⟨⟨hz,by simp;omega,by rw[hs];simp;omega⟩,fun i j b hi hj=>?_,fun b p4=>⟨by omega,hb b (fa b p4)⟩,fun _=>?_⟩
 ·have h2:=g4 (off+i) (off+j) b (oY i b hi).2 (oY j b hj).2;omega
 ·refine⟨fZ,Ws,hr,bV,h1,fun i xs o hi ho=>?_,fun x hx=>by cases hx⟩;by_cases iA:i<len
  ·rw[List.getElem?_append_left (by omega),List.getElem?_take,if_pos iA,List.getElem?_drop]at hi;rw[hs,List.getElem?_append_left (by omega),List.getElem?_take,if_pos iA,List.getElem?_drop]at ho;obtain⟨arr,elem,hL,QC,hold⟩:=hold i iA;obtain⟨akU,el0,q1,q2,q3,q4,_⟩:=g6 hL;have gp:akU=arr:=by
    obtain⟨f1,e1,_⟩:=q1;obtain⟨f2,e2,_⟩:=QC;rw[e1]at e2;simp only[Option.some.injEq,Obj.cells.injEq]at e2;exact e2.1
   subst gp;rw[hold,Nat.add_assoc];exact (q4 (off+i) xs o hi ho).mono (fun d u _ hdu=>hd d u hdu) (fun b e=>hw b (by subst e;exact List.mem_of_getElem? ho))
  ·have hi0:i=len:=by
    have:=(List.getElem?_eq_some_iff.1 hi).1;simp only[List.length_append,List.length_singleton,hlen]at this;omega
   subst hi0;rw[List.getElem?_append_right (by omega),hlen]at hi;rw[hs,List.getElem?_append_right (by omega),Ft]at ho;simp at hi ho;subst hi;subst ho;exact⟨rfl,none,iZ⟩
theorem Zw(P:Program)(S:St)(o:Oper)(s x:Operand)(t u:TypeId)(ho:o.op=.call {callee:=.builtin .append,args:=#[s,x],argTypes:=#[t,u]})
 (hs:(S.opd s).1=true) (hx:(S.opd x).1=true) {e:TypeId} (ht:P.underlying t=some (.slice e)) {i:TypeInfo} {z:Value} (hi:P.info? e=some i) (hz:i.zero=some z) {zd:D} (vt:z.cells.size=zd.size) (oK:∀v∈z.cells,cx v=true):
 aH P S o (appV P S.mem u i.size i.bytes zd (S.opd s).2 (S.opd x).2):=by
 have bP:∀(a:Act)(w w':World)(v:Value),(Builtin.append_ #[t,u] o.type #[a.eval s,a.eval x]).run P w=.ok v w'→(execOp a.eval o).run P w=.ok (.value v) w':=by
  intro a w w' v h;simp[execOp,ho,resolve,invoke,builtin,h]
 unfold appV;split
 ·rename_i k aj off len kx vx F3 bL;split
  ·rename_i key v rows dW v' hg hgx;refine aH.qx ?_;rintro ⟨mF,rfl,rfl,ny,nx,hle,hb,vu⟩ φ G a w hr;obtain⟨hm,hk,L,hL,aA,cd⟩:=hr.mem.get hg;simp only at hk aA cd;subst hk;obtain⟨hmx,uv,Lx,ew,Wu,⟨x1,x2,x3⟩,NU,elx,hrx,hsx,_,afX⟩:=hr.mem.get hgx;simp only at uv Wu;subst uv;have hv:=hr.opd s hs;have oL:=hr.opd x hx;rw[F3]at hv;rw[bL]at oL;have gR:NU[0]?=some (.slice none 0 0):=by
    have h0:0<NU.size:=by rw[hsx];simp
    have:=afX 0 _ NU[0] rfl (by simp[h0]);generalize hq:NU[0]=q at this;cases this;simp[h0,hq]
   generalize hex:a.eval x=xv at oL;cases oL with
   |vec _ _ _ _ _ L' bU _ h _=>
    rw[ew]at bU;cases bU;obtain⟨aox,aaY,rfl,awb,akV⟩:=h Wu.symm;clear h;obtain⟨rfl,_⟩:=akV (by omega);have kY:Dd P w (Fo G φ S.mem) u i.size z [.list []] (.slice (some ⟨Lx.dz,Lx.base+0*Lx.sz,none⟩) 1 aaY) [.slice none 0 0]:=by
     have jt:cn w (Fo G φ S.mem) i.size [.list []] [.slice none 0 0]:=by
      refine⟨by simp[ny],by simp[cx],by simp[ny,D.size],fun n d hn=>?_⟩;cases n with
      |zero=>simp at hn;subst hn;exact⟨.slice none 0 0,.nil none 0 (fun _=>rfl),fun j c hj=>by simpa [Value.cells]using hj⟩
      |succ n=>simp at hn
     refine⟨jt,.inl ⟨mF,fun w'=>by simp[Builtin.lenOf],fun n hn w' qI=>?_,jt⟩⟩;refine run_firstCells_some (P:=P) w' i.size n _ 1 aaY _ (by have:n≤1:=hn;simp[ny];omega) (fun j c hj=>?_);rw[fj,jK (qI _ hrx.lt),gz hrx,x1,x2];rw[List.getElem?_take]at hj;split at hj
     ·cases j with
      |zero=>simp at hj;subst hj;simpa using gR
      |succ j=>simp at hj
     ·cases hj
    generalize bZ:a.eval s=sv at hv;cases hv with
    |vec _ _ _ _ _ L' bU _ h _=>
     rw[hL]at bU;cases bU;obtain⟨ao,cap,rfl,fX,dF⟩:=h aA.symm;clear h;have Wv:∀b,some b∈L.cO→b<w.heap.size:=fun b hb=>hr.mem.Bw ⟨_,hm,L,hL,.inr hb⟩;have aaZ:∀b,some b∈(L.cO.drop off).take len++[none]→some b∈L.cO:=by
      intro b hb;rcases List.mem_append.1 hb with hb|hb
      ·exact List.mem_of_mem_drop (List.mem_of_mem_take hb)
      ·simp at hb
     have grow:∀(lq:List Value),lq.length=len→(∀q∈lq,cx q=true)→(∀n,n<len→∃(arr:Array Value)(elem:TypeId),0<L.cap∧eR w L.dz arr elem∧lq[n]?=arr[L.base+off+n]?)→
      (∀w',w'.heap=w.heap→(Builtin.firstCells i.size len (.slice ao len cap)).run P w'=.ok lq.toArray w')→cap<len+1→
      ∃vv w' φ',Bz P o a w vv w'∧aB φ' w' (Fo G φ' (Mem.set S.mem ⟨key,v+1,.vv ((rows.drop off).take len++[[]]) none⟩)) (.vec key (v+1) 0 (len+1)) vv∧
       bm φ' G (Mem.set S.mem ⟨key,v+1,.vv ((rows.drop off).take len++[[]]) none⟩) w'∧aP φ S.mem w φ' (Mem.set S.mem ⟨key,v+1,.vv ((rows.drop off).take len++[[]]) none⟩) w'∧∀k,k≠key→φ' k=φ k:=by
      intro lq p5 akW hold aa0 iO;have xj:=grownCap_ge w (len+1) cap e;have NV:z.cells.size=1:=by rw[vt];exact nx
      have gf:=rM (P:=P) (ty:=o.type) ht hi hz kY lq aa0 (by simpa using iO) (by simp;omega) (growslice_fits (by simpa using iO) (by simpa using hb)) (by simp;have:=Nat.mul_le_mul_right i.bytes (Nat.le_add_left 1 len);omega);simp only[List.length_singleton]at gf;obtain⟨φ',dx,aN,fe,eA⟩:=hr.mem.Qx (e:=⟨key,v,.vv rows none⟩) hm hL aA w.drew rfl rfl rfl rfl
       (lq.toArray++[Value.slice none 0 0].toArray++Builtin.zeroCells z.cells (grownCap w (len+1) cap e-(len+1))) e (.vv ((rows.drop off).take len++[[]]) none)
       ⟨v+1,w.heap.size,1,grownCap w (len+1) cap e,0,(L.cO.drop off).take len++[none]⟩ rfl
       (fun b hb=>by
        rcases hb with ⟨_,hb⟩|hb
        ·exact .inr hb
        ·exact .inl (.inr (aaZ b hb))) (fun φ' ll b7 iY iZ afY=>by
       refine F2 cd hle _ rfl rfl (by simp only;omega) (fun b hb=>by have:=Wv b hb;simp only;omega) (.new iZ) ?_ ?_ ?_ ?_ iY (fun b hb=>afY b (Wv b hb))
       ·simp only[Array.size_append,List.size_toArray,p5,List.length_singleton,size_zeroCells,NV];omega
       ·intro q hq;simp only[Array.mem_append]at hq;rcases hq with (hq|hq)|hq
        ·exact akW q (by simpa using hq)
        ·simp at hq;subst hq;rfl
        ·exact qy oK q hq
       ·intro n hn;obtain⟨arr,elem,h1,h2,h3⟩:=hold n hn;refine⟨arr,elem,h1,h2,?_⟩;rw[←h3];simp only[Nat.zero_add];rw[Array.getElem?_append_left (by simp;omega),Array.getElem?_append_left (by simp;omega),List.getElem?_toArray]
       ·simp only[Nat.zero_add];rw[Array.getElem?_append_left (by simp;omega),Array.getElem?_append_right (by simp;omega)];simp[p5])
      refine⟨_,_,φ',.inl (bP a w _ _ (by rw[bZ,hex];exact gf)),?_,dx,aN,eA⟩;exact .vec key (v+1) 0 _ _ _ fe (Nat.le_refl _) (fun _=>⟨_,_,rfl,xj,fun _=>⟨by simp,by simp⟩⟩) rfl
     by_cases QD:0<L.cap
     ·obtain⟨arr,elem,hh,tN,rL,_,_⟩:=cd.2.2.2 QD;have eQ:∀b,some b∈L.cO→b≠L.dz:=fun b hb=>(cd.2.2.1 b hb).2;have apC:∀b,some b∈L.cO→aE.cP L (.vv rows none) b:=fun b hb=>.inr hb;have afZ:∀b,some b∈(L.cO.drop off).take len++[none]→some b∈L.cO:=by
       intro b hb;rcases List.mem_append.1 hb with hb|hb
       ·exact List.mem_of_mem_drop (List.mem_of_mem_take hb)
       ·simp at hb
      by_cases iO:len+[D.list []].length≤cap
      ·simp only[List.length_singleton]at iO;obtain⟨rfl,mP⟩:=dF (by omega);have cD:L.base+off*L.sz+len*i.size+[Value.slice none 0 0].length≤arr.size:=by rw[tN,cd.1.1,ny];simp;omega
       have xu:=run_append_fits (P:=P) (ty:=o.type) ht hi hz kY hh (by simpa using iO) cD (by simp;have:=Nat.mul_le_mul_right i.bytes (Nat.le_add_left 1 len);omega);have aa1:=bP a w _ _ (by rw[bZ,hex];exact xu);rw[cd.1.1,ny,Nat.mul_one,Nat.mul_one]at aa1 cD;have iN:L.base+off+len+[Value.slice none 0 0].length≤arr.toList.length:=by simpa using cD
       obtain⟨φ',dx,aN,fe,eA⟩:=hr.mem.FT (e:=⟨key,v,.vv rows none⟩) hm hL aA (b0:=L.dz) (.inl ⟨QD,rfl⟩) (putCells arr.toList (L.base+off+len) [Value.slice none 0 0]).toArray ⟨v+1,L.dz,1,L.cap-off,L.base+off,(L.cO.drop off).take len++[none]⟩ (Nat.le_succ _) (fun hh=>by simp only at aA hh;omega) (.vv ((rows.drop off).take len++[[]]) none)
        (fun b hb=>by
         rcases hb with ⟨_,hb⟩|hb
         ·exact .inl ⟨QD,hb⟩
         ·exact .inr (afZ b hb)) (fun φ' ll b7 iY=>by
        refine F2 cd hle _ rfl rfl (by simp only;omega) eQ (hh.setRow _ (by rw[List.size_toArray,bR _ _ _ iN];simp)) ?_ ?_ ?_ ?_ iY ?_
        ·rw[List.size_toArray,bR _ _ _ iN];simp only[Array.length_toList,tN];omega
        ·intro q hq;rcases kh iN (by simpa using hq)with hq|hq
         ·exact rL q (by simpa using hq)
         ·simp at hq;subst hq;rfl
        ·intro n hn;refine⟨arr,elem,QD,hh,?_⟩;simp only
         rw[List.getElem?_toArray,gA _ _ _ iN,if_pos (by omega)];simp
        ·simp only
         rw[List.getElem?_toArray,gA _ _ _ iN,if_neg (by omega),if_pos (by simp)];simp
        ·intro b hb;exact m7 w L.dz b _ (eQ b hb))
       refine⟨_,_,φ',.inl aa1,?_,dx,aN,eA⟩;exact .vec key (v+1) 0 _ _ _ fe (Nat.le_refl _) (fun _=>⟨_,_,rfl,by simpa using iO,fun _=>⟨by simp,by simp only;omega⟩⟩) rfl
      ·have aa2:cap<len+1:=by simpa using iO
       have NW:=cd.1.2.1;simp only[Option.toList_none,List.length_nil,Nat.add_zero]at NW;refine grow ((arr.toList.drop (L.base+off)).take len) (by simp;omega) (fun q hq=>rL q (by simpa using List.mem_of_mem_drop (List.mem_of_mem_take hq))) (fun n hn=>⟨arr,elem,QD,hh,?_⟩) (fun w' qI=>?_) aa2
       ·rw[List.getElem?_take,if_pos hn,List.getElem?_drop];simp
       ·by_cases cf:len=0
        ·subst cf;cases ao with
         |none=>simp[Builtin.firstCells]
         |some a=>simp[Builtin.firstCells,loadCells,loadCellsFrom]
        ·obtain⟨rfl,mP⟩:=dF (by omega);refine run_firstCells_some (P:=P) w' i.size len _ len cap _ (by simp[ny];omega) (fun j c hj=>?_);rw[fj,jK (w:=w) (w':=w') (by rw[qI]),gz hh,cd.1.1,Nat.mul_one];rw[List.getElem?_take]at hj;split at hj
         ·rw[List.getElem?_drop]at hj;simpa using hj
         ·cases hj
     ·have NW:=cd.1.2.1;simp only[Option.toList_none,List.length_nil,Nat.add_zero]at NW;have cf:len=0:=by omega
      have vr:cap=0:=by
       rcases Nat.eq_zero_or_pos cap with h0|h0
       ·exact h0
       ·have:=(dF h0).2;omega
      subst cf;subst vr;refine grow [] rfl (by simp) (fun n hn=>by omega) (fun w' qI=>?_) (by omega);cases ao with
      |none=>simp[Builtin.firstCells]
      |some a=>simp[Builtin.firstCells,loadCells,loadCellsFrom]
  ·trivial
 ·trivial
def appR(P:Program)(m:Mem)(k0:Nat)(t:TypeId)(u:TypeId)(s x:AV):dk:=
 match tk P t with
 | .slice e=>match fi P e,xo P e,lJ P e with
  |some sz,some im,some zd=>match appSrc P m sz zd u x with
   |some (c,ys)=>match s with
    | .vec k aj off len=>match Mem.get m k with
     |some ⟨_,v,.vec cL rows⟩=>.cZ (c∧zd.size=sz∧v=aj∧off+len≤rows.length∧cL=sz∧(∀d∈ys,d.size=sz)∧(len+ys.length)*im≤140737488355328∧len+ys.length≤4611686018427387904)
      (.vec k (aj+1) 0 (len+ys.length)) ⟨k,aj+1,.vec sz ((rows.drop off).take len++ys)⟩
     |_=>.no
    | .lit (.slice none 0 0)=>match Mem.get m k0 with
     |some ⟨_,v,_⟩=>.cZ (c∧zd.size=sz∧(∀d∈ys,d.size=sz)∧ys.length*im≤140737488355328∧ys.length≤4611686018427387904)
      (.vec k0 (v+1) 0 ys.length) ⟨k0,v+1,.vec sz ys⟩
     |_=>.no
    |_=>.no
   |none=>appV P m u sz im zd s x
  |_,_,_=>.no
 |_=>.no
theorem fJ{P:Program}{t e:TypeId}(h:tk P t=.slice e):P.underlying t=some (.slice e):=by
 unfold tk at h;split at h<;>simp_all
theorem JP{P:Program}{e:TypeId}{sz im:Nat}{zd:D}(h1:fi P e=some sz)(h2:xo P e=some im)(h3:lJ P e=some zd):
 ∃i z,P.info? e=some i∧i.size=sz∧i.bytes=im∧i.zero=some z∧z.cells.size=zd.size∧(∀v∈z.cells,cx v=true)∧∀w' F,∃v,aK w' F zd v∧v.cells=z.cells:=by
 unfold fi at h1;unfold xo at h2;cases hi:P.info? e with
 |none=>simp[hi]at h1
 |some i=>
  simp[hi]at h1 h2;obtain⟨z,bP,h4,h5,h6⟩:=BB h3 default;cases hz:i.zero with
  |none=>simp[zeroValue,typeInfo,hi,hz,unsupported]at bP
  |some z'=>
   simp[zeroValue,typeInfo,hi,hz]at bP;subst bP;exact⟨i,z',rfl,h1,h2,hz,h4,h5,h6⟩
theorem aa3(P:Program)(S:St)(o:Oper)(s x:Operand)(t u:TypeId)(ho:o.op=.call {callee:=.builtin .append,args:=#[s,x],argTypes:=#[t,u]})
 (hs:(S.opd s).1=true) (hx:(S.opd x).1=true):aH P S o (appR P S.mem (keyOf o) t u (S.opd s).2 (S.opd x).2):=by
 have bP:∀(a:Act)(w w':World)(v:Value),(Builtin.append_ #[t,u] o.type #[a.eval s,a.eval x]).run P w=.ok v w'→(execOp a.eval o).run P w=.ok (.value v) w':=by
  intro a w w' v h;simp[execOp,ho,resolve,invoke,builtin,h]
 unfold appR;split
 ·rename_i e gg;have ht:=fJ gg;split
  ·rename_i sz im zd h1 h2 h3;obtain⟨i,z,hi,rfl,rfl,hz,vt,oK,xr⟩:=JP h1 h2 h3;split
   ·rename_i c ys mF
    --arG awc a new block
    have grow:∀{φ G}{a:Act}{w:World}(hr:Rel φ G S a w){news:List Value}(kY:Dd P w (Fo G φ S.mem) u i.size z ys (a.eval x) news){key aj:Nat}{cont:aE}(hm:(⟨key,aj,cont⟩:cI)∈S.mem){L:Loc}(hL:φ key=some L)(aA:L.aj=aj)
     (ao:Option Addr) (len cap:Nat) (bZ:a.eval s=.slice ao len cap) (lq:List Value) (xw:List D) (rN:cn w (Fo G φ S.mem) i.size xw lq) (p5:xw.length=len)
     (hold:∀w',w'.heap=w.heap→(Builtin.firstCells i.size len (.slice ao len cap)).run P w'=.ok lq.toArray w')
     (iO:cap<len+ys.length) (hb:(len+ys.length)*i.bytes≤140737488355328) (vu:len+ys.length≤4611686018427387904) (nV:zd.size=i.size),
     ∃v w' φ',Bz P o a w v w'∧aB φ' w' (Fo G φ' (Mem.set S.mem ⟨key,aj+1,.vec i.size (xw++ys)⟩)) (.vec key (aj+1) 0 (len+ys.length)) v∧
      bm φ' G (Mem.set S.mem ⟨key,aj+1,.vec i.size (xw++ys)⟩) w'∧aP φ S.mem w φ' (Mem.set S.mem ⟨key,aj+1,.vec i.size (xw++ys)⟩) w'∧∀k,k≠key→φ' k=φ k:=by
     intro φ G a w hr news kY key aj cont hm L hL aA ao len cap bZ lq xw rN p5 hold iO hb vu nV;have xj:=grownCap_ge w (len+ys.length) cap e;have gf:=rM (P:=P) (ty:=o.type) ht hi hz kY lq hold iO (by omega) (growslice_fits iO hb) (by have:=Nat.mul_le_mul_right i.bytes (Nat.le_add_left ys.length len);omega);have jt:cn w (Fo G φ S.mem) i.size (xw++ys) (lq++news):=rN.append kY.rows;obtain⟨φ',dx,aN,fe,eA⟩:=hr.mem.fresh (e:=⟨key,aj,cont⟩) hm hL aA w.drew rfl rfl rfl rfl
      (lq.toArray++news.toArray++Builtin.zeroCells z.cells (grownCap w (len+ys.length) cap e-(len+ys.length))) e i.size (grownCap w (len+ys.length) cap e) (.vec i.size (xw++ys)) (fun _ hb=>hb.2) (fun φ' hle b7 iY iZ=>by
       refine tM (cs:=lq++news) (rest:=(Builtin.zeroCells z.cells (grownCap w (len+ys.length) cap e-(len+ys.length))).toList) (elem:=e) rfl rfl (jt.mono iY) ?_ (by simp;omega) ?_ (fun _=>?_)
       ·intro v hv;exact qy oK v (by simpa using hv)
       ·have nx:z.cells.size=i.size:=by
         rw[vt];exact nV
        rw[List.length_append,jt.1];simp only[Array.length_toList,size_zeroCells,nx,List.length_append,p5,←Nat.add_mul];congr 1;omega
       ·refine eR.new ?_;rw[iZ];congr 2;apply Array.ext';simp)
     refine⟨_,_,φ',.inl (bP a w _ _ (by rw[bZ];exact gf)),?_,dx,aN,eA⟩;exact .vec key (aj+1) 0 _ _ _ fe (Nat.le_refl _) (fun _=>⟨_,_,rfl,xj,fun _=>⟨by simp,by simp⟩⟩) rfl
    split
    ·rename_i k aj off len F3;split
     ·rename_i key v cL rows hg;refine aH.qx ?_;rintro ⟨hc,nV,rfl,hle,rfl,F4,hb,vu⟩ φ G a w hr;obtain⟨hm,hk,L,hL,aA,cd⟩:=hr.mem.get hg;simp only at hk;subst hk;have hv:=hr.opd s hs;have bL:=hr.opd x hx;rw[F3]at hv;obtain⟨news,kY⟩:=JO (P:=P) hr.mem oK (by rw[vt];exact nV) nV (xr _ _) bL mF hc F4;generalize bZ:a.eval s=sv at hv;cases hv with
      |vec _ _ _ _ _ L' bU _ h _=>
       rw[hL]at bU;cases bU;obtain⟨ao,cap,rfl,fX,dF⟩:=h aA.symm;clear h;have zP:L.sz=i.size:=cd.1;have nz:((rows.drop off).take len).length=len:=by simp;omega
       by_cases iO:len+ys.length≤cap
       ·by_cases di:cap=0
        · --nothing awd nothing
         have JQ:ys=[]:=List.eq_nil_of_length_eq_zero (by omega);have cf:len=0:=by omega
         subst JQ;subst cf;have xu:=pZ (P:=P) (ty:=o.type) (ao:=ao) ht hi hz kY fX;obtain⟨φ',dx,aN,fe,eA⟩:=hr.mem.cZ (e':=⟨key,v+1,.vec i.size ((rows.drop off).take 0++[])⟩) hm hL rfl (L':={L with aj:=v+1}) (by simp only at aA;simp;omega) (fun hh=>by simp only at aA hh;omega) rfl
          (w':=w) (fun _ _ _=>rfl) (Nat.le_refl _) (fun _ ho=>.inl ho) rfl rfl rfl (fun φ' jj ll=>by
           obtain⟨g1,g2,g3,g4⟩:=cd;refine⟨g1,by simp,by simp,fun hc=>?_⟩;obtain⟨arr,elem,f1,f2,f3,f4⟩:=g4 hc;exact⟨arr,elem,f1,f2,f3,by simp⟩)
         refine⟨_,w,φ',.inl (bP a w w _ (by rw[bZ];exact xu)),?_,dx,aN,eA⟩;exact .vec key (v+1) 0 _ _ _ fe (Nat.le_refl _) (fun _=>⟨_,_,rfl,by simp,fun h=>by omega⟩) rfl
        ·obtain⟨rfl,mP⟩:=dF (by omega);obtain⟨arr,elem,hh,tN,rL,QE⟩:=mO cd (by omega);obtain⟨B,hB⟩:∃B,B=L.base+off*i.size:=⟨_,rfl⟩;have QF:=((QE.drop off).take len (by simp;omega));have DV:(((arr.toList.drop L.base).take (rows.length*i.size)).drop (off*i.size)).take (len*i.size)=(arr.toList.drop B).take (len*i.size):=by
          have:off*i.size+len*i.size≤rows.length*i.size:=by rw[←Nat.add_mul];exact Nat.mul_le_mul_right _ hle
          rw[List.drop_take,List.take_take,Nat.min_eq_left (by omega),List.drop_drop,hB]
         rw[DV]at QF;have iS:=QF.append kY.rows;have xn:=kY.rows.1;have awe:len*i.size+news.length≤(L.cap-off)*i.size:=by
          rw[xn,←Nat.add_mul];exact Nat.mul_le_mul_right _ (by omega)
         have eT:off*i.size+(L.cap-off)*i.size=L.cap*i.size:=by rw[←Nat.add_mul];congr 1;omega
         have cD:B+len*i.size+news.length≤arr.size:=by omega
         rw[zP,←hB]at bZ;have xu:=run_append_fits (P:=P) (ty:=o.type) ht hi hz kY hh iO cD (by have:=Nat.mul_le_mul_right i.bytes (Nat.le_add_left ys.length len);omega);obtain⟨φ',dx,aN,fe,eA⟩:=hr.mem.FT (e:=⟨key,v,.vec i.size rows⟩) hm hL aA (b0:=L.dz) ⟨by omega,rfl⟩ (putCells arr.toList (B+len*i.size) news).toArray ⟨v+1,L.dz,L.sz,L.cap-off,B,[]⟩ (Nat.le_succ _) (fun hh=>by simp only at aA hh;omega) (.vec i.size ((rows.drop off).take len++ys)) (fun _ hb=>⟨by omega,hb.2⟩) (fun φ' ll b7 iY=>by
          refine rK (pre:=arr.toList.take B) (cs:=(arr.toList.drop B).take (len*i.size)++news) (rest:=arr.toList.drop (B+len*i.size+news.length)) (elem:=elem) zP (iS.mono iY) ?_ ?_ ?_ (by rw[List.length_append,nz];simp only;omega) ?_ (fun _=>?_)
          ·simp only[List.length_take,Array.length_toList];omega
          ·intro z hz;exact rL z (by simpa using List.mem_of_mem_take hz)
          ·intro z hz;exact rL z (by simpa using List.mem_of_mem_drop hz)
          ·show _=(L.cap-off)*i.size;simp only[List.length_append,List.length_take,List.length_drop,Array.length_toList];omega
          ·have e:=hh.setRow (putCells arr.toList (B+len*i.size) news).toArray (by show (putCells arr.toList _ _).length=_;rw[bR _ _ _ (by simpa using cD)];simp);rw[dq _ _ _ (by simpa using cD),List.take_add]at e;rw[dq _ _ _ (by simpa using cD),List.take_add];simpa [List.append_assoc]using e)
         refine⟨_,_,φ',.inl (bP a w _ _ (by rw[bZ];exact xu)),?_,dx,aN,eA⟩;exact .vec key (v+1) 0 _ _ _ fe (Nat.le_refl _) (fun _=>⟨_,_,rfl,iO,fun _=>⟨by simp,by simp only;omega⟩⟩) rfl
       ·by_cases di:cap=0
        ·subst di;have cf:len=0:=by omega
         subst cf;have:=grow hr kY hm hL aA ao 0 0 bZ [] [] (cn.nil ..) rfl (fun w' _=>by cases ao<;>simp[Builtin.firstCells,loadCells,loadCellsFrom]) (by omega) hb vu nV;simpa using this
        ·obtain⟨rfl,mP⟩:=dF (by omega);obtain⟨arr,elem,hh,tN,rL,QE⟩:=mO cd (by omega);have QF:=((QE.drop off).take len (by simp;omega));exact grow hr kY hm hL aA _ len cap bZ _ ((rows.drop off).take len) QF nz (fun w' qI=>by
          refine run_firstCells_some (P:=P) w' i.size len _ len cap _ (by rw[QF.1,nz]) (fun j u hj=>?_);rw[fj,show w'.cell? ⟨L.dz,L.base+off*L.sz+j,none⟩=w.cell? ⟨L.dz,L.base+off*L.sz+j,none⟩ by simp[World.cell?,qI],gz hh,zP];rw[List.getElem?_take]at hj;split at hj
          ·rw[List.getElem?_drop,List.getElem?_take]at hj;split at hj
           ·rw[List.getElem?_drop]at hj;rw[Nat.add_assoc];simpa using hj
           ·cases hj
          ·cases hj) (by omega) hb vu nV
     ·trivial
    ·rename_i F3;split
     ·rename_i key v cont hg;refine aH.qx ?_;rintro ⟨hc,nV,F4,hb,vu⟩ φ G a w hr;obtain⟨hm,hk,L,hL,aA,cd⟩:=hr.mem.get hg;simp only at hk aA;subst hk;have hv:=hr.opd s hs;have bL:=hr.opd x hx;rw[F3]at hv;obtain⟨news,kY⟩:=JO (P:=P) hr.mem oK (by rw[vt];exact nV) nV (xr _ _) bL mF hc F4;generalize bZ:a.eval s=sv at hv;cases hv;by_cases JQ:ys=[]
      ·subst JQ;have xu:=pZ (P:=P) (ty:=o.type) (ao:=none) (len:=0) (cap:=0) ht hi hz kY (Nat.le_refl _);obtain⟨φ',dx,aN,fe,eA⟩:=hr.mem.cZ (e':=⟨keyOf o,v+1,.vec i.size []⟩) hm hL rfl (L':=⟨v+1,0,i.size,0,0,[]⟩) (by simp only;omega) (fun hh=>by simp only at hh;omega) rfl
        (w':=w) (fun _ _ _=>rfl) (Nat.le_refl _) (fun _ ho=>absurd ho.1 (by simp)) rfl rfl rfl (fun φ' jj ll=>
         ⟨rfl,by simp,by simp,fun hc=>by simp at hc⟩)
       refine⟨_,w,φ',.inl (bP a w w _ (by rw[bZ];exact xu)),?_,dx,aN,eA⟩;exact .vec _ (v+1) 0 _ _ _ fe (Nat.le_refl _) (fun _=>⟨_,_,rfl,by simp,fun h=>by omega⟩) rfl
      ·have ni:0<ys.length:=List.length_pos_iff.2 JQ;have:=grow hr kY hm hL aA none 0 0 bZ [] [] (cn.nil ..) rfl (fun w' _=>by simp[Builtin.firstCells]) (by omega) (by simpa using hb) (by simpa using vu) nV;simpa using this
     ·trivial
    ·trivial
   ·exact Zw P S o s x t u ho hs hx ht hi hz vt oK
  ·trivial
 ·trivial
def makeR(P:Program)(m:Mem)(k0:Nat)(t:TypeId)(l c:AV):dk:=
 match tk P t with
 | .slice e=>match fi P e,xo P e,lJ P e,l,c,Mem.get m k0 with
  |some sz,some im,some zd,.d (.int .i64 n),.d (.int .i64 n'),some ⟨_,v,_⟩=>
   .cZ (n=n'∧0≤n∧n*im≤140737488355328∧n≤4611686018427387904∧zd.size=sz) (.vec k0 (v+1) 0 n.toNat) ⟨k0,v+1,.vec sz (List.replicate n.toNat zd)⟩
  |_,_,_,_,_,_=>.no
 |_=>.no
theorem wrap_small{n:Int}(h0:0≤n)(h:n≤4611686018427387904):IntKind.i64.wrap n=n:=IntWalk.i64_in _ (by omega)
theorem NX(z:Array Value)(n sz:Nat)(hz:z.size=sz)(d:D)(hs:d.size=sz)(h1:∀v∈z,cx v=true)(w:World)(F:Nat→Prop)(hd:∃v,aK w F d v∧v.cells=z):
 cn w F sz (List.replicate n d) ((Array.range (n*sz)).map (z[·%z.size]!)).toList:=by
 obtain⟨v,hv,hvz⟩:=hd;refine⟨by simp,?_,?_,?_⟩
 ·intro x hx;simp only[Array.toList_map,List.mem_map]at hx;obtain⟨i,hi,rfl⟩:=hx;have hi:i<n*sz:=by simpa using hi
  have ni:0<z.size:=by
   rw[hz];rcases Nat.eq_zero_or_pos sz with h0|h0
   ·simp[h0]at hi
   ·exact h0
  rw[getElem!_pos z _ (Nat.mod_lt _ ni)];exact h1 _ (by simp)
 ·intro x hx;rw[List.eq_of_mem_replicate hx,hs]
 ·intro i x hx;have hi:i<n:=by have:=(List.getElem?_eq_some_iff.1 hx).1;simpa using this
  have hxd:x=d:=by rw[List.getElem?_replicate]at hx;split at hx<;>simp_all
  subst hxd;refine⟨v,hv,fun j c hj=>?_⟩;have DT:=ur hv hs hj;have bz:i*sz+j<n*sz:=by
   have:i*sz+sz≤n*sz:=by rw[←Nat.succ_mul];exact Nat.mul_le_mul_right _ hi
   omega
  rw[hvz]at hj;have hm:(i*sz+j)%sz=j:=by rw[Nat.mul_comm,Nat.mul_add_mod];exact Nat.mod_eq_of_lt DT
  simp only[Array.toList_map,List.getElem?_map,Array.toList_range,List.getElem?_range bz,Option.map_some,hz,hm];rw[getElem!_pos z j (by omega)];rw[←hj];simp[show j<z.size by omega]
theorem run_makeSlice{P:Program}{w:World}{t e:TypeId}{i:TypeInfo}{z:Value}{n:Int}(ht:P.underlying t=some (.slice e))(hi:P.info? e=some i)(hz:i.zero=some z)
 (h0:0≤n) (hb:n*i.bytes≤140737488355328) (hn:n≤4611686018427387904):
 (Instr.makeSlice t (.int .i64 n) (.int .i64 n)).run P w=.ok (.slice (some ⟨w.heap.size,0,none⟩) n.toNat n.toNat) (w.alloc (.cells ((Array.range (n.toNat*i.size)).map (z.cells[·%z.cells.size]!)) e)):=by
 have hw:=wrap_small h0 hn;have h1:¬n<0:=by omega
 have h2:¬((i.bytes:Int)*n>281474976710656):=by rw[Int.mul_comm];omega
 have h3:¬(n.toNat*i.bytes>roomBytes):=by
  unfold roomBytes;have:((n.toNat*i.bytes:Nat):Int)=n*i.bytes:=by rw[Int.natCast_mul,Int.toNat_of_nonneg h0]
  omega
 by_cases DU:n.toNat*i.size=0
 ·have akX:n.toNat=0∨i.size=0:=Nat.mul_eq_zero.1 DU;simp[Instr.makeSlice,run_underlying ht,asInt,asIntOf,typeInfo,sizeOf,hi,hw,h1,h2,askRoom,DU,ij,show Array.range 0=#[]from rfl]
 ·have akX:¬(n.toNat=0∨i.size=0):=fun h=>DU (Nat.mul_eq_zero.2 h);simp[Instr.makeSlice,run_underlying ht,asInt,asIntOf,typeInfo,sizeOf,zeroValue,hi,hz,hw,h1,h2,askRoom,ij];exact fun h=>absurd h DU
theorem Zx(P:Program)(S:St)(o:Oper)(t:TypeId)(l c:Operand)(ho:o.op=.makeSlice t l c)(hl:(S.opd l).1=true)(hc:(S.opd c).1=true):aH P S o (makeR P S.mem (keyOf o) t (S.opd l).2 (S.opd c).2):=by
 unfold makeR;split
 ·rename_i e gg;have ht:=fJ gg;split
  ·rename_i sz im zd n n' key v cont h1 h2 h3 nA mQ hg;refine aH.qx ?_;rintro ⟨rfl,h0,hb,hn,nV⟩ φ G a w hr;obtain⟨i,z,hi,rfl,rfl,hz,vt,oK,xr⟩:=JP h1 h2 h3;obtain⟨hm,hk,L,hL,aA,cd⟩:=hr.mem.get hg;simp only at hk aA;subst hk;have bZ:=hr.opd l hl;have Ue:=hr.opd c hc;rw[nA]at bZ;rw[mQ]at Ue;have e1:a.eval l=.int .i64 n:=by
    generalize a.eval l=x at bZ;cases bZ with|d _ _ h=>cases h;rfl
   have e2:a.eval c=.int .i64 n:=by
    generalize a.eval c=x at Ue;cases Ue with|d _ _ h=>cases h;rfl
   have xu:=run_makeSlice (P:=P) (w:=w) ht hi hz h0 hb hn;obtain⟨φ',dx,aN,fe,eA⟩:=hr.mem.fresh (e:=⟨keyOf o,v,cont⟩) hm hL aA w rfl rfl rfl rfl
    ((Array.range (n.toNat*i.size)).map (z.cells[·%z.cells.size]!)) e i.size n.toNat (.vec i.size (List.replicate n.toNat zd)) (fun _ hb=>hb.2) (fun φ' hle b7 iY iZ=>by
     refine tM (cs:=((Array.range (n.toNat*i.size)).map (z.cells[·%z.cells.size]!)).toList) (rest:=[]) (elem:=e) rfl rfl (NX z.cells n.toNat i.size (by rw[vt,nV]) zd nV oK _ _ (xr _ _)) (by simp) (by simp) (by simp) (fun _=>?_);refine eR.new ?_;rw[iZ,List.append_nil,Array.toArray_toList])
   refine⟨.slice (some ⟨w.heap.size,0,none⟩) n.toNat n.toNat,_,φ',.inl ?_,?_,dx,aN,eA⟩
   ·simp[execOp,ho,e1,e2,xu]
   ·exact .vec _ (v+1) 0 _ _ _ fe (Nat.le_refl _) (fun _=>⟨_,_,rfl,Nat.le_refl _,fun _=>⟨by simp,by simp⟩⟩) rfl
  ·trivial
 ·trivial
def copyR(P:Program)(m:Mem)(t:TypeId)(s x:AV):dk:=
 match tk P t with
 | .slice e=>match fi P e with
  |some sz=>match srcRows m sz x with
   |some (c,ys)=>match s with
    | .vec k aj off len=>match Mem.get m k with
     |some ⟨_,v,.vec cL rows⟩=>.cZ (c∧v=aj∧off+len≤rows.length∧cL=sz∧(∀d∈ys,d.size=sz))
      (.d (.int .i64 (min ys.length len:Nat))) ⟨k,aj,.vec sz (putCells rows off (ys.take len))⟩
     |_=>.no
    |_=>.no
   |none=>.no
  |none=>.no
 |_=>.no
theorem zJ{w F sz}{rows ys:List D}{cs news:List Value}{off:Nat}(h:cn w F sz rows cs)(h':cn w F sz ys news)(hle:off+ys.length≤rows.length):
 cn w F sz (putCells rows off ys) (putCells cs (off*sz) news):=by
 have ll:off*sz+news.length≤cs.length:=by rw[h.1,h'.1,←Nat.add_mul];exact Nat.mul_le_mul_right _ hle
 rw[dq _ _ _ hle,dq _ _ _ ll];have:=((h.take off (by omega)).append h').append (h.drop (off+ys.length));rw[Nat.add_mul,←h'.1]at this;exact this
theorem Ff{α:Type}{cs news:List α}{o n:Nat}(h:o+news.length≤n)(hn:n≤cs.length):putCells (cs.take n) o news++cs.drop n=putCells cs o news:=by
 rw[dq _ _ _ (by simp;omega),dq _ _ _ (by omega),List.take_take,Nat.min_eq_left (by omega),List.append_assoc (List.take _ _++_)];congr 1;rw[List.drop_take];have e2:cs.drop n=(cs.drop (o+news.length)).drop (n-(o+news.length)):=by rw[List.drop_drop];congr 1;omega
 rw[e2,List.take_append_drop]
theorem F5{P:Program}{w w':World}{t u ty e:TypeId}{sz:Nat}(ht:P.underlying t=some (.slice e))(h1:fi P e=some sz){ao:Option Addr}{len cap:Nat}{x:Value}{m:Nat}{news:List Value}
 (hlen:(Builtin.lenOf x).run P w=.ok m w) (ki:(Builtin.firstCells sz (min m len) x).run P w=.ok news.toArray w)
 (de:(match ao with|some a=>storeCells a news|none=>pure ()).run P w=.ok () w'):
 (Builtin.copy_ #[t,u] ty #[.slice ao len cap,x]).run P w=.ok (.int .i64 (min m len:Nat)) w':=by
 have hm:Nat.min m len=min m len:=rfl;cases ao with
 |none=>
  simp only[Sem.run_pure,Result.ok.injEq,true_and]at de;subst de;simp[Builtin.copy_,run_underlying ht,hlen,hm,run_sizeOf h1,ki,goInt]
 |some a=>
  simp only at de;simp[Builtin.copy_,run_underlying ht,hlen,hm,run_sizeOf h1,ki,de,goInt]
theorem Zy(P:Program)(S:St)(o:Oper)(s x:Operand)(t u:TypeId)(ho:o.op=.call {callee:=.builtin .copy,args:=#[s,x],argTypes:=#[t,u]})
 (hs:(S.opd s).1=true) (hx:(S.opd x).1=true):aH P S o (copyR P S.mem t (S.opd s).2 (S.opd x).2):=by
 unfold copyR;split
 ·rename_i e gg;have ht:=fJ gg;split
  ·rename_i sz h1;split
   ·rename_i c ys mF;split
    ·rename_i k aj off len F3;split
     ·rename_i key v cL rows hg;refine aH.qx ?_;rintro ⟨hc,rfl,hle,rfl,F4⟩ φ G a w hr;obtain⟨hm,hk,L,hL,aA,cd⟩:=hr.mem.get hg;simp only at hk;subst hk;have hv:=hr.opd s hs;have bL:=hr.opd x hx;rw[F3]at hv;obtain⟨news,kY⟩:=FX (P:=P) hr.mem bL mF hc F4;generalize bZ:a.eval s=sv at hv;cases hv with
      |vec _ _ _ _ _ L' bU _ h _=>
       rw[hL]at bU;cases bU;obtain⟨ao,cap,rfl,fX,dF⟩:=h aA.symm;clear h;have zP:L.sz=cL:=cd.1;have F6:min ys.length len≤ys.length:=Nat.min_le_left _ _;have ki:=kY.QB (min ys.length len) F6 w (fun _ _=>rfl);have htl:(ys.take len).length=min ys.length len:=by rw[List.length_take,Nat.min_comm]
       by_cases cf:len=0
       ·subst cf;obtain⟨φ',dx,aN,fe,eA⟩:=hr.mem.cZ (e':=⟨key,v,.vec cL (putCells rows off (ys.take 0))⟩) hm hL rfl (L':=L) (Nat.le_refl _) (fun _=>rfl) aA
         (w':=w) (fun _ _ _=>rfl) (Nat.le_refl _) (fun _ ho=>.inl ho) rfl rfl rfl (fun φ' jj ll=>by
          have e:putCells rows off (ys.take 0)=rows:=by rw[dq _ _ _ (by simp;omega)];simp
          rw[e];refine cd.mono ll (fun _ _ _=>rfl) (Nat.le_refl _) (fun b hb=>?_) (fun _ _=>rfl);rintro (hG|⟨y,hy,Ly,dE,gM⟩)
          ·exact .inl hG
          ·right;rcases (Mem.mem_set hr.mem.nodup).1 hy with ⟨rfl,_⟩|⟨zK,bK⟩
           ·subst jj;simp at dE;subst dE;exact⟨_,hm,L,hL,gM⟩
           ·subst jj;simp at bK;simp[bK]at dE;exact⟨y,zK,Ly,dE,gM⟩)
        refine⟨_,w,φ',.inl ?_,.d _ _ (.int _ _),dx,aN,eA⟩;have fm:news.take (min ys.length 0*cL)=[]:=by simp
        rw[fm]at ki;have:=F5 (P:=P) (ty:=o.type) (u:=u) (ao:=ao) (len:=0) (cap:=cap) ht h1 (kY.len w) ki (w':=w) (by cases ao<;>simp[storeCells]);simp[execOp,ho,resolve,invoke,builtin,bZ,this]
       ·obtain⟨rfl,mP⟩:=dF (by omega);obtain⟨arr,elem,hh,tN,rL,QE⟩:=mO cd (by omega);have rO:cn w (Fo G φ S.mem) cL (ys.take len) (news.take (min ys.length len*cL)):=by
         have:=kY.rows.take (min ys.length len) F6;have e:ys.take (min ys.length len)=ys.take len:=by
          rcases Nat.le_total ys.length len with h|h
          ·rw[Nat.min_eq_left h,List.take_of_length_le (Nat.le_refl _),List.take_of_length_le h]
          ·rw[Nat.min_eq_right h]
         rw[e]at this;exact this
        have aa4:off+(ys.take len).length≤rows.length:=by rw[htl];omega
        have iN:=zJ QE rO aa4;have xn:=rO.1;rw[htl]at xn;have gR:(off+min ys.length len)*cL≤rows.length*cL:=Nat.mul_le_mul_right _ (by omega);have sJ:rows.length*cL≤L.cap*cL:=Nat.mul_le_mul_right _ cd.2.1;have nj:L.base+off*cL+(news.take (min ys.length len*cL)).length≤arr.toList.length:=by
         rw[Nat.add_mul]at gR;rw[xn];simp only[Array.length_toList];omega
        have ⟨fz,hh0,By⟩:=hh;have de:=jo (P:=P) L.dz (L.base+off*cL) elem fz (news.take (min ys.length len*cL)) 0 arr w hh0 By (by simpa using nj) (fun x hx=>nh (rO.2.1 x hx));simp only[Nat.add_zero]at de;rw[←dq _ _ _ nj]at de;have F7:arr.toList.take L.base++(putCells ((arr.toList.drop L.base).take (rows.length*cL)) (off*cL) (news.take (min ys.length len*cL))++(arr.toList.drop L.base).drop (rows.length*cL))=putCells arr.toList (L.base+off*cL) (news.take (min ys.length len*cL)):=by
         rw[Ff (by rw[xn,←Nat.add_mul];exact gR) (by simp only[List.length_drop,Array.length_toList];omega)];rw[dq _ _ _ (by rw[xn];rw[Nat.add_mul]at gR;simp only[List.length_drop,Array.length_toList];omega),dq _ _ _ nj,List.drop_drop,List.take_add];simp only[List.append_assoc,Nat.add_assoc]
        obtain⟨φ',dx,aN,fe,eA⟩:=hr.mem.store (e:=⟨key,v,.vec cL rows⟩) hm hL aA (b0:=L.dz) ⟨by omega,rfl⟩ (putCells arr.toList (L.base+off*cL) (news.take (min ys.length len*cL))).toArray v (Nat.le_refl _) (.vec cL (putCells rows off (ys.take len))) (fun _ hb=>hb) (fun φ' ll b7 iY=>by
         refine rK (pre:=arr.toList.take L.base) (cs:=putCells ((arr.toList.drop L.base).take (rows.length*cL)) (off*cL) (news.take (min ys.length len*cL))) (rest:=(arr.toList.drop L.base).drop (rows.length*cL)) (elem:=elem) zP (iN.mono iY) ?_ ?_ ?_ ?_ ?_ (fun _=>?_)
         ·simp only[List.length_take,Array.length_toList];omega
         ·intro z hz;exact rL z (by simpa using List.mem_of_mem_take hz)
         ·intro z hz;exact rL z (by simpa using List.mem_of_mem_drop (List.mem_of_mem_drop hz))
         ·rw[bR _ _ _ aa4];exact cd.2.1
         ·show _=L.cap*cL;rw[List.length_append,bR _ _ _ (by rw[xn,←Nat.add_mul];simp only[List.length_take,List.length_drop,Array.length_toList];omega),←List.length_append,List.take_append_drop];simp only[List.length_drop,Array.length_toList];omega
         ·rw[F7];exact hh.setRow _ (by show (putCells arr.toList _ _).length=_;rw[bR _ _ _ nj];simp))
        refine⟨_,_,φ',.inl ?_,.d _ _ (.int _ _),dx,aN,eA⟩;have:=F5 (P:=P) (ty:=o.type) (u:=u) (ao:=some ⟨L.dz,L.base+off*L.sz,none⟩) (len:=len) (cap:=cap) ht h1 (kY.len w) ki (by rw[zP];exact de);simp[execOp,ho,resolve,invoke,builtin,bZ,this]
     ·trivial
    ·trivial
   ·trivial
  ·trivial
 ·trivial
theorem tO{P:Program}{s:TypeId}{f n b o:Nat}{w:World}(h:vp P s f=some n):(Instr.fieldAt s (.pointer (some ⟨b,o,none⟩)) f).run P w=.ok (.pointer (some ⟨b,o+n,none⟩)) w:=by
 unfold vp at h;split at h
 ·rename_i fs hu;split at h
  ·rename_i fl hf;split at h
   ·rename_i i hi;split at h
    ·cases h
    ·rename_i hz;simp at h;subst h;have hs:(sizeOf fl.type).run P w=.ok i.size w:=run_sizeOf (by simp[fi,hi]);simp[Instr.fieldAt,run_underlying hu,hf,Instr.sureAddr,fieldPlace,hs,hz,fj]
   ·cases h
  ·cases h
 ·cases h
def fieldRm(P:Program)(m:Mem)(s:TypeId)(f:Nat)(p:AV):dk:=
 match vp P s f with
 |some n=>match p with
  | .ptr k aj off=>match Mem.get m k with
   |some ⟨_,v,_⟩=>.val (v=aj) (.ptr k aj (off+n))
   |none=>.no
  | .cF k aj i j=>match Mem.get m k with
   |some ⟨_,v,_⟩=>.val (v=aj) (.cF k aj i (j+n))
   |none=>.no
  | .dL x j=>.val True (.dL x (j+n))
  |_=>.no
 |none=>.no
theorem Uf(P:Program)(S:St)(o:Oper)(s:TypeId)(x:Operand)(f:Nat)(ho:o.op=.fieldAddr s x f)(hx:(S.opd x).1=true):aH P S o (fieldRm P S.mem s f (S.opd x).2):=by
 unfold fieldRm;split
 ·rename_i n hn;split
  ·rename_i k aj off hp;split
   ·rename_i key v cont hg;refine aH.pure ?_;rintro rfl φ G a w hr;have hv:=hr.opd x hx;rw[hp]at hv;obtain⟨hm,hk,L,hL,aA,_⟩:=hr.mem.get hg;simp only at aA;have e:=hv.pX hL aA;refine⟨.pointer (some ⟨L.dz,off+n,none⟩),by simp[execOp,ho,e,tO hn],.ptr k v _ _ L hL (by omega) (fun _=>rfl) rfl⟩
   ·trivial
  ·rename_i k aj i j hp;split
   ·rename_i key v cont hg;refine aH.pure ?_;rintro rfl φ G a w hr;have hv:=hr.opd x hx;rw[hp]at hv;obtain⟨hm,hk,L,hL,aA,_⟩:=hr.mem.get hg;simp only at aA;have e:=hv.kf hL aA;refine⟨.pointer (some ⟨L.dz,L.base+i*L.sz+j+n,none⟩),by simp[execOp,ho,e,tO hn],.cF k v _ _ _ L hL (by omega) (fun _=>by rw[Nat.add_assoc]) rfl⟩
   ·trivial
  ·rename_i d j hp;refine aH.pure ?_;rintro _ φ G a w hr;have hv:=hr.opd x hx;rw[hp]at hv;generalize b7:a.eval x=av at hv;cases hv with
   |dL _ _ b off x' hb hF oL hc=>
    refine⟨.pointer (some ⟨b,off+(j+n),none⟩),by simp[execOp,ho,b7,tO hn,Nat.add_assoc],.dL d (j+n) b off x' hb hF oL hc⟩
  ·trivial
 ·trivial
def nilCheckR(m:Mem)(p:AV):dk:=
 match p with
 | .ptr k aj off=>match Mem.get m k with
  |some ⟨_,v,_⟩=>.val (v=aj) (.ptr k aj off)
  |none=>.no
 | .cF k aj i j=>match Mem.get m k with
  |some ⟨_,v,_⟩=>.val (v=aj) (.cF k aj i j)
  |none=>.no
 | .dL x j=>.val True (.dL x j)
 |_=>.no
theorem Ji(P:Program)(S:St)(o:Oper)(x:Operand)(ho:o.op=.nilCheck x)(hx:(S.opd x).1=true):aH P S o (nilCheckR S.mem (S.opd x).2):=by
 unfold nilCheckR;split
 ·rename_i k aj off hp;split
  ·rename_i key v cont hg;refine aH.pure ?_;rintro rfl φ G a w hr;have hv:=hr.opd x hx;rw[hp]at hv;obtain⟨hm,hk,L,hL,aA,_⟩:=hr.mem.get hg;simp only at aA;have e:=hv.pX hL aA;exact⟨_,by simp only[execOp,ho,e];rfl,.ptr k v _ _ L hL (by omega) (fun _=>rfl) rfl⟩
  ·trivial
 ·rename_i k aj i j hp;split
  ·rename_i key v cont hg;refine aH.pure ?_;rintro rfl φ G a w hr;have hv:=hr.opd x hx;rw[hp]at hv;obtain⟨hm,hk,L,hL,aA,_⟩:=hr.mem.get hg;simp only at aA;have e:=hv.kf hL aA;exact⟨_,by simp only[execOp,ho,e];rfl,.cF k v _ _ _ L hL (by omega) (fun _=>rfl) rfl⟩
  ·trivial
 ·rename_i d j hp;refine aH.pure ?_;rintro _ φ G a w hr;have hv:=hr.opd x hx;rw[hp]at hv;generalize b7:a.eval x=av at hv;cases hv with
  |dL _ _ b off x' hb hF oL hc=>
   exact⟨.pointer (some ⟨b,off+j,none⟩),by simp only[execOp,ho,b7];rfl,.dL d j b off x' hb hF oL hc⟩
 ·trivial
theorem ju{φ w F k n v}(h:aB φ w F (.d (.int k n)) v):v=.int k n:=by cases h with|d _ _ h=>cases h;rfl
theorem rq{φ w F b v}(h:aB φ w F (.d (.bool b)) v):v=.bool b:=by cases h with|d _ _ h=>cases h;rfl
theorem rP{φ w F s v}(h:aB φ w F (.d (.str s)) v):∃b:ByteArray,v=.string b∧b.data.toList=s:=by cases h with|d _ _ h=>cases h with|str b _ h=>exact⟨b,rfl,h⟩
theorem rQ{P:Program}{t:TypeId}{n e}(h:tk P t=.arr n e):P.underlying t=some (.array n e):=by
 unfold tk at h;split at h<;>simp_all
theorem mR{P:Program}{t:TypeId}(h:tk P t=.str):P.underlying t=some .string:=by
 unfold tk at h;split at h<;>simp_all
theorem De{P:Program}{t:TypeId}(h:tk P t=.bool):P.underlying t=some .bool:=by
 unfold tk at h;split at h<;>simp_all
theorem uw{P:Program}{t:TypeId}{k}(h:tk P t=.int k):P.underlying t=some (.int k):=by
 unfold tk at h;split at h<;>simp_all
def indexR(P:Program)(m:Mem)(t:TypeId)(p i:AV):dk:=
 match i with
 | .d (.int _ n)=>match tk P t with
  | .slice e=>match fi P e with
   |some sz=>match p with
    | .d (.list xs)=>.val (0≤n∧n.toNat<xs.length∧(D.at xs n.toNat).size=sz) (.dL (D.at xs n.toNat) 0)
    | .vec k aj off len=>match Mem.get m k with
     |some ⟨_,v,.vec cL _⟩=>.val (v=aj∧0≤n∧n.toNat<len∧cL=sz) (.cF k aj (off+n.toNat) 0)
     |some ⟨_,v,.vv _ _⟩=>.val (v=aj∧0≤n∧n.toNat<len∧sz=1) (.cF k aj (off+n.toNat) 0)
     |_=>.no
    |_=>.no
   |none=>.no
  | .arr len e=>match fi P e with
   |some sz=>match p with
    | .ptr k aj off=>match Mem.get m k with
     |some ⟨_,v,_⟩=>.val (v=aj∧0≤n∧n.toNat<len) (.ptr k aj (off+n.toNat*sz))
     |none=>.no
    | .cF k aj i j=>match Mem.get m k with
     |some ⟨_,v,.vec cL _⟩=>if cL=1∧sz=1∧j=0 then .val (v=aj∧0≤n∧n.toNat<len) (.cF k aj (i+n.toNat) 0)else .val (v=aj∧0≤n∧n.toNat<len) (.cF k aj i (j+n.toNat*sz))
     |some ⟨_,v,_⟩=>.val (v=aj∧0≤n∧n.toNat<len) (.cF k aj i (j+n.toNat*sz))
     |none=>.no
    | .dL x j=>.val (0≤n∧n.toNat<len) (.dL x (j+n.toNat*sz))
    |_=>.no
   |none=>.no
  |_=>.no
 |_=>.no
theorem oZ{P:Program}{t e:TypeId}{sz b o len cap:Nat}{k:IntKind}{n:Int}{w:World}(ht:P.underlying t=some (.slice e))(hs:fi P e=some sz)(h0:0≤n)(hl:n.toNat<len):
 (Instr.indexAt t (.slice (some ⟨b,o,none⟩) len cap) (.int k n)).run P w=.ok (.pointer (some ⟨b,o+n.toNat*sz,none⟩)) w:=by
 have hn:n<(len:Int):=by omega
 simp[Instr.indexAt,asIntOf,run_underlying ht,run_sizeOf hs,h0,hn,fj]
theorem lK{P:Program}{t e:TypeId}{sz b o len:Nat}{k:IntKind}{n:Int}{w:World}(ht:P.underlying t=some (.array len e))(hs:fi P e=some sz)(h0:0≤n)(hl:n.toNat<len):
 (Instr.indexAt t (.pointer (some ⟨b,o,none⟩)) (.int k n)).run P w=.ok (.pointer (some ⟨b,o+n.toNat*sz,none⟩)) w:=by
 have hn:n<(len:Int):=by omega
 simp[Instr.indexAt,Instr.sureAddr,asIntOf,run_underlying ht,run_sizeOf hs,h0,hn,fj]
theorem Zz{w F xs b off cap len}(h:aK w F (.list xs) (.slice (some ⟨b,off,none⟩) len cap)){i sz:Nat}(hi:i<xs.length)(hs:(D.at xs i).size=sz):
 len=xs.length∧b<w.heap.size∧¬F b∧∃v,aK w F (D.at xs i) v∧∀(j:Nat) c,v.cells[j]?=some c→w.cell? ⟨b,off+i*sz+j,none⟩=some c:=by
 generalize hx:D.list xs=x at h;generalize hv:Value.slice (some ⟨b,off,none⟩) len cap=v at h;cases h with
 |nil a c=>simp at hx;subst hx;simp at hi
 |list ys b' awf xp cL vs di hb hF bV QA hc=>
  simp at hx hv;obtain⟨⟨rfl,rfl⟩,rfl,rfl⟩:=hv;subst hx;have:cL=sz:=by rw[←hs,bV _ (List.mem_of_getElem? (jm hi))]
  subst this;exact⟨rfl,hb,hF,vs i,QA i _ (jm hi),fun j c hj=>hc i j c hi hj⟩
 |_=>simp at hx
theorem QG{w F xs v}(h:aK w F (.list xs) v)(bK:xs≠[]):∃b off cap,v=.slice (some ⟨b,off,none⟩) xs.length cap:=by
 cases h with
 |nil a c=>exact absurd rfl bK
 |list b off cap sz vs=>exact⟨_,_,_,rfl⟩
theorem Ug(P:Program)(S:St)(o:Oper)(t:TypeId)(x i:Operand)(ho:o.op=.indexAddr t x i)(hx:(S.opd x).1=true)(hi:(S.opd i).1=true):aH P S o (indexR P S.mem t (S.opd x).2 (S.opd i).2):=by
 unfold indexR;split
 ·rename_i kk n QH;have zR:∀{φ G a w},Rel φ G S a w→a.eval i=.int kk n:=fun hr=>by
   have:=hr.opd i hi;rw[QH]at this;exact ju this
  split
  ·rename_i e gg;have ht:=fJ gg;split
   ·rename_i sz hs;split
    ·rename_i xs hp;refine aH.pure ?_;rintro ⟨h0,hl,bV⟩ φ G a w hr;have hv:=hr.opd x hx;rw[hp]at hv;generalize b7:a.eval x=av at hv;cases hv with
     |d _ _ h=>
      obtain⟨b,off,cap,rfl⟩:=QG h (by intro hh;subst hh;simp at hl);obtain⟨_,hb,hF,v,hv,hc⟩:=Zz h hl bV;refine⟨_,by simp only[execOp,ho,b7,zR hr,Sem.run_bind,oZ ht hs h0 hl];rfl,?_⟩;exact .dL (D.at xs n.toNat) 0 b (off+n.toNat*sz) v hb hF hv hc
    ·rename_i k aj off len hp;split
     ·rename_i key v cL rows hg;refine aH.pure ?_;rintro ⟨rfl,h0,hl,rfl⟩ φ G a w hr;have hv:=hr.opd x hx;rw[hp]at hv;obtain⟨hm,hk,L,hL,aA,cd⟩:=hr.mem.get hg;simp only at aA;generalize b7:a.eval x=av at hv;cases hv with
      |vec _ _ _ _ _ L' bU _ h _=>
       rw[hL]at bU;cases bU;obtain⟨ao,cap,rfl,fX,dF⟩:=h aA.symm;clear h;obtain⟨rfl,mP⟩:=dF (by omega);refine⟨_,by simp only[execOp,ho,b7,zR hr,Sem.run_bind,oZ ht hs h0 hl];rfl,?_⟩;exact .cF k v _ 0 _ L hL (by omega) (fun _=>by rw[cd.1,Nat.add_mul,Nat.add_zero,Nat.add_assoc]) rfl
     ·rename_i key v rows y hg;refine aH.pure ?_;rintro ⟨rfl,h0,hl,rfl⟩ φ G a w hr;have hv:=hr.opd x hx;rw[hp]at hv;obtain⟨hm,hk,L,hL,aA,cd⟩:=hr.mem.get hg;simp only at aA;generalize b7:a.eval x=av at hv;cases hv with
      |vec _ _ _ _ _ L' bU _ h _=>
       rw[hL]at bU;cases bU;obtain⟨ao,cap,rfl,fX,dF⟩:=h aA.symm;clear h;obtain⟨rfl,mP⟩:=dF (by omega);refine⟨_,by simp only[execOp,ho,b7,zR hr,Sem.run_bind,oZ ht hs h0 hl];rfl,?_⟩;exact .cF k v _ 0 _ L hL (by omega) (fun _=>by rw[cd.1.1,Nat.add_mul,Nat.add_zero,Nat.add_assoc]) rfl
     ·trivial
    ·trivial
   ·trivial
  ·rename_i len e gg;have ht:=rQ gg;split
   ·rename_i sz hs;split
    ·rename_i k aj off hp;split
     ·rename_i key v cont hg;refine aH.pure ?_;rintro ⟨rfl,h0,hl⟩ φ G a w hr;have hv:=hr.opd x hx;rw[hp]at hv;obtain⟨hm,hk,L,hL,aA,_⟩:=hr.mem.get hg;simp only at aA;have e:=hv.pX hL aA;refine⟨_,by simp only[execOp,ho,e,zR hr,Sem.run_bind,lK ht hs h0 hl];rfl,.ptr k v _ _ L hL (by omega) (fun _=>rfl) rfl⟩
     ·trivial
    ·rename_i k aj i' j hp;split
     ·rename_i key v cL rows hg;split
      ·rename_i h3;obtain⟨rfl,rfl,rfl⟩:=h3;refine aH.pure ?_;rintro ⟨rfl,h0,hl⟩ φ G a w hr;have hv:=hr.opd x hx;rw[hp]at hv;obtain⟨hm,hk,L,hL,aA,cd⟩:=hr.mem.get hg;simp only at aA;have e:=hv.kf hL aA;have h1:L.sz=1:=cd.1;refine⟨_,by simp only[execOp,ho,e,zR hr,Sem.run_bind,lK ht hs h0 hl];rfl,.cF k v _ _ _ L hL (by omega) (fun _=>by rw[h1];simp[Nat.add_assoc]) rfl⟩
      ·refine aH.pure ?_;rintro ⟨rfl,h0,hl⟩ φ G a w hr;have hv:=hr.opd x hx;rw[hp]at hv;obtain⟨hm,hk,L,hL,aA,_⟩:=hr.mem.get hg;simp only at aA;have e:=hv.kf hL aA;refine⟨_,by simp only[execOp,ho,e,zR hr,Sem.run_bind,lK ht hs h0 hl];rfl,.cF k v _ _ _ L hL (by omega) (fun _=>by rw[Nat.add_assoc]) rfl⟩
     ·rename_i key v cont _ hg;refine aH.pure ?_;rintro ⟨rfl,h0,hl⟩ φ G a w hr;have hv:=hr.opd x hx;rw[hp]at hv;obtain⟨hm,hk,L,hL,aA,_⟩:=hr.mem.get hg;simp only at aA;have e:=hv.kf hL aA;refine⟨_,by simp only[execOp,ho,e,zR hr,Sem.run_bind,lK ht hs h0 hl];rfl,.cF k v _ _ _ L hL (by omega) (fun _=>by rw[Nat.add_assoc]) rfl⟩
     ·trivial
    ·rename_i d j hp;refine aH.pure ?_;rintro ⟨h0,hl⟩ φ G a w hr;have hv:=hr.opd x hx;rw[hp]at hv;generalize b7:a.eval x=av at hv;cases hv with
     |dL _ _ b off x' hb hF oL hc=>
      refine⟨.pointer (some ⟨b,off+(j+n.toNat*sz),none⟩),by simp[execOp,ho,b7,zR hr,lK ht hs h0 hl,Nat.add_assoc],.dL d _ b off x' hb hF oL hc⟩
    ·trivial
   ·trivial
  ·trivial
 ·trivial
def intBin(op:BinOp)(k:IntKind)(a b:Int):Option (Bool×D):=
 match op with
 | .add=>some (true,.int k (k.wrap (a+b)))
 | .sub=>some (true,.int k (k.wrap (a-b)))
 | .mul=>some (true,.int k (k.wrap (a*b)))
 | .quo=>some (b≠0,.int k (k.wrap (a.tdiv b)))
 | .rem=>some (b≠0,.int k (a.tmod b))
 | .and=>some (true,.int k (k.wrap (BitVec.ofInt k.bits a &&& BitVec.ofInt k.bits b).toNat))
 | .or=>some (true,.int k (k.wrap (BitVec.ofInt k.bits a ||| BitVec.ofInt k.bits b).toNat))
 | .xor=>some (true,.int k (k.wrap (BitVec.ofInt k.bits a ^^^ BitVec.ofInt k.bits b).toNat))
 | .andNot=>some (true,.int k (k.wrap (BitVec.ofInt k.bits a &&& ~~~BitVec.ofInt k.bits b).toNat))
 | .eql=>some (true,.bool (a == b))
 | .neq=>some (true,.bool (a != b))
 | .lss=>some (true,.bool (decide (a<b)))
 | .leq=>some (true,.bool (decide (a≤b)))
 | .gtr=>some (true,.bool (decide (b<a)))
 | .geq=>some (true,.bool (decide (b≤a)))
 |_=>none
def Av(op:BinOp)(k:IntKind)(a b:Int):Option (Bool×D):=
 match op with
 | .shl=>some (0≤b,.int k (k.wrap (a*2^(min b.toNat k.bits))))
 | .shr=>some (0≤b,.int k (a.fdiv (2^(min b.toNat k.bits))))
 |_=>none
def strBin(op:BinOp)(s t:List UInt8):Option (Bool×D):=
 match op with
 | .add=>some (s.length+t.length≤4611686018427387904,.str (s++t))
 | .eql=>some (true,.bool (s == t))
 | .neq=>some (true,.bool (!(s == t)))
 | .lss=>some (true,.bool (Op.bytesLess s t))
 | .leq=>some (true,.bool (Op.bytesLess s t||s == t))
 | .gtr=>some (true,.bool (!(Op.bytesLess s t||s == t)))
 | .geq=>some (true,.bool (!Op.bytesLess s t))
 |_=>none
def eqFlat:TK→D→D→Option Bool
 | .int _,.int k a,.int k' b=>if k=k' then some (a == b)else none
 | .bool,.bool a,.bool b=>some (a == b)
 | .str,.str a,.str b=>some (a == b)
 |_,_,_=>none
def eqFlats:List TK→List D→List D→Option Bool
 |[],[],[]=>some true
 |k::ks,x::xs,y::ys=>match eqFlat k x y,eqFlats ks xs ys with
  |some a,some b=>some (a&&b)
  |_,_=>none
 |_,_,_=>none
def xx(rec:TypeId→Option (List TK)):List Field→Nat→Option (List TK)
 |[],_=>some []
 |f::fs,o=>if f.name≠ "_" ∧f.offset=o then (match rec f.type with
  |some ks=>match xx rec fs (o+ks.length)with
   |some r=>some (ks++r)
   |none=>none
  |none=>none)else none
def BC(P:Program):Nat→TypeId→Option (List TK)
 |0,_=>none
 |n+1,t=>match tk P t with
  | .int k=>some [.int k]
  | .bool=>some [.bool]
  | .str=>some [.str]
  | .struct=>match P.underlying t with
   |some (.struct fs)=>if P.stoodInHeld t=false then (match xx (BC P n) fs.toList 0 with
    |some ks=>if fi P t=some ks.length then some ks else none
    |none=>none)else none
   |_=>none
  |_=>none
def cu(P:Program)(t:TypeId):Option (List TK):=
 match P.underlying t with
 |some (.struct _)=>if P.eqGuardType P.depth t=false then BC P 8 t else none
 |_=>none
def binR(P:Program)(op:BinOp)(t:TypeId)(x y:AV):dk:=
 match x,y with
 | .d (.int k a),.d (.int k' b)=>match op with
  | .shl=>.val (0≤b) (.d (.int k (k.wrap (a*2^(min b.toNat k.bits)))))
  | .shr=>.val (0≤b) (.d (.int k (a.fdiv (2^(min b.toNat k.bits)))))
  |op=>match intBin op k a b with
   |some (c,d)=>.val (k=k'∧c) (.d d)
   |none=>.no
 | .d (.str a),.d (.str b)=>match strBin op a b with
  |some (c,d)=>.val c (.d d)
  |none=>.no
 | .d (.bool a),.d (.bool b)=>match op with
  | .eql=>.val (tk P t=.bool) (.d (.bool (a == b)))
  | .neq=>.val (tk P t=.bool) (.d (.bool (a != b)))
  |_=>.no
 | .d (.agg a),.d (.agg b)=>match cu P t with
  |some ks=>match eqFlats ks a b with
   |some r=>match op with
    | .eql=>.val True (.d (.bool r))
    | .neq=>.val True (.d (.bool (!r)))
    |_=>.no
   |none=>.no
  |none=>.no
 |_,_=>.no
theorem F8(P:Program)(w:World)(op:BinOp)(t:TypeId)(x y:Operand)(a b:Value)(h:(∀c,a≠.agg c)∧a≠.nilIface):(eqGuard op t x y a b).run P w=.ok () w:=by
 unfold eqGuard;cases a<;>first|exact absurd rfl (h.1 _)|exact absurd rfl h.2|(cases op<;>simp)
theorem NY(P:Program)(w:World)(op:BinOp)(t:TypeId)(k:IntKind)(a b:Int)(c d)(h:intBin op k a b=some (c,d))(hc:c=true):∃v,(binOp op t (.int k a) (.int k b)).run P w=.ok v w∧∀F,aK w F d v:=by
 cases op<;>simp only[intBin,Option.some.injEq,Prod.mk.injEq,reduceCtorEq]at h<;>(try exact h.elim)<;>obtain⟨rfl,rfl⟩:=h<;>(try simp only[decide_eq_true_eq]at hc)<;>
  refine⟨_,by simp only[binOp,Op.intArith,Op.intDiv,Op.intBits,Op.intCmp,ne_eq,not_true_eq_false,if_false,hc,Sem.run_pure,gt_iff_lt,ge_iff_le];rfl,fun F=>by first|exact .int _ _|exact .bool _⟩
theorem xy(P:Program)(w:World)(op:BinOp)(t:TypeId)(k k':IntKind)(a b:Int)(c d)(h:Av op k a b=some (c,d))(hc:c=true):∃v,(binOp op t (.int k a) (.int k' b)).run P w=.ok v w∧∀F,aK w F d v:=by
 cases op<;>simp only[Av,Option.some.injEq,Prod.mk.injEq,reduceCtorEq]at h<;>(try exact h.elim)<;>obtain⟨rfl,rfl⟩:=h<;>(try simp only[decide_eq_true_eq]at hc)<;>
  refine⟨_,by simp[binOp,Op.shift,show ¬b<0 by omega];rfl,fun F=>by first|exact .int _ _|exact .bool _⟩
theorem NZ(P:Program)(w:World)(op:BinOp)(t:TypeId)(a b:ByteArray)(c d)(h:strBin op a.data.toList b.data.toList=some (c,d))(hc:c=true):∃v,(binOp op t (.string a) (.string b)).run P w=.ok v w∧∀F,aK w F d v:=by
 have ha:a.size=a.data.toList.length:=by rw[Array.length_toList];rfl
 have hb:b.size=b.data.toList.length:=by rw[Array.length_toList];rfl
 cases op<;>simp only[strBin,Option.some.injEq,Prod.mk.injEq,reduceCtorEq]at h<;>(try exact h.elim)<;>obtain⟨rfl,rfl⟩:=h
 case add=>
  simp only[decide_eq_true_eq]at hc;have hl:¬(9223372036854775807<((a.size:Int)+(b.size:Int))):=by omega
  refine⟨.string (a++b),?_,fun F=>.str _ _ (by simp)⟩;have vu:IntKind.i64.max=9223372036854775807:=by decide
  have:¬(((a.size+b.size:Nat):Int)>IntKind.i64.max):=by rw[vu];push_cast;omega
  simp only[binOp,Op.stringOp,this,if_false,Sem.run_pure]
 all_goals
  refine⟨_,by simp only[binOp,Op.stringOp,ByteArray.toList_eq,Sem.run_pure],fun F=>.bool _⟩
theorem N0{P:Program}{w:World}{F:Nat→Prop}{x y:D}{a b:Value}{r:Bool}{t:TypeId}(d:Nat)(h:eqFlat (tk P t) x y=some r)(hx:aK w F x a)(hy:aK w F y b):
 (Op.equalIn (d+1) t a b).run P w=.ok r w:=by
 unfold eqFlat at h;split at h
 ·rename_i k' k n k2 m nz;split at h
  ·rename_i he;subst he;simp at h;subst h;cases hx;cases hy;exact run_equalIn_int w d t k _ n m (uw nz)
  ·cases h
 ·rename_i n m nz;simp at h;subst h;cases hx;cases hy;exact run_equalIn_bool' w d t n m (De nz)
 ·rename_i n m nz;simp at h;subst h;cases hx with|str n _ hn=>cases hy with|str m _ hm=>
  subst hn;subst hm;rw[run_equalIn_string w d t n m (mR nz),ByteArray.toList_eq,ByteArray.toList_eq]
 ·cases h
theorem rR{P:Program}{w:World}{t:TypeId}{cs:Array Value}{off:Nat}{v:Value}(h:(tk P t).agg=false)(ho:tk P t≠.other)(hv:cs[off]?=some v):(part t cs off).run P w=.ok v w:=by
 simp[part,pW ho,h,hv]
theorem pH:∀{ks:List TK}{xs ys:List D}{r:Bool},eqFlats ks xs ys=some r→xs.length=ks.length∧ys.length=ks.length
 |[],[],[],_,_=>⟨rfl,rfl⟩
 |k::ks,x::xs,y::ys,r,h=>by
  simp only[eqFlats]at h;split at h
  ·rename_i h2;obtain⟨a,b⟩:=pH h2;simp[a,b]
  ·cases h
 |[],[],_::_,_,h=>by simp[eqFlats]at h
 |[],_::_,_,_,h=>by simp[eqFlats]at h
 |_::_,[],_,_,h=>by simp[eqFlats]at h
 |_::_,_::_,[],_,h=>by simp[eqFlats]at h
theorem zS:∀{a b:List TK}{xs ys:List D}{r:Bool},eqFlats (a++b) xs ys=some r→∃p q,eqFlats a (xs.take a.length) (ys.take a.length)=some p∧eqFlats b (xs.drop a.length) (ys.drop a.length)=some q∧r=(p&&q)
 |[],b,xs,ys,r,h=>⟨true,r,by simp[eqFlats],by simpa using h,by simp⟩
 |k::a,b,x::xs,y::ys,r,h=>by
  simp only[List.cons_append,eqFlats]at h;split at h
  ·rename_i u v h1 h2;obtain⟨p,q,e1,e2,e3⟩:=zS h2;cases h;refine⟨u&&p,q,?_,by simpa using e2,by rw[e3,Bool.and_assoc]⟩;simp only[List.length_cons,List.take_succ_cons,eqFlats,h1,e1]
  ·cases h
 |_::_,_,[],_,_,h=>by simp[eqFlats]at h
 |_::_,_,_::_,[],_,h=>by simp[eqFlats]at h
theorem vy{P:Program}{w:World}{F:Nat→Prop}{rec:TypeId→Option (List TK)}{dd:Nat}{xa ya:Array Value}
 (ih:∀(t:TypeId)(ks:List TK),rec t=some ks→∀(o:Nat)(xs ys:List D)(r:Bool),eqFlats ks xs ys=some r→(∀(i:Nat) c v,xs[i]?=some c→xa[o+i]?=some v→aK w F c v)→(∀(i:Nat) c v,ys[i]?=some c→ya[o+i]?=some v→aK w F c v)→
  o+xs.length≤xa.size→o+ys.length≤ya.size→∃a b,(part t xa o).run P w=.ok a w∧(part t ya o).run P w=.ok b w∧(Op.equalIn dd t a b).run P w=.ok r w):
 ∀(fs:List Field)(o:Nat)(ks:List TK),xx rec fs o=some ks→∀(xs ys:List D)(r:Bool),eqFlats ks xs ys=some r→(∀(i:Nat) c v,xs[i]?=some c→xa[o+i]?=some v→aK w F c v)→(∀(i:Nat) c v,ys[i]?=some c→ya[o+i]?=some v→aK w F c v)→
  o+xs.length≤xa.size→o+ys.length≤ya.size→(Op.eqFields dd xa ya fs).run P w=.ok r w
 |[],o,ks,hk,xs,ys,r,h,_,_,_,_=>by
  simp only[xx,Option.some.injEq]at hk;subst hk;cases xs<;>cases ys<;>simp[eqFlats]at h;subst h;simp[Op.eqFields]
 |f::fs,o,ks,hk,xs,ys,r,h,hx,hy,DW,hly=>by
  simp only[xx]at hk;split at hk
  ·rename_i hf;obtain⟨bK,F9⟩:=hf;split at hk
   ·rename_i k1 h1;split at hk
    ·rename_i k2 h2;cases hk;obtain⟨p,q,e1,e2,rfl⟩:=zS h;obtain⟨l1,l2⟩:=pH h;simp only[List.length_append]at l1 l2;obtain⟨a,b,g1,g2,g3⟩:=ih f.type k1 h1 o _ _ p e1 (fun i c v hc hv=>hx i c v (by rw[List.getElem?_take]at hc;split at hc;exact hc;cases hc) hv) (fun i c v hc hv=>hy i c v (by rw[List.getElem?_take]at hc;split at hc;exact hc;cases hc) hv) (by simp;omega) (by simp;omega);have g4:=vy ih fs (o+k1.length) k2 h2 _ _ q e2 (fun i c v hc hv=>hx (k1.length+i) c v (by rw[List.getElem?_drop]at hc;exact hc) (by rw[←Nat.add_assoc];exact hv)) (fun i c v hc hv=>hy (k1.length+i) c v (by rw[List.getElem?_drop]at hc;exact hc) (by rw[←Nat.add_assoc];exact hv)) (by simp;omega) (by simp;omega);rw[←F9]at g1 g2;simp only[Op.eqFields,bK,ne_eq,not_false_eq_true,if_true,Sem.run_bind,g1,g2,g3,Result.andThen_ok,Sem.run_ite,Sem.run_pure,g4];cases p<;>simp
    ·cases hk
   ·cases hk
  ·cases hk
theorem Ga{P:Program}{w:World}{F:Nat→Prop}(d:Nat):∀(n:Nat)(xa ya:Array Value)(t:TypeId)(ks:List TK),BC P n t=some ks→∀(o:Nat)(xs ys:List D)(r:Bool),eqFlats ks xs ys=some r→
 (∀(i:Nat) c v,xs[i]?=some c→xa[o+i]?=some v→aK w F c v)→(∀(i:Nat) c v,ys[i]?=some c→ya[o+i]?=some v→aK w F c v)→o+xs.length≤xa.size→o+ys.length≤ya.size→
 ∃a b,(part t xa o).run P w=.ok a w∧(part t ya o).run P w=.ok b w∧(Op.equalIn (d+n) t a b).run P w=.ok r w
 |0,_,_,_,_,hk,_,_,_,_,_,_,_,_,_=>by cases hk
 |n+1,xa,ya,t,ks,hk,o,xs,ys,r,h,hx,hy,DW,hly=>by
  have one:∀k:TK,tk P t=k→k.agg=false→k≠.other→ks=[k]→∃a b,(part t xa o).run P w=.ok a w∧(part t ya o).run P w=.ok b w∧(Op.equalIn (d+(n+1)) t a b).run P w=.ok r w:=by
   rintro k gu cw hk3 rfl;obtain⟨l1,l2⟩:=pH h;match xs,ys,l1,l2 with
   |[x],[y],_,_=>
    simp only[eqFlats]at h;split at h
    ·rename_i u v h1 h2;cases h;have hv:v=true:=by simpa using h2.symm
     subst hv;simp only[Bool.and_true];simp only[List.length_cons,List.length_nil]at DW hly;have e1:=rR (P:=P) (w:=w) (t:=t) (by rw[gu];exact cw) (by rw[gu];exact hk3) (show xa[o]?=some xa[o] by simp[show o<xa.size by omega]);have e2:=rR (P:=P) (w:=w) (t:=t) (by rw[gu];exact cw) (by rw[gu];exact hk3) (show ya[o]?=some ya[o] by simp[show o<ya.size by omega]);exact⟨_,_,e1,e2,N0 (d+n) (by rw[gu];exact h1) (hx 0 x _ rfl (by simp[show o<xa.size by omega])) (hy 0 y _ rfl (by simp[show o<ya.size by omega]))⟩
    ·cases h
  unfold BC at hk;split at hk
  ·rename_i k gu;exact one _ gu rfl (by simp) (by cases hk;rfl)
  ·rename_i gu;exact one _ gu rfl (by simp) (by cases hk;rfl)
  ·rename_i gu;exact one _ gu rfl (by simp) (by cases hk;rfl)
  ·rename_i gu;split at hk
   ·rename_i fs hu;split at hk
    ·rename_i hsi;split at hk
     ·rename_i QI p6;split at hk
      ·rename_i bV;cases hk;obtain⟨l1,l2⟩:=pH h;have hp:∀cs:Array Value,(part t cs o).run P w=.ok (.agg (cs.extract o (o+ks.length))) w:=by
        intro cs;have ha:=pW (P:=P) (t:=t) (w:=w) (by rw[gu];simp);simp[part,ha,gu,TK.agg,run_sizeOf bV]
       refine⟨_,_,hp xa,hp ya,?_⟩;have hf:P.fieldsOf t=fs:=by simp[Program.fieldsOf,hu]
       show (Op.equalIn (d+n+1) t _ _).run P w=_;rw[run_equalIn_struct w (d+n) t _ _ (by rw[hf];exact hu) hsi,hf];have hex:∀(cs:Array Value)(i:Nat)(v:Value),i<ks.length→(cs.extract o (o+ks.length))[0+i]?=some v→cs[o+i]?=some v:=by
        intro cs i v hi hv;rw[Nat.zero_add,Array.getElem?_extract]at hv;split at hv
        ·exact hv
        ·cases hv
       refine vy (F:=F) (fun t' QI aN o' BD FY r' h' nB nU kJ QJ=>Ga d n _ _ t' QI aN o' BD FY r' h' nB nU kJ QJ) fs.toList 0 ks p6 xs ys r h (fun i c v hc hv=>?_) (fun i c v hc hv=>?_) ?_ ?_
       ·have hi:=(List.getElem?_eq_some_iff.1 hc).1;exact hx i c v hc (hex xa i v (by omega) hv)
       ·have hi:=(List.getElem?_eq_some_iff.1 hc).1;exact hy i c v hc (hex ya i v (by omega) hv)
       ·simp;omega
       ·simp;omega
      ·cases hk
     ·cases hk
    ·cases hk
   ·cases hk
  ·cases hk
theorem JR(P:Program)(S:St)(o:Oper)(op:BinOp)(t t':TypeId)(x y:Operand)(ho:o.op=.binOp op t x y t')(hx:(S.opd x).1=true)(hy:(S.opd y).1=true):aH P S o (binR P op t (S.opd x).2 (S.opd y).2):=by
 have bP:∀(a:Act)(w:World)(v:Value),(∀c,a.eval x≠.agg c)→a.eval x≠.nilIface→(binOp op t (a.eval x) (a.eval y)).run P w=.ok v w→(execOp a.eval o).run P w=.ok (.value v) w:=by
  intro a w v h1 h2 h;simp[execOp,ho,F8 P w op t x y _ (a.eval y) ⟨h1,h2⟩,h]
 unfold binR;split
 ·rename_i k n k' m bL Gb;have bZ:∀{φ G a w},Rel φ G S a w→a.eval x=.int k n∧a.eval y=.int k' m:=fun hr=>by
   have h1:=hr.opd x hx;have h2:=hr.opd y hy;rw[bL]at h1;rw[Gb]at h2;exact⟨ju h1,ju h2⟩
  split
  ·refine aH.pure fun hc φ G a w hr=>?_;obtain⟨v,h1,h2⟩:=xy P w .shl t k k' n m _ _ rfl (decide_eq_true hc);exact⟨v,bP a w v (by simp[(bZ hr).1]) (by simp[(bZ hr).1]) (by rw[(bZ hr).1,(bZ hr).2];exact h1),.d _ _ (h2 _)⟩
  ·refine aH.pure fun hc φ G a w hr=>?_;obtain⟨v,h1,h2⟩:=xy P w .shr t k k' n m _ _ rfl (decide_eq_true hc);exact⟨v,bP a w v (by simp[(bZ hr).1]) (by simp[(bZ hr).1]) (by rw[(bZ hr).1,(bZ hr).2];exact h1),.d _ _ (h2 _)⟩
  ·split
   ·rename_i c d h;refine aH.pure ?_;rintro ⟨rfl,hc⟩ φ G a w hr;obtain⟨v,h1,h2⟩:=NY P w op t k n m c d h hc;exact⟨v,bP a w v (by simp[(bZ hr).1]) (by simp[(bZ hr).1]) (by rw[(bZ hr).1,(bZ hr).2];exact h1),.d _ _ (h2 _)⟩
   ·trivial
 ·rename_i s u bL Gb;split
  ·rename_i c d h;refine aH.pG fun hc φ G a w hr=>?_;have h1:=hr.opd x hx;have h2:=hr.opd y hy;rw[bL]at h1;rw[Gb]at h2;obtain⟨b1,e1,rfl⟩:=rP h1;obtain⟨b2,e2,rfl⟩:=rP h2;obtain⟨v,h3,h4⟩:=NZ P w op t b1 b2 c d h hc;exact⟨v,bP a w v (by simp[e1]) (by simp[e1]) (by rw[e1,e2];exact h3),.d _ _ (h4 _)⟩
  ·trivial
 ·rename_i n m bL Gb;have bZ:∀{φ G a w},Rel φ G S a w→a.eval x=.bool n∧a.eval y=.bool m:=fun hr=>by
   have h1:=hr.opd x hx;have h2:=hr.opd y hy;rw[bL]at h1;rw[Gb]at h2;exact⟨rq h1,rq h2⟩
  split
  ·refine aH.pure fun hc φ G a w hr=>⟨.bool (n == m),bP a w _ (by simp[(bZ hr).1]) (by simp[(bZ hr).1]) ?_,.d _ _ (.bool _)⟩;rw[(bZ hr).1,(bZ hr).2];simp[binOp,Op.equal,Op.maxDepth,run_equalIn_bool' w 9999 t n m (De hc)]
  ·refine aH.pure fun hc φ G a w hr=>⟨.bool (n != m),bP a w _ (by simp[(bZ hr).1]) (by simp[(bZ hr).1]) ?_,.d _ _ (.bool _)⟩;rw[(bZ hr).1,(bZ hr).2];simp[binOp,Op.equal,Op.maxDepth,run_equalIn_bool' w 9999 t n m (De hc),bne]
  ·trivial
 ·rename_i xs ys bL Gb;split
  ·rename_i ks hU;split
   ·rename_i r QC;have key:∀{φ G a w},Rel φ G S a w→∃xa ya,a.eval x=.agg xa∧a.eval y=.agg ya∧(Op.equal t (.agg xa) (.agg ya)).run P w=.ok r w∧(eqGuard op t x y (.agg xa) (.agg ya)).run P w=.ok () w:=by
     intro φ G a w hr;have h1:=hr.opd x hx;have h2:=hr.opd y hy;rw[bL]at h1;rw[Gb]at h2;generalize a.eval x=xv at h1;generalize a.eval y=yv at h2;cases h1 with|d _ _ h1=>
     cases h2 with|d _ _ h2=>
     cases h1 with|agg _ xa DW wL oI=>
     cases h2 with|agg _ ya hly hfy kW=>
     unfold cu at hU;split at hU
     ·rename_i fs hu;split at hU
      ·rename_i FU;have hf:P.fieldsOf t=fs:=by simp[Program.fieldsOf,hu]
       have nz:tk P t=.struct:=by simp[tk,hu]
       unfold BC at hU;simp only[nz,hu]at hU;split at hU
       ·rename_i hsi;split at hU
        ·rename_i QI p6;split at hU
         ·cases hU;refine⟨xa,ya,rfl,rfl,?_,?_⟩
          ·unfold Op.equal Op.maxDepth;rw[run_equalIn_struct w 9999 t xa ya (by rw[hf];exact hu) hsi,hf];exact vy (F:=Fo G φ S.mem) (fun t' QI aN o' BD FY r' h' nB nU kJ QJ=>Ga 9992 7 _ _ t' QI aN o' BD FY r' h' nB nU kJ QJ) fs.toList 0 ks p6 xs ys r QC (fun i c v hc hv=>oI i c v hc (by simpa using hv)) (fun i c v hc hv=>kW i c v hc (by simpa using hv)) (by omega) (by omega)
          ·cases op<;>simp[eqGuard,FU]
         ·cases hU
        ·cases hU
       ·cases hU
      ·cases hU
     ·cases hU
    split
    ·refine aH.pure fun _ φ G a w hr=>?_;obtain⟨xa,ya,e1,e2,h1,h2⟩:=key hr;exact⟨.bool r,by simp[execOp,ho,e1,e2,h2,binOp,h1],.d _ _ (.bool _)⟩
    ·refine aH.pure fun _ φ G a w hr=>?_;obtain⟨xa,ya,e1,e2,h1,h2⟩:=key hr;exact⟨.bool (!r),by simp[execOp,ho,e1,e2,h2,binOp,h1],.d _ _ (.bool _)⟩
    ·trivial
   ·trivial
  ·trivial
 ·trivial
def nilR(P:Program)(m:Mem)(neg:Bool)(t:TypeId)(x:AV):Value→dk
 | .slice none 0 0=>match tk P t with
  | .slice _=>match x with
   | .d (.list (_::_))=>.val true (.d (.bool neg))
   | .lit (.slice none 0 0)=>.val true (.d (.bool (!neg)))
   | .nn=>.val true (.d (.bool neg))
   | .vec k aj _ len=>match Mem.get m k with
    |some ⟨_,v,.vec _ _⟩=>.val (v=aj∧0<len) (.d (.bool neg))
    |_=>.no
   |_=>.no
  |_=>.no
 | .pointer none=>match tk P t with
  | .ptr _=>match x with
   | .lit (.pointer none)=>.val true (.d (.bool (!neg)))
   | .ptr k aj _=>match Mem.get m k with
    |some ⟨_,v,_⟩=>.val (v=aj) (.d (.bool neg))
    |_=>.no
   |_=>.no
  |_=>.no
 | .nilIface=>match tk P t with
  | .iface=>match x with
   | .gL _ _=>.val true (.d (.bool neg))
   | .err=>.val true (.d (.bool neg))
   | .lit .nilIface=>.val true (.d (.bool (!neg)))
   |_=>.no
  |_=>.no
 |_=>.no
theorem N1{φ w F d ds v}(h:aB φ w F (.d (.list (d::ds))) v):∃b off cap,v=.slice (some ⟨b,off,none⟩) (ds.length+1) cap:=by
 cases h with|d _ _ h=>
 cases h with|list _ b off cap sz vs=>exact⟨b,off,cap,rfl⟩
theorem aa7{P:Program}{t e:TypeId}(h:tk P t=.ptr e):P.underlying t=some (.pointer e):=by
 unfold tk at h;split at h<;>simp_all
theorem Uh{P:Program}{t:TypeId}(h:tk P t=.iface):∃ms,P.underlying t=some (.interface ms):=by
 unfold tk at h;split at h<;>simp_all
theorem pI{P:Program}(w:World)(d:Nat){t e:TypeId}(a:Option Addr)(n c:Nat)(h:P.underlying t=some (.slice e)):
 (Op.equalIn (d+1) t (.slice a n c) (.slice none 0 0)).run P w=.ok a.isNone w:=by
 cases a<;>simp[Op.equalIn,run_underlying h]
theorem DX{P:Program}(w:World)(d:Nat){t e:TypeId}(a:Option Addr)(h:P.underlying t=some (.pointer e)):
 (Op.equalIn (d+1) t (.pointer a) (.pointer none)).run P w=.ok a.isNone w:=by
 cases a<;>simp[Op.equalIn,run_underlying h]
theorem zT{P:Program}(w:World)(d:Nat){t:TypeId}{ms}(tx:TypeId)(v:Value)(h:P.underlying t=some (.interface ms)):
 (Op.equalIn (d+1) t (.iface tx v) .nilIface).run P w=.ok false w:=by
 simp[Op.equalIn,run_underlying h]
theorem Gc{P:Program}(w:World)(d:Nat){t:TypeId}{ms}(h:P.underlying t=some (.interface ms)):
 (Op.equalIn (d+1) t .nilIface .nilIface).run P w=.ok true w:=by
 simp[Op.equalIn,run_underlying h]
theorem ZA{P:Program}{o:Oper}{neg:Bool}{t t':TypeId}{x:Operand}{v:Value}(ho:o.op=.binOp (if neg then .neq else .eql) t x (.const v) t'){a:Act}{w:World}{b:Bool}
 (h1:∀c,a.eval x≠.agg c) (hvn:v=.slice none 0 0∨v=.pointer none∨v=.nilIface) (xz:(∀k n,a.eval x≠.int k n)∧(∀k n,a.eval x≠.float k n)∧(∀k n m,a.eval x≠.complex k n m)∧(∀s,a.eval x≠.string s))
 (h:(Op.equalIn 10000 t (a.eval x) v).run P w=.ok b w):(execOp a.eval o).run P w=.ok (.value (.bool (if neg then !b else b))) w:=by
 have e:a.eval (.const v)=v:=rfl;have hg:(eqGuard (if neg then .neq else .eql) t x (.const v) (a.eval x) v).run P w=.ok () w:=by
  unfold eqGuard;generalize a.eval x=u at h1⊢;rcases hvn with rfl|rfl|rfl<;>cases u<;>cases neg<;>simp
 have hb:(binOp (if neg then .neq else .eql) t (a.eval x) v).run P w=.ok (.bool (if neg then !b else b)) w:=by
  generalize a.eval x=u at h xz⊢;obtain⟨g1,g2,g3,g4⟩:=xz;rcases hvn with rfl|rfl|rfl<;>cases u<;>cases neg<;>simp_all [binOp,Op.equal,Op.maxDepth]
 simp only[execOp,ho,e,Sem.run_bind,hg,Result.andThen_ok,hb,Sem.run_pure]
theorem JS(P:Program)(S:St)(o:Oper)(neg:Bool)(t t':TypeId)(x:Operand)(v:Value)(ho:o.op=.binOp (if neg then .neq else .eql) t x (.const v) t')(hx:(S.opd x).1=true):aH P S o (nilR P S.mem neg t (S.opd x).2 v):=by
 have go:∀{φ G a w}{b:Bool},Rel φ G S a w→(∀c,a.eval x≠.agg c)→(v=.slice none 0 0∨v=.pointer none∨v=.nilIface)→((∀k n,a.eval x≠.int k n)∧(∀k n,a.eval x≠.float k n)∧(∀k n m,a.eval x≠.complex k n m)∧(∀s,a.eval x≠.string s))→
  (Op.equalIn 10000 t (a.eval x) v).run P w=.ok b w→∃v',(execOp a.eval o).run P w=.ok (.value v') w∧aB φ w (Fo G φ S.mem) (.d (.bool (if neg then !b else b))) v':=by
  intro φ G a w b hr h1 h2 h3 h4;exact⟨_,ZA ho h1 h2 h3 h4,.d _ _ (.bool _)⟩
 have eb:∀{b:Bool},(if neg=true then !b else b)=(if neg=true then !b else b):=rfl;unfold nilR;split
 ·split
  ·rename_i e ht;have ux:=fJ ht;split
   ·rename_i d ds bL;refine aH.pG fun _ φ G a w hr=>?_;have hv:=hr.opd x hx;rw[bL]at hv;obtain⟨b,off,cap,bZ⟩:=N1 hv;have:=go (b:=false) hr (by simp[bZ]) (.inl rfl) (by simp[bZ]) (by rw[bZ];exact pI w 9999 _ _ _ ux);cases neg<;>simpa using this
   ·rename_i bL;refine aH.pG fun _ φ G a w hr=>?_;have hv:=hr.opd x hx;rw[bL]at hv;generalize bZ:a.eval x=u at hv;cases hv;have:=go (b:=true) hr (by simp[bZ]) (.inl rfl) (by simp[bZ]) (by rw[bZ];exact pI w 9999 _ _ _ ux);cases neg<;>simpa using this
   ·rename_i bL;refine aH.pG fun _ φ G a w hr=>?_;have hv:=hr.opd x hx;rw[bL]at hv;generalize bZ:a.eval x=u at hv;cases hv;have:=go (b:=false) hr (by simp[bZ]) (.inl rfl) (by simp[bZ]) (by rw[bZ];exact pI w 9999 _ _ _ ux);cases neg<;>simpa using this
   ·rename_i k aj off len bL;split
    ·rename_i key v' sz rows hg;refine aH.pure ?_;rintro ⟨rfl,hlen⟩ φ G a w hr;have hv:=hr.opd x hx;rw[bL]at hv;obtain⟨hm,hk,L,hL,aA,cd⟩:=hr.mem.get hg;generalize bZ:a.eval x=u at hv;cases hv with
     |vec _ _ _ _ _ L' bU _ h _=>
      rw[hL]at bU;cases bU;obtain⟨ao,cap,rfl,fX,dF⟩:=h aA.symm;obtain⟨rfl,_⟩:=dF (by omega);have:=go (b:=false) hr (by simp[bZ]) (.inl rfl) (by simp[bZ]) (by rw[bZ];exact pI w 9999 _ _ _ ux);cases neg<;>simpa using this
    ·trivial
   ·trivial
  ·trivial
 ·split
  ·rename_i e ht;have ux:=aa7 ht;split
   ·rename_i bL;refine aH.pG fun _ φ G a w hr=>?_;have hv:=hr.opd x hx;rw[bL]at hv;generalize bZ:a.eval x=u at hv;cases hv;have:=go (b:=true) hr (by simp[bZ]) (.inr (.inl rfl)) (by simp[bZ]) (by rw[bZ];exact DX w 9999 _ ux);cases neg<;>simpa using this
   ·rename_i k aj off bL;split
    ·rename_i key v' c hg;refine aH.pure ?_;rintro rfl φ G a w hr;have hv:=hr.opd x hx;rw[bL]at hv;obtain⟨hm,hk,L,hL,aA,cd⟩:=hr.mem.get hg;have bZ:=hv.pX hL aA;have:=go (b:=false) hr (by simp[bZ]) (.inr (.inl rfl)) (by simp[bZ]) (by rw[bZ];exact DX w 9999 _ ux);cases neg<;>simpa using this
    ·trivial
   ·trivial
  ·trivial
 ·split
  ·rename_i ht;obtain⟨ms,ux⟩:=Uh ht;split
   ·rename_i ti xi bL;refine aH.pG fun _ φ G a w hr=>?_;have hv:=hr.opd x hx;rw[bL]at hv;generalize bZ:a.eval x=u at hv;cases hv;have:=go (b:=false) hr (by simp[bZ]) (.inr (.inr rfl)) (by simp[bZ]) (by rw[bZ];exact zT w 9999 _ _ ux);cases neg<;>simpa using this
   ·rename_i bL;refine aH.pG fun _ φ G a w hr=>?_;have hv:=hr.opd x hx;rw[bL]at hv;generalize bZ:a.eval x=u at hv;cases hv;have:=go (b:=false) hr (by simp[bZ]) (.inr (.inr rfl)) (by simp[bZ]) (by rw[bZ];exact zT w 9999 _ _ ux);cases neg<;>simpa using this
   ·rename_i bL;refine aH.pG fun _ φ G a w hr=>?_;have hv:=hr.opd x hx;rw[bL]at hv;generalize bZ:a.eval x=u at hv;cases hv;have:=go (b:=true) hr (by simp[bZ]) (.inr (.inr rfl)) (by simp[bZ]) (by rw[bZ];exact Gc w 9999 ux);cases neg<;>simpa using this
   ·trivial
  ·trivial
 ·trivial
def iP(s:List UInt8)(i:Nat):UInt8:=s[i]?.getD 0
def indexVR(P:Program)(t:TypeId)(x i:AV):dk:=
 match i with
 | .d (.int _ n)=>match x with
  | .d (.str s)=>.val (tk P t=.str∧0≤n∧n.toNat<s.length) (.d (.int .u8 (iP s n.toNat).toNat))
  | .d (.agg cs)=>match tk P t with
   | .arr len e=>match (tk P e).agg,fi P e with
    |false,some 1=>.val (0≤n∧n.toNat<len∧len≤cs.length∧tk P e≠.other) (.d (D.at cs n.toNat))
    |true,some sz=>.val (0≤n∧n.toNat<len∧len*sz≤cs.length) (.d (.agg ((cs.drop (n.toNat*sz)).take sz)))
    |_,_=>.no
   |_=>.no
  |_=>.no
 |_=>.no
theorem QK(b:ByteArray)(i:Nat):b[i]?=b.data.toList[i]?:=by
 by_cases h:i<b.size
 ·have h':i<b.data.size:=h;rw[getElem?_pos b i h,Array.getElem?_toList,getElem?_pos b.data i h'];rfl
 ·have h':¬i<b.data.size:=h;rw[getElem?_neg b i h,Array.getElem?_toList,getElem?_neg b.data i h']
theorem Gd{P:Program}{w:World}{t:TypeId}{b:ByteArray}{k:IntKind}{n:Int}(ht:tk P t=.str)(h0:0≤n)(hl:n.toNat<b.data.toList.length):
 (Instr.index t (.string b) (.int k n)).run P w=.ok (.int .u8 (iP b.data.toList n.toNat).toNat) w:=by
 have e:b[n.toNat]?=some (iP b.data.toList n.toNat):=by rw[QK];simp only[iP];rw[List.getElem?_eq_getElem hl];rfl
 simp only[Instr.index,asIntOf,Sem.run_bind,Sem.run_pure,Result.andThen_ok,run_underlying (mR ht),h0,if_true,e]
theorem DY{P:Program}{w:World}{t:TypeId}{cs:Array Value}{off n:Nat}(h:(tk P t).agg=true)(hs:fi P t=some n):(part t cs off).run P w=.ok (.agg (cs.extract off (off+n))) w:=by
 have ho:tk P t≠.other:=by intro h';rw[h']at h;cases h
 simp[part,pW ho,h,run_sizeOf hs]
theorem wO{w F}{cs:List D}{a:Array Value}(h:aK w F (.agg cs) (.agg a))(o n:Nat)(hle:o+n≤cs.length):aK w F (.agg ((cs.drop o).take n)) (.agg (a.extract o (o+n))):=by
 have hc:=h.cells;cases h with|agg _ _ hl hf hr=>
 have h2:=aK.nu (w:=w) (F:=F) (cs:=(cs.drop o).take n) (vs:=(a.toList.drop o).take n) (by simp;omega)
  (fun v hv=>hc.2.1 v (by simpa [Value.cells]using List.mem_of_mem_drop (List.mem_of_mem_take hv)))
  (fun i c v h1 h2=>by
   rw[List.getElem?_take]at h1 h2;split at h1
   ·rename_i hi;simp only[hi,if_true]at h2;exact hr (o+i) c v (by simpa using h1) (by simpa using h2)
   ·cases h1)
 have e:((a.toList.drop o).take n).toArray=a.extract o (o+n):=by
  apply Array.ext';simp
 rwa [e]at h2
theorem QL(P:Program)(S:St)(o:Oper)(t:TypeId)(x i:Operand)(ho:o.op=.index t x i)(hx:(S.opd x).1=true)(hi:(S.opd i).1=true):aH P S o (indexVR P t (S.opd x).2 (S.opd i).2):=by
 unfold indexVR;split
 ·rename_i k n QH;split
  ·rename_i s bL;refine aH.pure ?_;rintro ⟨ht,h0,hl⟩ φ G a w hr;have h1:=hr.opd x hx;have h2:=hr.opd i hi;rw[bL]at h1;rw[QH]at h2;obtain⟨b,e1,rfl⟩:=rP h1;exact⟨_,by simp only[execOp,ho,e1,ju h2,Sem.run_bind,Gd ht h0 hl];rfl,.d _ _ (.int _ _)⟩
  ·rename_i cs bL;split
   ·rename_i len e gg;split
    ·rename_i p7 hs;refine aH.pure ?_;rintro ⟨h0,hl,hle,bK⟩ φ G a w hr;have h1:=hr.opd x hx;have h2:=hr.opd i hi;rw[bL]at h1;rw[QH]at h2;generalize b7:a.eval x=av at h1;cases h1 with|d _ _ h1=>
     cases h1 with|agg _ xa DW wL oI=>
     have hn:n<(len:Int):=by omega
     have xz:n.toNat<xa.size:=by omega
     refine⟨xa[n.toNat],?_,.d _ _ (oI n.toNat _ _ (jm (by omega)) (by simp[xz]))⟩;have hp:=rR (P:=P) (w:=w) (t:=e) (cs:=xa) (off:=n.toNat*1) p7 bK (v:=xa[n.toNat]) (by simp[xz]);simp only[Nat.mul_one]at hp;simp[execOp,ho,b7,ju h2,Instr.index,asIntOf,run_underlying (rQ gg),h0,hn,run_sizeOf hs,hp]
    ·rename_i sz p7 hs;refine aH.pure ?_;rintro ⟨h0,hl,hle⟩ φ G a w hr;have h1:=hr.opd x hx;have h2:=hr.opd i hi;rw[bL]at h1;rw[QH]at h2;generalize b7:a.eval x=av at h1;cases h1 with|d _ _ h1=>
     have qJ:=h1;cases h1 with|agg _ xa DW wL oI=>
     have hn:n<(len:Int):=by omega
     have Ui:n.toNat*sz+sz≤cs.length:=by
      have:(n.toNat+1)*sz≤len*sz:=Nat.mul_le_mul_right _ hl;rw[Nat.add_mul]at this;omega
     refine⟨_,?_,.d _ _ (wO qJ (n.toNat*sz) sz Ui)⟩;have hp:=DY (P:=P) (w:=w) (t:=e) (cs:=xa) (off:=n.toNat*sz) p7 hs;simp[execOp,ho,b7,ju h2,Instr.index,asIntOf,run_underlying (rQ gg),h0,hn,run_sizeOf hs,hp]
    ·trivial
   ·trivial
  ·trivial
 ·trivial
def bound(m:Option AV)(N3:Int):Option Int:=
 match m with
 |none=>some N3
 |some (.d (.int _ n))=>some n
 |some _=>none
def sliceR(P:Program)(m:Mem)(t:TypeId)(x:AV)(lo hi:Option AV):dk:=
 match x with
 | .d (.str s)=>match bound lo 0,bound hi s.length with
  |some l,some h=>.val (tk P t=.str∧0≤l∧l≤h∧h.toNat≤s.length) (.d (.str ((s.take h.toNat).drop l.toNat)))
  |_,_=>.no
 | .d (.list xs)=>match tk P t with
  | .slice e=>match fi P e,bound lo 0,bound hi xs.length with
   |some sz,some l,some h=>.val (0≤l∧l≤h∧h.toNat≤xs.length∧(∀d∈xs,d.size=sz)) (.d (.list ((xs.take h.toNat).drop l.toNat)))
   |_,_,_=>.no
  |_=>.no
 | .vec k aj off len=>match tk P t,Mem.get m k with
  | .slice e,some ⟨_,v,.vec cL _⟩=>match fi P e,bound lo 0,bound hi len with
   |some sz,some l,some h=>.val (v=aj∧cL=sz∧0≤l∧l≤h∧h.toNat≤len) (.vec k aj (off+l.toNat) (h.toNat-l.toNat))
   |_,_,_=>.no
  | .slice e,some ⟨_,v,.vv _ _⟩=>match fi P e,bound lo 0,bound hi len with
   |some sz,some l,some h=>.val (v=aj∧sz=1∧0≤l∧l≤h∧h.toNat≤len) (.vec k aj (off+l.toNat) (h.toNat-l.toNat))
   |_,_,_=>.no
  |_,_=>.no
 | .cF k aj i j=>match tk P t,Mem.get m k with
  | .arr n e,some ⟨_,v,.vec cL rows⟩=>match fi P e,bound lo 0,bound hi n with
   |some sz,some l,some h=>.val (v=aj∧cL=sz∧i=0∧j=0∧n≤rows.length∧0≤l∧l≤h∧h.toNat≤n) (.vec k aj l.toNat (h.toNat-l.toNat))
   |_,_,_=>.no
  |_,_=>.no
 | .ptr k aj off=>match tk P t,Mem.get m k with
  | .arr n e,some ⟨_,v,.box cs⟩=>match fi P e,bound lo 0,bound hi n with
   |some sz,some l,some h=>.val (v=aj∧sz=1∧off+n≤cs.length∧0≤l∧l≤h∧h.toNat≤n) (.vec k aj (off+l.toNat) (h.toNat-l.toNat))
   |_,_,_=>.no
  |_,_=>.no
 |_=>.no
theorem iB{P:Program}{w:World}{isS:Bool}{len cap:Nat}{lo hi:Option Value}{l h:Int}
 (cJ:(lo=none∧l=0)∨∃k,lo=some (.int k l)) (nC:(hi=none∧h=len)∨∃k,hi=some (.int k h)) (h0:0≤l) (hle:l≤h) (di:h.toNat≤cap):
 (Instr.sliceBounds isS len cap lo hi none).run P w=.ok (l.toNat,h.toNat,cap) w:=by
 have h1:h≤(cap:Int):=by omega
 have h2:0≤h:=by omega
 have h3:l≤(h.toNat:Int):=by omega
 rcases cJ with ⟨rfl,rfl⟩|⟨k,rfl⟩<;>rcases nC with ⟨rfl,rfl⟩|⟨k',rfl⟩<;>
  simp_all [Instr.sliceBounds,Instr.sliceBound,asIntOf]
theorem gN{S:St}{φ G a w}(hr:Rel φ G S a w){x:Option Operand}{N3 n:Int}(hx:∀y,x=some y→(S.opd y).1=true)(h:bound (x.map fun y=>(S.opd y).2) N3=some n):
 (x.map a.eval=none∧n=N3)∨∃k,x.map a.eval=some (.int k n):=by
 cases x with
 |none=>simp[bound]at h;exact .inl ⟨rfl,h.symm⟩
 |some y=>
  right;simp only[Option.map_some]at h⊢;unfold bound at h;split at h
  ·rename_i heq;cases heq
  ·rename_i k m heq;simp at h heq;subst h;have:=hr.opd y (hx y rfl);rw[heq]at this;exact⟨k,by rw[ju this]⟩
  ·cases h
theorem N4{w F xs v sz}(h:aK w F (.list xs) v)(hs:∀d∈xs,d.size=sz){l hh:Nat}(hle:l≤hh)(hlen:hh≤xs.length):
 ∃ao cap,v=.slice ao xs.length cap∧xs.length≤cap∧(ao=none→cap=0)∧∀xp QM,(QM=none→xp=0)→hh-l≤xp→(QM=ao.map (·.add (l*sz))∨(hh-l=0))→aK w F (.list ((xs.take hh).drop l)) (.slice QM (hh-l) xp):=by
 have hl:((xs.take hh).drop l).length=hh-l:=by simp;omega
 generalize hx:D.list xs=x at h;cases h with
 |nil a c fm=>
  simp at hx;subst hx;refine⟨a,c,rfl,by simp,fm,fun xp QM sK _ _=>?_⟩;have h1:hh-l=0:=by simp at hlen;omega
  rw[h1];simp;exact .nil _ _ sK
 |list ys b off cap cL vs di hb hF bV hv hc=>
  simp at hx;subst hx;refine⟨_,cap,rfl,di,by simp,fun xp QM sK dQ Ww=>?_⟩;by_cases hz:hh-l=0
  ·have e:(xs.take hh).drop l=[]:=List.eq_nil_of_length_eq_zero (by omega);rw[e,hz];exact .nil _ _ sK
  ·have Ww:=Ww.resolve_right hz;have hss:cL=sz:=by
    have fH:0<xs.length:=by omega
    rw[←bV xs[0] (List.getElem_mem fH),hs xs[0] (List.getElem_mem fH)]
   subst hss;simp only[Option.map_some,fj]at Ww;rw[Ww,←hl];refine .list _ b (off+l*cL) xp cL (fun i=>vs (l+i)) (by rw[hl];exact dQ) hb hF (fun d hd=>bV d (List.mem_of_mem_take (List.mem_of_mem_drop hd))) (fun i d hd=>?_) (fun i j c hi hj=>?_)
   ·rw[List.getElem?_drop,List.getElem?_take]at hd;split at hd
    ·exact hv _ d hd
    ·cases hd
   ·have:=hc (l+i) j c (by rw[hl]at hi;omega) hj;rw[Nat.add_mul,←Nat.add_assoc]at this;exact this
 |_=>simp at hx
theorem Uj(P:Program)(S:St)(o:Oper)(t:TypeId)(x:Operand)(lo hi:Option Operand)(ho:o.op=.slice t x lo hi none)(hx:(S.opd x).1=true)(cJ:∀y,lo=some y→(S.opd y).1=true)(nC:∀y,hi=some y→(S.opd y).1=true):
 aH P S o (sliceR P S.mem t (S.opd x).2 (lo.map fun y=>(S.opd y).2) (hi.map fun y=>(S.opd y).2)):=by
 unfold sliceR;split
 ·rename_i s bL;split
  ·rename_i l h hl hh;refine aH.pure ?_;rintro ⟨ht,h0,hle,di⟩ φ G a w hr;have h1:=hr.opd x hx;rw[bL]at h1;obtain⟨b,e1,rfl⟩:=rP h1;have oP:b.size=b.data.toList.length:=by rw[Array.length_toList];rfl
   have xA:=iB (P:=P) (w:=w) (isS:=false) (len:=b.size) (cap:=b.size) (gN hr cJ hl) (by have:=gN hr nC hh;rw[←oP]at this;exact this) h0 hle (by rw[oP];exact di);refine⟨.string (b.extract l.toNat h.toNat),?_,.d _ _ (.str _ _ ?_)⟩
   ·simp[execOp,ho,e1,Instr.sliceAt,Instr.slice,run_underlying (mR ht),xA]
   ·simp[ByteArray.data_extract,List.drop_take]
  ·trivial
 ·rename_i xs bL;split
  ·rename_i e gg;split
   ·rename_i sz l h hs hl hh;refine aH.pure ?_;rintro ⟨h0,hle,di,bV⟩ φ G a w hr;have h1:=hr.opd x hx;rw[bL]at h1;generalize b7:a.eval x=av at h1;cases h1 with|d _ _ h1=>
    obtain⟨ao,cap,rfl,hxc,fm,lC⟩:=N4 h1 bV (l:=l.toNat) (hh:=h.toNat) (by omega) di;have hc:h.toNat≤cap:=by omega
    have xA:=iB (P:=P) (w:=w) (isS:=true) (len:=xs.length) (cap:=cap) (gN hr cJ hl) (gN hr nC hh) h0 hle hc;refine⟨.slice (if cap=l.toNat then ao else ao.map (·.add (l.toNat*sz))) (h.toNat-l.toNat) (cap-l.toNat),?_,.d _ _ (lC _ _ (fun hn=>?_) (by omega) ?_)⟩
    ·simp[execOp,ho,b7,Instr.sliceAt,Instr.slice,run_underlying (fJ gg),xA,run_sizeOf hs]
    ·have:ao=none:=by split at hn<;>simp_all
     have:=fm this;omega
    ·by_cases aO:cap=l.toNat
     ·exact .inr (by omega)
     ·exact .inl (by simp[aO])
   ·trivial
  ·trivial
 ·rename_i k aj off len bL;split
  ·rename_i e key v cL rows gg hg;split
   ·rename_i sz l h hs hl hh;refine aH.pure ?_;rintro ⟨rfl,rfl,h0,hle,di⟩ φ G a w hr;have h1:=hr.opd x hx;rw[bL]at h1;obtain⟨hm,hk,L,hL,aA,cd⟩:=hr.mem.get hg;simp only at aA;generalize b7:a.eval x=av at h1;cases h1 with
    |vec _ _ _ _ _ L' bU _ xB _=>
     rw[hL]at bU;cases bU;obtain⟨ao,cap,rfl,fX,dF⟩:=xB aA.symm;clear xB;have xA:=iB (P:=P) (w:=w) (isS:=true) (len:=len) (cap:=cap) (gN hr cJ hl) (gN hr nC hh) h0 hle (by omega);refine⟨.slice (if cap=l.toNat then ao else ao.map (·.add (l.toNat*cL))) (h.toNat-l.toNat) (cap-l.toNat),?_,?_⟩
     ·simp[execOp,ho,b7,Instr.sliceAt,Instr.slice,run_underlying (fJ gg),xA,run_sizeOf hs]
     ·refine .vec k v _ _ _ L hL (by omega) (fun _=>⟨_,_,rfl,by omega,fun hc=>?_⟩) rfl;obtain⟨rfl,mP⟩:=dF (by omega);refine⟨?_,by omega⟩;rw[if_neg (by omega)];simp only[Option.map_some,fj,cd.1,Nat.add_mul,Nat.add_assoc]
   ·trivial
  ·rename_i e key v rows y gg hg;split
   ·rename_i sz l h hs hl hh;refine aH.pure ?_;rintro ⟨rfl,rfl,h0,hle,di⟩ φ G a w hr;have h1:=hr.opd x hx;rw[bL]at h1;obtain⟨hm,hk,L,hL,aA,cd⟩:=hr.mem.get hg;simp only at aA;generalize b7:a.eval x=av at h1;cases h1 with
    |vec _ _ _ _ _ L' bU _ xB _=>
     rw[hL]at bU;cases bU;obtain⟨ao,cap,rfl,fX,dF⟩:=xB aA.symm;clear xB;have xA:=iB (P:=P) (w:=w) (isS:=true) (len:=len) (cap:=cap) (gN hr cJ hl) (gN hr nC hh) h0 hle (by omega);refine⟨.slice (if cap=l.toNat then ao else ao.map (·.add (l.toNat*1))) (h.toNat-l.toNat) (cap-l.toNat),?_,?_⟩
     ·simp[execOp,ho,b7,Instr.sliceAt,Instr.slice,run_underlying (fJ gg),xA,run_sizeOf hs]
     ·refine .vec k v _ _ _ L hL (by omega) (fun _=>⟨_,_,rfl,by omega,fun hc=>?_⟩) rfl;obtain⟨rfl,mP⟩:=dF (by omega);refine⟨?_,by omega⟩;rw[if_neg (by omega)];simp only[Option.map_some,fj,cd.1.1,Nat.add_mul,Nat.add_assoc]
   ·trivial
  ·trivial
 ·rename_i k aj i j bL;split
  ·rename_i n e key v cL rows gg hg;split
   ·rename_i sz l h hs hl hh;refine aH.pure ?_;rintro ⟨rfl,rfl,rfl,rfl,hn,h0,hle,di⟩ φ G a w hr;have h1:=hr.opd x hx;rw[bL]at h1;obtain⟨hm,hk,L,hL,aA,cd⟩:=hr.mem.get hg;simp only at aA;have e1:=h1.kf hL aA;have xA:=iB (P:=P) (w:=w) (isS:=false) (len:=n) (cap:=n) (gN hr cJ hl) (gN hr nC hh) h0 hle di;refine⟨.slice (some (if n=l.toNat then ⟨L.dz,L.base,none⟩else ⟨L.dz,L.base+l.toNat*cL,none⟩)) (h.toNat-l.toNat) (n-l.toNat),?_,?_⟩
    ·simp[execOp,ho,e1,Instr.sliceAt,Instr.sureAddr,run_underlying (rQ gg),xA,run_sizeOf hs,fj]
    ·refine .vec k v _ _ _ L hL (by omega) (fun _=>⟨_,_,rfl,by omega,fun hc=>⟨?_,by have:=cd.2.1;omega⟩⟩) rfl;rw[if_neg (by omega),cd.1]
   ·trivial
  ·trivial
 ·rename_i k aj off bL;split
  ·rename_i n e key v cs gg hg;split
   ·rename_i sz l h hs hl hh;refine aH.pure ?_;rintro ⟨rfl,rfl,hn,h0,hle,di⟩ φ G a w hr;have h1:=hr.opd x hx;rw[bL]at h1;obtain⟨hm,hk,L,hL,aA,⟨z1,z2,z3⟩,_⟩:=hr.mem.get hg;simp only at aA;have e1:=h1.pX hL aA;have xA:=iB (P:=P) (w:=w) (isS:=false) (len:=n) (cap:=n) (gN hr cJ hl) (gN hr nC hh) h0 hle di;refine⟨.slice (some (if n=l.toNat then ⟨L.dz,off,none⟩else ⟨L.dz,off+l.toNat,none⟩)) (h.toNat-l.toNat) (n-l.toNat),?_,?_⟩
    ·simp[execOp,ho,e1,Instr.sliceAt,Instr.sureAddr,run_underlying (rQ gg),xA,run_sizeOf hs,fj]
    ·refine .vec k v _ _ _ L hL (by omega) (fun _=>⟨_,_,rfl,by omega,fun hc=>⟨?_,by omega⟩⟩) rfl;rw[if_neg (by omega),z1,z2];simp
   ·trivial
  ·trivial
 ·trivial
def pickD(t:Bool)(x y:D):D:=
 match x,y with
 | .bool a,.bool b=>.bool (bif t then a else b)
 |x,y=>bif t then x else y
def pickAV(t:Bool)(x y:AV):AV:=
 match x,y with
 | .d x,.d y=>.d (pickD t x y)
 |x,y=>bif t then x else y
def pickR(c a b:Bool×AV):dk:=
 match c.2 with
 | .d (.bool t)=>.val (c.1=true∧(t=true→a.1=true)∧(t=false→b.1=true)) (pickAV t a.2 b.2)
 |_=>.no
theorem ZB(P:Program)(S:St)(o:Oper)(c x y:Operand)(ho:o.op=.pick c x y):aH P S o (pickR (S.opd c) (S.opd x) (S.opd y)):=by
 unfold pickR;split
 ·rename_i t hc;refine aH.pure ?_;rintro ⟨h1,h2,h3⟩ φ G a w hr;have mQ:=hr.opd c h1;rw[hc]at mQ;have e:=rq mQ;cases t
  ·have hy:=hr.opd y (h3 rfl);refine⟨a.eval y,by simp[execOp,ho,e,asBool],?_⟩;have e2:pickAV false (S.opd x).2 (S.opd y).2=(S.opd y).2:=by
    unfold pickAV;split
    ·rename_i u v h5 h6;rw[h6];congr 1;unfold pickD;split<;>rfl
    ·rfl
   rw[e2];exact hy
  ·have hx:=hr.opd x (h2 rfl);refine⟨a.eval x,by simp[execOp,ho,e,asBool],?_⟩;have e2:pickAV true (S.opd x).2 (S.opd y).2=(S.opd x).2:=by
    unfold pickAV;split
    ·rename_i u v h5 h6;rw[h5];congr 1;unfold pickD;split<;>rfl
    ·rfl
   rw[e2];exact hx
 ·trivial
theorem ZC(P:Program)(S:St)(o:Oper)(x:Operand)(ho:o.op=.move x∨o.op=.assign x)(hx:(S.opd x).1=true):aH P S o (.val True (S.opd x).2):=by
 refine aH.pure fun _ φ G a w hr=>⟨a.eval x,?_,hr.opd x hx⟩;rcases ho with ho|ho<;>simp[execOp,ho]
def unR(op:UnOp)(x:AV):dk:=
 match op,x with
 | .not,.d (.bool b)=>.val True (.d (.bool (!b)))
 | .neg,.d (.int k n)=>.val True (.d (.int k (k.wrap (0-n))))
 | .xor,.d (.int k n)=>.val True (.d (.int k (k.wrap (BitVec.ofInt k.bits (if k.signed then-1 else k.max) ^^^ BitVec.ofInt k.bits n).toNat)))
 |_,_=>.no
theorem af0(P:Program)(S:St)(o:Oper)(op:UnOp)(t:TypeId)(x:Operand)(ho:o.op=.unOp op t x)(hx:(S.opd x).1=true):aH P S o (unR op (S.opd x).2):=by
 unfold unR;split
 ·rename_i b bL;refine aH.pure fun _ φ G a w hr=>?_;have h1:=hr.opd x hx;rw[bL]at h1;exact⟨.bool (!b),by simp[execOp,ho,rq h1,Op.unary],.d _ _ (.bool _)⟩
 ·rename_i k n bL;refine aH.pure fun _ φ G a w hr=>?_;have h1:=hr.opd x hx;rw[bL]at h1;exact⟨.int k (k.wrap (0-n)),by simp only[execOp,ho,ju h1,Op.unary,Op.intArith,Sem.run_bind,Sem.run_pure,Result.andThen_ok],.d _ _ (.int _ _)⟩
 ·rename_i k n bL;refine aH.pure fun _ φ G a w hr=>?_;have h1:=hr.opd x hx;rw[bL]at h1;exact⟨_,by simp only[execOp,ho,ju h1,Op.unary,Op.intBits,Sem.run_bind,Sem.run_pure,Result.andThen_ok],.d _ _ (.int _ _)⟩
 ·trivial
def extractR(i:Nat)(x:AV):dk:=
 match x with
 | .aW vs=>match vs[i]? with
  |some v=>.val True v
  |none=>.no
 |_=>.no
theorem N5(P:Program)(S:St)(o:Oper)(x:Operand)(i:Nat)(ho:o.op=.extract x i)(hx:(S.opd x).1=true):aH P S o (extractR i (S.opd x).2):=by
 unfold extractR;split
 ·rename_i vs bL;split
  ·rename_i v hv;refine aH.pure fun _ φ G a w hr=>?_;have h1:=hr.opd x hx;rw[bL]at h1;generalize b7:a.eval x=av at h1;cases h1 with|aW _ xa hl hc=>
   have hi:i<xa.size:=by rw[←hl];exact (List.getElem?_eq_some_iff.1 hv).1
   exact⟨xa[i],by simp[execOp,ho,b7,Instr.extract,hi],hc i v _ hv (by simp[hi])⟩
  ·trivial
 ·trivial
def makeFuncR(f:Fn)(first cap:List AV):dk:=
 match f,first with
 | .func f,[]=>.val (f<bnB) (.fn f cap)
 | .func f,x::r=>match cap with
  |[]=>.val True (.fn (f+bnB) (x::r))
  |_=>.no
 |_,_=>.no
theorem Jj(P:Program)(S:St)(o:Oper)(f:Fn)(first cap:Array Operand)(ho:o.op=.makeFunc f first cap)(hf:∀x∈first.toList,(S.opd x).1=true)(hc:∀x∈cap.toList,(S.opd x).1=true):aH P S o (makeFuncR f (first.toList.map fun x=>(S.opd x).2) (cap.toList.map fun x=>(S.opd x).2)):=by
 have key:∀(l:Array Operand),(∀x∈l.toList,(S.opd x).1=true)→∀φ G a w,Rel φ G S a w→∀(i:Nat)(c:AV)(v:Value),(l.toList.map fun x=>(S.opd x).2)[i]?=some c→(l.map a.eval)[i]?=some v→aB φ w (Fo G φ S.mem) c v:=by
  intro l hl φ G a w hr i c v h1 h2;simp only[List.getElem?_map,Array.getElem?_toList,Option.map_eq_some_iff]at h1;simp only[Array.getElem?_map,Option.map_eq_some_iff]at h2;obtain⟨x,hx,rfl⟩:=h1;obtain⟨y,hy,rfl⟩:=h2;rw[hx]at hy;cases hy;exact hr.opd x (hl x (by simpa using Array.mem_of_getElem? hx))
 generalize p6:(first.toList.map fun x=>(S.opd x).2)=fs;generalize kX:(cap.toList.map fun x=>(S.opd x).2)=cs;unfold makeFuncR;split
 ·rename_i f;refine aH.pure fun bz φ G a w hr=>?_;have wP:first=#[]:=by cases first;simp_all
  refine⟨.func (.func f) #[] (cap.map a.eval),by simp[execOp,ho,Instr.makeFunc,wP],.fn f _ _ bz (by simp[←kX]) (fun i c v h1 h2=>?_)⟩;rw[←kX]at h1;exact key cap hc φ G a w hr i c v h1 h2
 ·rename_i f x r;split
  ·refine aH.pure fun _ φ G a w hr=>?_;have hce:cap=#[]:=by cases cap;simp_all
   refine⟨.func (.func f) (first.map a.eval) #[],by simp[execOp,ho,Instr.makeFunc,hce],.qG f _ _ (by rw[←p6];simp) (fun i c v h1 h2=>?_)⟩;rw[←p6]at h1;exact key first hf φ G a w hr i c v h1 h2
  ·trivial
 ·trivial
def makeIfaceR(P:Program)(t:TypeId)(x:AV):dk:=
 match x.norm with
 | .d d=>.val (tk P t≠.iface∧tk P t≠.other) (.gL t d)
 |_=>.no
theorem Aw{P:Program}{t:TypeId}(h:tk P t≠.other):∃d,P.underlying t=some d:=by
 unfold tk at h;cases hu:P.underlying t with
 |none=>simp[hu]at h
 |some d=>exact⟨d,rfl⟩
theorem Ge(P:Program)(S:St)(o:Oper)(t:TypeId)(x:Operand)(ho:o.op=.makeInterface t x)(hx:(S.opd x).1=true):aH P S o (makeIfaceR P t (S.opd x).2):=by
 unfold makeIfaceR;split
 ·rename_i d bL;refine aH.pure ?_;rintro ⟨h1,h2⟩ φ G a w hr;have h3:=(hr.opd x hx).norm;rw[bL]at h3;obtain⟨td,hu⟩:=Aw h2;refine⟨.iface t (a.eval x),?_,?_⟩
  ·have bK:∀ms,td≠.interface ms:=by rintro ms rfl;simp[tk,hu]at h1
   simp only[execOp,ho,Instr.makeInterface,Sem.run_bind,run_underlying hu,Result.andThen_ok];cases td<;>first|rfl|exact absurd rfl (bK _)
  ·cases h3 with|d _ _ h=>exact .gL t d _ h
 ·trivial
def lenRm(P:Program)(m:Mem)(t:TypeId)(x:AV):dk:=
 match x with
 | .d (.str s)=>.val (tk P t=.str) (.d (.int .i64 s.length))
 | .d (.list xs)=>match tk P t with
  | .slice _=>.val True (.d (.int .i64 xs.length))
  |_=>.no
 | .vec k aj _ len=>match tk P t,Mem.get m k with
  | .slice _,some ⟨_,v,_⟩=>.val (v=aj) (.d (.int .i64 len))
  |_,_=>.no
 | .lit (.slice none 0 0)=>match tk P t with
  | .slice _=>.val True (.d (.int .i64 0))
  |_=>.no
 | .nn=>match tk P t with
  | .slice _=>.val True (.d (.int .i64 0))
  |_=>.no
 |_=>match tk P t with
  | .arr n _=>.val True (.d (.int .i64 n))
  |_=>.no
theorem run_len_slice{P:Program}{w:World}{t ty e:TypeId}{ao len cap}(h:tk P t=.slice e):(Builtin.len_ #[t] ty #[.slice ao len cap]).run P w=.ok (.int .i64 len) w:=by
 simp[Builtin.len_,run_underlying (fJ h),goInt]
theorem aa8(P:Program)(S:St)(o:Oper)(x:Operand)(t:TypeId)(ho:o.op=.call {callee:=.builtin .len,args:=#[x],argTypes:=#[t]})(hx:(S.opd x).1=true):aH P S o (lenRm P S.mem t (S.opd x).2):=by
 have bP:∀(a:Act)(w:World)(v:Value),(Builtin.len_ #[t] o.type #[a.eval x]).run P w=.ok v w→(execOp a.eval o).run P w=.ok (.value v) w:=by
  intro a w v h;simp[execOp,ho,resolve,invoke,builtin,h]
 unfold lenRm;split
 ·rename_i s bL;refine aH.pure fun ht φ G a w hr=>?_;have h1:=hr.opd x hx;rw[bL]at h1;obtain⟨b,e1,rfl⟩:=rP h1;have oP:b.size=b.data.toList.length:=by rw[Array.length_toList];rfl
  refine⟨.int .i64 b.data.toList.length,bP a w _ ?_,.d _ _ (.int _ _)⟩;simp only[Builtin.len_,e1,List.getElem?_toArray,List.getElem?_cons_zero,Sem.run_bind,run_underlying (mR ht),Result.andThen_ok,Sem.run_pure,goInt,←oP]
 ·rename_i xs bL;split
  ·rename_i e gg;refine aH.pure fun _ φ G a w hr=>?_;have h1:=hr.opd x hx;rw[bL]at h1;generalize b7:a.eval x=av at h1;cases h1 with|d _ _ h=>
   have hl:∃ao cap,av=.slice ao xs.length cap:=by cases h<;>exact⟨_,_,rfl⟩
   obtain⟨ao,cap,rfl⟩:=hl;exact⟨_,bP a w _ (by rw[b7];exact run_len_slice gg),.d _ _ (.int _ _)⟩
  ·trivial
 ·rename_i k aj off len bL;split
  ·rename_i e key v cont gg hg;refine aH.pure ?_;rintro rfl φ G a w hr;have h1:=hr.opd x hx;rw[bL]at h1;obtain⟨hm,hk,L,hL,aA,cd⟩:=hr.mem.get hg;simp only at aA;generalize b7:a.eval x=av at h1;cases h1 with
   |vec _ _ _ _ _ L' bU _ xB _=>
    rw[hL]at bU;cases bU;obtain⟨ao,cap,rfl,fX,dF⟩:=xB aA.symm;exact⟨_,bP a w _ (by rw[b7];exact run_len_slice gg),.d _ _ (.int _ _)⟩
  ·trivial
 ·rename_i bL;split
  ·rename_i e gg;refine aH.pure fun _ φ G a w hr=>?_;have h1:=hr.opd x hx;rw[bL]at h1;generalize b7:a.eval x=av at h1;cases h1;exact⟨_,bP a w _ (by rw[b7];exact run_len_slice gg),.d _ _ (.int _ _)⟩
  ·trivial
 ·rename_i bL;split
  ·rename_i e gg;refine aH.pure fun _ φ G a w hr=>?_;have h1:=hr.opd x hx;rw[bL]at h1;generalize b7:a.eval x=av at h1;cases h1;exact⟨_,bP a w _ (by rw[b7];exact run_len_slice gg),.d _ _ (.int _ _)⟩
  ·trivial
 ·split
  ·rename_i n e gg;refine aH.pure fun _ φ G a w hr=>?_;refine⟨.int .i64 n,bP a w _ ?_,.d _ _ (.int _ _)⟩;simp[Builtin.len_,run_underlying (rQ gg),goInt]
  ·trivial
def foldMax(isMax:Bool):AV→List AV→Option D
 | .d (.int k a),[]=>some (.int k a)
 | .d (.int k a),y::r=>match y with
  | .d (.int _ b)=>foldMax isMax (.d (.int k (if isMax then (if b>a then b else a)else (if b<a then b else a)))) r
  |_=>none
 |_,_=>none
def maxR(isMax:Bool)(xs:List AV):dk:=
 match xs with
 |x::r=>match foldMax isMax x r with
  |some d=>.val True (.d d)
  |none=>.no
 |[]=>.no
theorem Jk{P:Program}{φ w F}(isMax:Bool):∀(xs:List AV)(x:AV)(vs:List Value)(v:Value)(d:D),foldMax isMax x xs=some d→aB φ w F x v→xs.length=vs.length→
 (∀(i:Nat) c u,xs[i]?=some c→vs[i]?=some u→aB φ w F c u)→
 ∃u,(vs.foldlM (if isMax then Builtin.max2 else Builtin.min2) v).run P w=.ok u w∧aK w F d u:=by
 intro xs;induction xs with
 |nil=>
  intro x vs v d h hx hl hc;have:vs=[]:=List.eq_nil_of_length_eq_zero (by simpa using hl.symm);subst this;unfold foldMax at h;split at h<;>simp_all;subst h;rw[ju hx];exact .int _ _
 |cons y ys ih=>
  intro x vs v d h hx hl hc;cases vs with
  |nil=>simp at hl
  |cons u us=>
   unfold foldMax at h;split at h
   ·simp_all
   ·rename_i k a y' r heq;simp at heq;obtain⟨rfl,rfl⟩:=heq;split at h
    ·rename_i k2 b;have e1:=ju hx;have e2:=ju (hc 0 (.d (.int k2 b)) u (by simp) (by simp));subst e1;subst e2;have dQ:∀(i:Nat) c u,ys[i]?=some c→us[i]?=some u→aB φ w F c u:=fun i c u h1 h2=>hc (i+1) c u (by simpa using h1) (by simpa using h2);cases isMax
     ·obtain⟨u',h1,h2⟩:=ih _ us (.int k (if b<a then b else a)) d h (.d _ _ (.int _ _)) (by simpa using hl) dQ;refine⟨u',?_,h2⟩;simp only[Bool.false_eq_true,if_false]at h1⊢;simp only[List.foldlM_cons,Builtin.min2,pure_bind];exact h1
     ·obtain⟨u',h1,h2⟩:=ih _ us (.int k (if b>a then b else a)) d h (.d _ _ (.int _ _)) (by simpa using hl) dQ;refine⟨u',?_,h2⟩;simp only[if_true]at h1⊢;simp only[List.foldlM_cons,Builtin.max2,pure_bind];exact h1
    ·cases h
   ·cases h
theorem QN(P:Program)(S:St)(o:Oper)(isMax:Bool)(args:Array Operand)(ts:Array TypeId)(ho:o.op=.call {callee:=.builtin (if isMax then .max else .min),args,argTypes:=ts})(hx:∀x∈args.toList,(S.opd x).1=true):aH P S o (maxR isMax (args.toList.map fun x=>(S.opd x).2)):=by
 unfold maxR;split
 ·rename_i x r heq;split
  ·rename_i d hd;refine aH.pure fun _ φ G a w hr=>?_;obtain⟨l,hl⟩:∃l,args.toList=l:=⟨_,rfl⟩;rw[hl]at heq hx;cases l with
   |nil=>simp at heq
   |cons y ys=>
    simp at heq;obtain⟨rfl,rfl⟩:=heq;obtain⟨u,h1,h2⟩:=Jk (P:=P) (φ:=φ) (w:=w) (F:=Fo G φ S.mem) isMax _ _ (ys.map a.eval) (a.eval y) d hd (hr.opd y (hx y (by simp))) (by simp) (fun i c u h1 h2=>by
     simp only[List.getElem?_map,Option.map_eq_some_iff]at h1 h2;obtain⟨p,hp,rfl⟩:=h1;obtain⟨q,hq,rfl⟩:=h2;rw[hp]at hq;cases hq;exact hr.opd p (hx p (by simp[List.mem_of_getElem? hp])))
    refine⟨u,?_,.d _ _ h2⟩;have xC:(args.map a.eval).toList=a.eval y::ys.map a.eval:=by simp[hl]
    cases isMax
    ·simp only[Bool.false_eq_true,if_false]at h1 ho;simp[execOp,ho,resolve,invoke,builtin,Builtin.min_,hl,h1]
    ·simp only[if_true]at h1 ho;simp[execOp,ho,resolve,invoke,builtin,Builtin.max_,hl,h1]
  ·trivial
 ·trivial
theorem DZ(off:Nat):∀(l:List Value)(k:Nat)(cs:Array Value),off+k+l.length≤cs.size→
 ((l.zipIdx k).foldl (fun cs x=>cs.setIfInBounds (off+x.2) x.1) cs).toList=cs.toList.take (off+k)++l++cs.toList.drop (off+k+l.length)
 |[],k,cs,_=>by simp
 |v::l,k,cs,h=>by
  simp only[List.zipIdx_cons,List.foldl_cons,List.length_cons]at h⊢;rw[DZ off l (k+1) _ (by simp;omega),Array.toList_setIfInBounds];have:=list_seg_step cs.toList (off+k) v l (by simp;omega);rw[show off+(k+1)=off+k+1 by omega,show off+k+(l.length+1)=off+k+1+l.length by omega];simpa [List.length_cons,Nat.add_assoc,Nat.add_comm 1]using this
theorem Gf(cs v:Array Value)(off:Nat)(h:off+v.size≤cs.size):
 (v.zipIdx.foldl (fun cs (x:Value×Nat)=>cs.setIfInBounds (off+x.2) x.1) cs).toList=putCells cs.toList off v.toList:=by
 rw[←Array.foldl_toList,Array.toList_zipIdx,DZ off v.toList 0 cs (by simpa using h),dq _ _ _ (by simpa using h)];simp
def fillA(place:Nat→Option (Nat×Nat)):List (Nat×AV)→Bool→List AV→Option (Bool×List AV)
 |[],c,cs=>some (c,cs)
 |(i,x)::r,c,cs=>match place i with
  |some (off,n)=>fillA place r (c∧x.solid=true∧x.cells.length=n∧off+n≤cs.length) (putCells cs off x.cells)
  |none=>none
theorem xD{φ w F}(place:Nat→Option (Nat×Nat)):∀(ps:List (Nat×AV))(c0 c:Bool)(cs lB:List AV)(vs:List (Nat×Value))(va:Array Value),
 fillA place ps c0 cs=some (c,lB)→c=true→cs.length=va.size→(∀v∈va,cx v=true)→(∀(i:Nat) x v,cs[i]?=some x→va[i]?=some v→aB φ w F x v)→
 ps.length=vs.length→(∀(i:Nat) p v,ps[i]?=some p→vs[i]?=some v→p.1=v.1∧aB φ w F p.2 v.2)→
 ∃wQ,Instr.fill place va vs=some wQ∧c0=true∧lB.length=wQ.size∧(∀v∈wQ,cx v=true)∧∀(i:Nat) x v,lB[i]?=some x→wQ[i]?=some v→aB φ w F x v
 |[],c0,c,cs,lB,vs,va,h,hc,hl,h1,hr,dF,hp=>by
  have:vs=[]:=List.eq_nil_of_length_eq_zero (by simpa using dF.symm);subst this;simp only[fillA,Option.some.injEq,Prod.mk.injEq]at h;obtain⟨rfl,rfl⟩:=h;exact⟨va,rfl,hc,hl,h1,hr⟩
 |(i,x)::ps,c0,c,cs,lB,vs,va,h,hc,hl,h1,hr,dF,hp=>by
  cases vs with
  |nil=>simp at dF
  |cons v vs=>
   obtain⟨j,v⟩:=v;obtain⟨kj,bL⟩:=hp 0 (i,x) (j,v) (by simp) (by simp);simp only at kj bL;subst kj;simp only[fillA]at h;split at h
   ·rename_i off n akY
    --zO condition of zO rest holds zO condition of this part
    obtain⟨q,hq⟩:∃q:Bool,q=decide (c0=true∧x.solid=true∧x.cells.length=n∧off+n≤cs.length):=⟨_,rfl⟩;have gR:c=true→q=true:=by
     rw[←hq]at h;clear hq;revert h
     generalize putCells cs off x.cells=cs2;clear hp dF hr h1 hl bL hc;induction ps generalizing q cs2 with
     |nil=>intro h;simp only[fillA,Option.some.injEq,Prod.mk.injEq]at h;obtain⟨rfl,_⟩:=h;exact id
     |cons p ps ih=>
      intro h eT;simp only[fillA]at h;split at h
      ·exact (of_decide_eq_true (ih _ _ h eT)).1
      ·cases h
    have Wx:=gR hc;rw[hq]at Wx;replace Wx:=of_decide_eq_true Wx;obtain⟨akZ,Ua,hlen,hle⟩:=Wx;obtain⟨pY,qH⟩:=bL.solid Ua;have nj:off+v.cells.size≤va.size:=by omega
    have jM:=Gf va v.cells off nj;obtain⟨va1,xE⟩:∃va1,va1=v.cells.zipIdx.foldl (fun cs (x:Value×Nat)=>cs.setIfInBounds (off+x.2) x.1) va:=⟨_,rfl⟩;rw[←xE]at jM;have iJ:off+v.cells.toList.length≤va.toList.length:=by simpa using nj
    obtain⟨wQ,hf,eT,r1,r2,r3⟩:=xD (φ:=φ) (w:=w) (F:=F) place ps _ c _ lB vs va1 h hc
     (by rw[bR _ _ _ (by omega),←Array.length_toList,jM,bR _ _ _ iJ];simpa using hl)
     (fun u hu=>by
      rw[←Array.mem_toList_iff,jM]at hu;rcases kh iJ hu with hu|hu
      ·exact h1 u (by simpa using hu)
      ·exact qH u (by simpa using hu))
     (fun i y u hy hu=>by
      rw[←Array.getElem?_toList,jM]at hu;exact rH (R:=fun x v=>aB φ w F x v) (by simpa using hl) (by simpa using pY.symm) (by omega) (fun i c v h h'=>hr i c v h (by simpa using h')) (fun i c v h h'=>bL.cells qH pY i c v h (by simpa using h')) i y u hy hu)
     (by simpa using dF) (fun i p v h h'=>hp (i+1) p v (by simpa using h) (by simpa using h'))
    refine⟨wQ,?_,akZ,r1,r2,r3⟩;simp only[Instr.fill,akY];rw[if_neg (by simp;omega)];rw[←hf,xE]
   ·cases h
def bx(P:Program)(t:TypeId):Option (List (Nat×Nat)):=
 match P.underlying t with
 |some (.struct fs)=>fs.toList.mapM fun f=>(P.info? f.type).map fun i=>(f.offset,i.size)
 |_=>none
theorem zU{P:Program}{w:World}:∀(fs:List Field)(l:List (Nat×Nat)),(fs.mapM fun f=>(P.info? f.type).map fun i=>(f.offset,i.size))=some l→
 (fs.mapM fun f=>(do pure (f.offset,←sizeOf f.type):Sem (Nat×Nat))).run P w=.ok l w
 |[],l,h=>by simp at h;subst h;simp
 |f::fs,l,h=>by
  simp only[List.mapM_cons]at h⊢;cases hi:P.info? f.type with
  |none=>simp[hi]at h
  |some i=>
   simp only[hi,Option.map_some,Option.pure_def,Option.bind_eq_bind,Option.bind_some]at h;cases hm:(fs.mapM fun f=>(P.info? f.type).map fun i=>(f.offset,i.size))with
   |none=>simp[hm]at h
   |some l'=>
    simp[hm]at h;subst h;have hs:(sizeOf f.type).run P w=.ok i.size w:=run_sizeOf (by simp[fi,hi]);have ih:=zU (P:=P) (w:=w) fs l' hm;simp only[Sem.run_bind,hs,Result.andThen_ok,Sem.run_pure,ih]
def buildR(P:Program)(t:TypeId)(ps:List (Nat×AV)):dk:=
 match sI P t with
 |some zs=>match bx P t with
  |some l=>match fillA (fun i=>l[i]?) ps true zs with
   |some (c,cs)=>.val c (mkAgg cs)
   |none=>.no
  |none=>match tk P t with
   | .arr _ e=>match fi P e with
    |some sz=>match fillA (fun i=>some (i*sz,sz)) ps true zs with
     |some (c,cs)=>.val c (mkAgg cs)
     |none=>.no
    |none=>.no
   |_=>.no
 |none=>.no
theorem Uk(P:Program)(S:St)(o:Oper)(t:TypeId)(ps:Array (Nat×Operand))(ho:o.op=.build t ps)(hx:∀x∈ps.toList,(S.opd x.2).1=true):
 aH P S o (buildR P t (ps.toList.map fun x=>(x.1,(S.opd x.2).2))):=by
 have parts:∀{φ G a w},Rel φ G S a w→∀(i:Nat)(p:Nat×AV)(v:Nat×Value),(ps.toList.map fun x=>(x.1,(S.opd x.2).2))[i]?=some p→(ps.toList.map fun x=>(x.1,a.eval x.2))[i]?=some v→p.1=v.1∧aB φ w (Fo G φ S.mem) p.2 v.2:=by
  intro φ G a w hr i p v h1 h2;simp only[List.getElem?_map,Option.map_eq_some_iff]at h1 h2;obtain⟨x,Gg,rfl⟩:=h1;obtain⟨y,D0,rfl⟩:=h2;rw[Gg]at D0;cases D0;exact⟨rfl,hr.opd _ (hx x (List.mem_of_getElem? Gg))⟩
 unfold buildR;split
 ·rename_i zs hz;split
  ·rename_i l hl;split
   ·rename_i c cs hf;refine aH.pG fun hc φ G a w hr=>?_;obtain⟨z,bP,bV,h1,ep⟩:=nw hz w;obtain⟨wQ,h2,_,h3,h4,h5⟩:=xD (φ:=φ) (w:=w) (F:=Fo G φ S.mem) _ _ _ _ _ _ (ps.toList.map fun x=>(x.1,a.eval x.2)) z.cells hf hc bV.symm h1 (fun i x v h h'=>ep _ _ _ i x v h h') (by simp) (parts hr);unfold bx at hl;split at hl
    ·rename_i fs hu;have hm:=zU (P:=P) (w:=w) fs.toList l hl;refine⟨.agg wQ,?_,?_⟩
     ·have hmA:(fs.mapM fun f=>(do pure (f.offset,←sizeOf f.type):Sem (Nat×Nat))).run P w=.ok l.toArray w:=by
       rw[Array.mapM_eq_mapM_toList];simp only[Sem.run_map,hm,Result.andThen_ok]
      simp only[execOp,ho,Instr.build,Sem.run_bind,bP,Result.andThen_ok,run_underlying hu,hmA];have e:(fun (i:Nat)=>l.toArray[i]?)=fun (i:Nat)=>l[i]?:=by funext i;simp
      have e2:(Array.map (fun x=>(x.1,a.eval x.2)) ps).toList=ps.toList.map fun x=>(x.1,a.eval x.2):=by simp
      rw[e,e2,h2];rfl
     ·have:=xl (φ:=φ) (w:=w) (F:=Fo G φ S.mem) (cs:=cs) (vs:=wQ.toList) (by simpa using h3) (fun v hv=>h4 v (by simpa using hv)) (fun i c v h h'=>h5 i c v h (by simpa using h'));simpa using this
    ·cases hl
   ·trivial
  ·split
   ·rename_i n e gg;split
    ·rename_i sz hs;split
     ·rename_i c cs hf;refine aH.pG fun hc φ G a w hr=>?_;obtain⟨z,bP,bV,h1,ep⟩:=nw hz w;obtain⟨wQ,h2,_,h3,h4,h5⟩:=xD (φ:=φ) (w:=w) (F:=Fo G φ S.mem) _ _ _ _ _ _ (ps.toList.map fun x=>(x.1,a.eval x.2)) z.cells hf hc bV.symm h1 (fun i x v h h'=>ep _ _ _ i x v h h') (by simp) (parts hr);refine⟨.agg wQ,?_,?_⟩
      ·simp only[execOp,ho,Instr.build,Sem.run_bind,bP,Result.andThen_ok,run_underlying (rQ gg),run_sizeOf hs];have e2:(Array.map (fun x=>(x.1,a.eval x.2)) ps).toList=ps.toList.map fun x=>(x.1,a.eval x.2):=by simp
       rw[e2,h2];rfl
      ·have:=xl (φ:=φ) (w:=w) (F:=Fo G φ S.mem) (cs:=cs) (vs:=wQ.toList) (by simpa using h3) (fun v hv=>h4 v (by simpa using hv)) (fun i c v h h'=>h5 i c v h (by simpa using h'));simpa using this
     ·trivial
    ·trivial
   ·trivial
 ·trivial
end Go.Am
end

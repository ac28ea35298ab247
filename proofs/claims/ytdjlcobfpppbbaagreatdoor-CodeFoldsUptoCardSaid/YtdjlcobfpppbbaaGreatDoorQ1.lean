/-
  Texts of one proof, one behind the other.
-/
import Derived.SizedLaws
import Derived.Handed
import Derived.Shelf.Vars
import Derived.WalkKit
import Derived.Laws.Rows
import Derived.Laws.CopyRow
import Derived.Laws.StructEq
set_option linter.all false
section
namespace Go.Am
open Go
inductive D where
 |int (k:IntKind) (n:Int)
 |bool (b:Bool)
 |str (s:List UInt8)
 |list (xs:List D)
 |agg (cs:List D)
 |Bj
def D.size:D→Nat
 | .agg cs=>cs.length
 |_=>1
def D.flat:D→Bool
 | .agg _=>false
 |_=>true
def cv:Value→Bool
 | .agg _=>false
 | .tuple _=>false
 |_=>true
theorem dN{v:Value}(h:cv v=true):v.cells=#[v]:=by cases v<;>simp_all [cv,Value.cells]
inductive aK(w:World)(F:Nat→Prop):D→Value→Prop
 |int (k n):aK w F (.int k n) (.int k n)
 |bool (b):aK w F (.bool b) (.bool b)
 |Bj (v:Value) (h:v=.nilIface∨∃t p,v=.iface t p):aK w F .Bj v
 |str (b:ByteArray) (s:List UInt8) (h:b.data.toList=s):aK w F (.str s) (.string b)
 |agg (cs:List D) (a:Array Value) (hl:cs.length=a.size)
  (hf:∀d∈cs,d.flat=true) (hc:∀(i:Nat)(d:D)(v:Value),cs[i]?=some d→a[i]?=some v→aK w F d v):aK w F (.agg cs) (.agg a)
 |nil (a:Option Addr) (cap:Nat) (hn:a=none→cap=0):aK w F (.list []) (.slice a 0 cap)
 |list (xs:List D) (b off cap sz:Nat) (vs:Nat→Value) (dg:xs.length≤cap) (hb:b<w.heap.size) (hF:¬F b) (bQ:∀d∈xs,d.size=sz)
  (hv:∀(i:Nat)(d:D),xs[i]?=some d→aK w F d (vs i))
  (hc:∀(i j:Nat)(c:Value),i<xs.length→(vs i).cells[j]?=some c→w.cell? ⟨b,off+i*sz+j,none⟩=some c):
  aK w F (.list xs) (.slice (some ⟨b,off,none⟩) xs.length cap)
theorem aK.size{w F d v}(h:aK w F d v):v.cells.size=d.size:=by
 cases h
 case Bj h=>rcases h with rfl|⟨t,p,rfl⟩<;>rfl
 all_goals simp_all [D.size,Value.cells]
theorem aK.one{w F d v}(h:aK w F d v)(hf:d.flat=true):cv v=true:=by
 cases h
 case Bj h=>rcases h with rfl|⟨t,p,rfl⟩<;>rfl
 all_goals simp_all [D.flat,Am.cv]
theorem jG{w w':World}{b o:Nat}(h:w'.heap[b]?=w.heap[b]?):w'.cell? ⟨b,o,none⟩=w.cell? ⟨b,o,none⟩:=by
 simp[World.cell?,h]
theorem aK.mono{w w':World}{F F':Nat→Prop}{d v}(h:aK w F d v)
 (hk:∀b,b<w.heap.size→¬F b→w'.heap[b]?=w.heap[b]?) (hs:w.heap.size≤w'.heap.size) (hF:∀b,b<w.heap.size→F' b→F b):aK w' F' d v:=by
 induction h with
 |int k n=>exact .int k n
 |bool b=>exact .bool b
 |Bj v h=>exact .Bj v h
 |str b s h=>exact .str b s h
 |agg cs a hl hf _ ih=>exact .agg cs a hl hf ih
 |nil a cap hn=>exact .nil a cap hn
 |list xs b off cap sz vs dg hb mj bQ _ hc ih=>
  exact .list xs b off cap sz vs dg (by omega) (fun h=>mj (hF b hb h)) bQ ih (fun i j c hi hj=>by
   rw[jG (hk b hb mj)];exact hc i j c hi hj)
def bnB:Nat:=1000000
inductive AV where
 |aZ
 |d (x:D)
 |agg (cs:List AV)
 |ptr (k aj off:Nat)
 |vec (k aj off len:Nat)
 |cD (k aj i j:Nat)
 |dE (x:D) (j:Nat)
 |fn (f:FuncId) (cap:List AV)
 |aU (vs:List AV)
 |gJ (t:TypeId) (x:D)
 |lit (v:Value)
 |nn
 |err
structure Loc where
 aj:Nat
 du:Nat
 sz:Nat
 cap:Nat
 base:Nat
 cM:List (Option Nat):=[]
abbrev bM:=Nat→Option Loc
inductive aB(φ:bM)(w:World)(F:Nat→Prop):AV→Value→Prop
 |aZ (v):aB φ w F .aZ v
 |d (x v) (h:aK w F x v):aB φ w F (.d x) v
 |agg (cs:List AV) (a:Array Value) (hl:cs.length=a.size) (h1:∀v∈a,cv v=true) (hc:∀(i:Nat)(c:AV)(v:Value),cs[i]?=some c→a[i]?=some v→aB φ w F c v):aB φ w F (.agg cs) (.agg a)
 |ptr (k aj off:Nat) (v:Value) (L:Loc) (hL:φ k=some L) (hv:aj≤L.aj) (h:aj=L.aj→v=.pointer (some ⟨L.du,off,none⟩)) (h1:cv v=true):aB φ w F (.ptr k aj off) v
 |vec (k aj off len:Nat) (v:Value) (L:Loc) (hL:φ k=some L) (hv:aj≤L.aj)
  (h:aj=L.aj→∃a cap,v=.slice a len cap∧len≤cap∧(cap>0→a=some ⟨L.du,L.base+off*L.sz,none⟩∧off+cap≤L.cap)) (h1:cv v=true):aB φ w F (.vec k aj off len) v
 |cD (k aj i j:Nat) (v:Value) (L:Loc) (hL:φ k=some L) (hv:aj≤L.aj) (h:aj=L.aj→v=.pointer (some ⟨L.du,L.base+i*L.sz+j,none⟩)) (h1:cv v=true):aB φ w F (.cD k aj i j) v
 |dE (x:D) (j:Nat) (b off:Nat) (x':Value) (hb:b<w.heap.size) (hF:¬F b) (hx:aK w F x x')
  (hc:∀(i:Nat)(c:Value),x'.cells[i]?=some c→w.cell? ⟨b,off+i,none⟩=some c):aB φ w F (.dE x j) (.pointer (some ⟨b,off+j,none⟩))
 |fn (f:FuncId) (cap:List AV) (a:Array Value) (hf:f<bnB) (hl:cap.length=a.size) (hc:∀(i:Nat)(c:AV)(v:Value),cap[i]?=some c→a[i]?=some v→aB φ w F c v):aB φ w F (.fn f cap) (.func (.func f) #[] a)
 |qx (f:FuncId) (cap:List AV) (a:Array Value) (hl:cap.length=a.size) (hc:∀(i:Nat)(c:AV)(v:Value),cap[i]?=some c→a[i]?=some v→aB φ w F c v):aB φ w F (.fn (f+bnB) cap) (.func (.func f) a #[])
 |aU (vs:List AV) (a:Array Value) (hl:vs.length=a.size) (hc:∀(i:Nat)(c:AV)(v:Value),vs[i]?=some c→a[i]?=some v→aB φ w F c v):aB φ w F (.aU vs) (.tuple a)
 |gJ (t:TypeId) (x:D) (v:Value) (h:aK w F x v):aB φ w F (.gJ t x) (.iface t v)
 |lit (v) (h1:cv v=true):aB φ w F (.lit v) v
 |nn (a:Addr) (cap:Nat):aB φ w F .nn (.slice (some a) 0 cap)
 |err (t:TypeId) (v:Value):aB φ w F .err (.iface t v)
def bM.le(φ φ':bM):Prop:=∀k L,φ k=some L→∃L',φ' k=some L'∧L.aj≤L'.aj∧(L'.aj=L.aj→L'={L with cM:=L'.cM})
theorem bM.le_refl(φ:bM):φ.le φ:=fun _ L h=>⟨L,h,Nat.le_refl _,fun _=>rfl⟩
theorem bM.le_trans{φ φ' ml:bM}(h:φ.le φ')(h':φ'.le ml):φ.le ml:=by
 intro k L hL;obtain⟨L1,h1,V9,FE⟩:=h k L hL;obtain⟨L2,h2,rq,wB⟩:=h' k L1 h1;refine⟨L2,h2,by omega,fun e=>?_⟩;have e1:L1.aj=L.aj:=by omega
 have h3:=FE e1;rw[h3]at wB;exact wB (by rw[e])
theorem aB.mono{φ φ':bM}{w w':World}{F F':Nat→Prop}{x v}(h:aB φ w F x v)(hφ:φ.le φ')
 (hk:∀b,b<w.heap.size→¬F b→w'.heap[b]?=w.heap[b]?) (hs:w.heap.size≤w'.heap.size) (hF:∀b,b<w.heap.size→F' b→F b):aB φ' w' F' x v:=by
 induction h with
 |aZ v=>exact .aZ v
 |d x v h=>exact .d x v (h.mono hk hs hF)
 |agg cs a hl h1 _ ih=>exact .agg cs a hl h1 ih
 |ptr k aj off v L hL hv h h1=>
  obtain⟨L',bO,sq,he⟩:=hφ k L hL;exact .ptr k aj off v L' bO (by omega) (fun e=>by
   have e1:L'.aj=L.aj:=by omega
   have h3:=he e1;rw[h3];exact h (by rw[e,e1])) h1
 |vec k aj off len v L hL hv h h1=>
  obtain⟨L',bO,sq,he⟩:=hφ k L hL;exact .vec k aj off len v L' bO (by omega) (fun e=>by
   have e1:L'.aj=L.aj:=by omega
   have h3:=he e1;rw[h3];exact h (by rw[e,e1])) h1
 |cD k aj i j v L hL hv h h1=>
  obtain⟨L',bO,sq,he⟩:=hφ k L hL;exact .cD k aj i j v L' bO (by omega) (fun e=>by
   have e1:L'.aj=L.aj:=by omega
   have h3:=he e1;rw[h3];exact h (by rw[e,e1])) h1
 |dE x j b off x' hb mj hx hc=>
  exact .dE x j b off x' (by omega) (fun h=>mj (hF b hb h)) (hx.mono hk hs hF) (fun i c hi=>by rw[jG (hk b hb mj)];exact hc i c hi)
 |fn f cap a hf hl _ ih=>exact .fn f cap a hf hl ih
 |qx f cap a hl _ ih=>exact .qx f cap a hl ih
 |aU vs a hl _ ih=>exact .aU vs a hl ih
 |gJ t x v h=>exact .gJ t x v (h.mono hk hs hF)
 |lit v h1=>exact .lit v h1
 |nn a cap=>exact .nn a cap
 |err t v=>exact .err t v
inductive aE where
 |dead
 |box (cs:List AV)
 |vec (sz:Nat) (rows:List D)
 |vv (rows:List (List D)) (y:Option AV)
structure cH where
 key:Nat
 aj:Nat
 cont:aE
abbrev Mem:=List cH
def Mem.get:Mem→Nat→Option cH
 |[],_=>none
 |e::r,k=>if e.key=k then some e else Mem.get r k
def Mem.set:Mem→cH→Mem
 |[],_=>[]
 |e::r,x=>if e.key=x.key then x::r else e::Mem.set r x
theorem Mem.get_mem{m:Mem}{k e}(h:Mem.get m k=some e):e∈m∧e.key=k:=by
 induction m with
 |nil=>simp[Mem.get]at h
 |cons x r ih=>
  simp only[Mem.get]at h;split at h
  ·simp_all
  ·have:=ih h;simp_all
theorem Mem.get_of_mem{m:Mem}{e}(hn:(m.map (·.key)).Nodup)(h:e∈m):Mem.get m e.key=some e:=by
 induction m with
 |nil=>simp at h
 |cons x r ih=>
  simp only[List.map_cons,List.nodup_cons]at hn;simp only[Mem.get];rcases List.mem_cons.1 h with rfl|h
  ·simp
  ·have:x.key≠e.key:=fun he=>hn.1 (by rw[he];exact List.mem_map_of_mem h);simp[this,ih hn.2 h]
theorem Mem.gu(m:Mem)(x:cH):(Mem.set m x).map (·.key)=m.map (·.key):=by
 induction m with
 |nil=>rfl
 |cons e r ih=>
  simp only[Mem.set];split
  ·simp_all
  ·simp[ih]
theorem Mem.mem_set{m:Mem}{x e:cH}(hn:(m.map (·.key)).Nodup):e∈Mem.set m x↔(e=x∧x.key∈m.map (·.key))∨(e∈m∧e.key≠x.key):=by
 induction m with
 |nil=>simp[Mem.set]
 |cons y r ih=>
  simp only[List.map_cons,List.nodup_cons]at hn;simp only[Mem.set];split
  ·rename_i hy;constructor
   ·intro h;rcases List.mem_cons.1 h with rfl|h
    ·left;simp[hy]
    ·right;refine⟨by simp[h],fun he=>hn.1 ?_⟩;rw[hy,←he];exact List.mem_map_of_mem h
   ·rintro (⟨rfl,_⟩|⟨h,bE⟩)
    ·simp
    ·rcases List.mem_cons.1 h with rfl|h
     ·exact absurd hy bE
     ·simp[h]
  ·rename_i hy;simp only[List.mem_cons,ih hn.2,List.map_cons];constructor
   ·rintro (rfl|⟨rfl,h⟩|⟨h,bE⟩)
    ·right;exact⟨.inl rfl,hy⟩
    ·left;exact⟨rfl,.inr h⟩
    ·right;exact⟨.inr h,bE⟩
   ·rintro (⟨rfl,h⟩|⟨h,bE⟩)
    ·rcases h with h|h
     ·exact absurd h.symm hy
     ·right;left;exact⟨rfl,h⟩
    ·rcases h with rfl|h
     ·left;rfl
     ·right;right;exact⟨h,bE⟩
theorem Mem.nL{m:Mem}{x:cH}(h:x.key∈m.map (·.key)):Mem.get (Mem.set m x) x.key=some x:=by
 induction m with
 |nil=>simp at h
 |cons y r ih=>
  simp only[Mem.set];split
  ·simp[Mem.get]
  ·rename_i hy;simp only[Mem.get,hy,if_false];exact ih (by simp only[List.map_cons,List.mem_cons]at h;rcases h with h|h;exact absurd h.symm hy;exact h)
theorem Mem.nM{m:Mem}{x:cH}{k:Nat}(h:x.key≠k):Mem.get (Mem.set m x) k=Mem.get m k:=by
 induction m with
 |nil=>rfl
 |cons y r ih=>
  simp only[Mem.set];split
  ·rename_i hy;have:y.key≠k:=by rw[hy];exact h
   simp[Mem.get,h,this]
  ·simp only[Mem.get,ih]
def aE.cN(L:Loc):aE→Nat→Prop
 | .dead,_=>False
 | .box _,b=>L.du=b
 | .vec _ _,b=>0<L.cap∧L.du=b
 | .vv _ _,b=>(0<L.cap∧L.du=b)∨some b∈L.cM
def iq(φ:bM)(m:Mem)(b:Nat):Prop:=∃e∈m,∃L,φ e.key=some L∧e.cont.cN L b
structure Fr where
 g:Nat→Prop
 dv:List Deferred
instance:CoeFun Fr (fun _=>Nat→Prop):=⟨Fr.g⟩
def Fo(G:Fr)(φ:bM)(m:Mem)(b:Nat):Prop:=G b∨iq φ m b
def eL(w:World)(b:Nat)(arr:Array Value)(elem:TypeId):Prop:=∃fr:Nat×Nat,w.heap[b]?=some (.cells arr elem fr)∧(fr=(0,0)∨arr.size≤fr.1)
theorem eL.same{w w':World}{b:Nat}{arr:Array Value}{elem:TypeId}(h:eL w b arr elem)(hs:w'.heap[b]?=w.heap[b]?):eL w' b arr elem:=by
 obtain⟨fr,h1,h2⟩:=h;exact⟨fr,by rw[hs];exact h1,h2⟩
theorem eL.lt{w:World}{b:Nat}{arr:Array Value}{elem:TypeId}(h:eL w b arr elem):b<w.heap.size:=by
 obtain⟨fr,h1,h2⟩:=h;exact (Array.getElem?_eq_some_iff.1 h1).1
theorem eL.new{w:World}{b:Nat}{arr:Array Value}{elem:TypeId}(h:w.heap[b]?=some (.cells arr elem (0,0))):eL w b arr elem:=⟨(0,0),h,.inl rfl⟩
def wU(w:World)(F:Nat→Prop)(v:Option Value)(xs:List D)(o:Option Nat):Prop:=
 match o with
 |none=>xs=[]∧∃a,v=some (.slice a 0 0)
 |some b=>∃(row:Array Value)(re:TypeId)(off cap:Nat),v=some (.slice (some ⟨b,off,none⟩) xs.length cap)∧0<cap∧xs.length≤cap∧off+cap≤row.size∧eL w b row re∧(∀u∈row,cv u=true)∧
  ∀(i:Nat)(d:D),xs[i]?=some d→d.size=1∧∃u,aK w F d u∧∀(j:Nat)(c:Value),u.cells[j]?=some c→row[off+i*1+j]?=some c
theorem wU.mono{w w':World}{F F':Nat→Prop}{v xs o}(h:wU w F v xs o)(hd:∀d u,d∈xs→aK w F d u→aK w' F' d u)
 (fw:∀b,o=some b→w'.heap[b]?=w.heap[b]?):wU w' F' v xs o:=by
 cases o with
 |none=>exact h
 |some b=>
  obtain⟨row,re,off,cap,h1,h2,h3,h4,h5,h6,h7⟩:=h;exact⟨row,re,off,cap,h1,h2,h3,h4,h5.same (fw b rfl),h6,fun j d hj=>let ⟨g1,u,g2,g3⟩:=h7 j d hj;⟨g1,u,hd d u (List.mem_of_getElem? hj) g2,g3⟩⟩
def jX(φ:bM)(w:World)(F:Nat→Prop)(L:Loc)(rows:List (List D))(y:Option AV):Prop:=
 (L.sz=1∧rows.length+y.toList.length≤L.cap∧L.cM.length=rows.length)∧
  (∀(i j:Nat)(b:Nat),L.cM[i]?=some (some b)→L.cM[j]?=some (some b)→i=j)∧(∀b,some b∈L.cM→0<L.cap∧b≠L.du)∧
  (0<L.cap→∃(arr:Array Value)(elem:TypeId),eL w L.du arr elem∧arr.size=L.base+L.cap∧(∀v∈arr,cv v=true)∧
   (∀(i:Nat)(xs:List D)(o:Option Nat),rows[i]?=some xs→L.cM[i]?=some o→wU w F arr[L.base+i]? xs o)∧
   ∀x,y=some x→∃v,arr[L.base+rows.length]?=some v∧aB φ w F x v)
theorem jX.mono{φ φ':bM}{w w':World}{F F':Nat→Prop}{L rows y}(f:AV→AV)(h:jX φ w F L rows y)
 (hd:∀xs∈rows,∀d∈xs,∀u,aK w F d u→aK w' F' d u) (ha:∀x,y=some x→∀v,aB φ w F x v→aB φ' w' F' (f x) v)
 (fw:∀b,((0<L.cap∧L.du=b)∨some b∈L.cM)→w'.heap[b]?=w.heap[b]?):jX φ' w' F' L rows (y.map f):=by
 obtain⟨h0,h1,h2,h⟩:=h;refine⟨by cases y<;>exact h0,h1,h2,fun hc=>?_⟩;obtain⟨arr,elem,g1,g2,g3,g4,g5⟩:=h hc;refine⟨arr,elem,g1.same (fw _ (.inl ⟨hc,rfl⟩)),g2,g3,fun i xs o hi ho=>(g4 i xs o hi ho).mono (fun d u hm=>hd xs (List.mem_of_getElem? hi) d hm u) (fun b e=>fw b (.inr (by subst e;exact List.mem_of_getElem? ho))),fun x hx=>?_⟩;cases y with
 |none=>cases hx
 |some z=>
  cases hx;obtain⟨v,q1,q2⟩:=g5 z rfl;exact⟨v,q1,ha z rfl v q2⟩
theorem jX.afz{φ φ':bM}{w w':World}{F F':Nat→Prop}{L rows y}(h:jX φ w F L rows y)
 (hd:∀xs∈rows,∀d∈xs,∀u,aK w F d u→aK w' F' d u) (ha:∀x,y=some x→∀v,aB φ w F x v→aB φ' w' F' x v)
 (fw:∀b,((0<L.cap∧L.du=b)∨some b∈L.cM)→w'.heap[b]?=w.heap[b]?):jX φ' w' F' L rows y:=by
 have:=h.mono id hd ha fw;cases y<;>exact this
theorem jX.aj{φ w F L rows y}(h:jX φ w F L rows y)(v:Nat):jX φ w F {L with aj:=v} rows y:=h
def dO(φ:bM)(w:World)(F:Nat→Prop)(L:Loc):aE→Prop
 | .dead=>True
 | .box cs=>(L.sz=1∧L.base=0∧L.cap=cs.length)∧∃(arr:Array Value)(elem:TypeId),eL w L.du arr elem∧arr.size=cs.length∧(∀v∈arr,cv v=true)∧
  ∀(i:Nat)(c:AV)(v:Value),cs[i]?=some c→arr[i]?=some v→aB φ w F c v
 | .vec sz rows=>L.sz=sz∧rows.length≤L.cap∧(∀d∈rows,d.size=L.sz)∧(0<L.cap→∃(arr:Array Value)(elem:TypeId),eL w L.du arr elem∧
  arr.size=L.base+L.cap*L.sz∧(∀v∈arr,cv v=true)∧
  ∀(i:Nat)(d:D),rows[i]?=some d→∃v,aK w F d v∧∀(j:Nat)(c:Value),v.cells[j]?=some c→arr[L.base+i*L.sz+j]?=some c)
 | .vv rows y=>jX φ w F L rows y
def aas(φ:bM)(w:World)(F:Nat→Prop)(e:cH):Prop:=∃L,φ e.key=some L∧L.aj=e.aj∧dO φ w F L e.cont
theorem dO.lt{φ w F L c b}(h:dO φ w F L c)(ho:c.cN L b):b<w.heap.size:=by
 cases c with
 |dead=>exact ho.elim
 |box cs=>obtain⟨_,arr,elem,h,_⟩:=h;have:L.du=b:=ho;subst this;exact h.lt
 |vec sz rows=>obtain⟨hc,rfl⟩:=ho;obtain⟨_,_,_,h⟩:=h;obtain⟨arr,elem,h,_⟩:=h hc;exact h.lt
 |vv rows y=>
  obtain⟨⟨_,_,hl⟩,_,h3,h⟩:=h;rcases ho with ⟨hc,rfl⟩|ho
  ·obtain⟨arr,elem,h,_⟩:=h hc;exact h.lt
  ·obtain⟨i,hi⟩:=List.getElem?_of_mem ho;obtain⟨arr,elem,_,_,_,h5,_⟩:=h (h3 b ho).1;have bn:=(List.getElem?_eq_some_iff.1 hi).1;obtain⟨row,re,_,_,_,_,_,_,g,_⟩:=h5 i (rows[i]'(by omega)) (some b) (by simp[show i<rows.length by omega]) hi
   exact g.lt
theorem dO.mono{φ φ':bM}{w w':World}{F F':Nat→Prop}{L c}(h:dO φ w F L c)(hφ:φ.le φ')
 (hk:∀b,b<w.heap.size→¬F b→w'.heap[b]?=w.heap[b]?) (hs:w.heap.size≤w'.heap.size) (hF:∀b,b<w.heap.size→F' b→F b)
 (fw:∀b,c.cN L b→w'.heap[b]?=w.heap[b]?):dO φ' w' F' L c:=by
 cases c with
 |dead=>trivial
 |box cs=>
  obtain⟨h0,arr,elem,h1,h2,h3,h4⟩:=h;exact⟨h0,arr,elem,h1.same (fw _ rfl),h2,h3,fun i c v hc hv=>(h4 i c v hc hv).mono hφ hk hs hF⟩
 |vec sz rows=>
  obtain⟨pN,h0,hz,h⟩:=h;refine⟨pN,h0,hz,fun hc=>?_⟩;obtain⟨arr,elem,h1,h2,h3,h4⟩:=h hc;exact⟨arr,elem,h1.same (fw _ ⟨hc,rfl⟩),h2,h3,fun i d hd=>let ⟨v,hv,hj⟩:=h4 i d hd;⟨v,hv.mono hk hs hF,hj⟩⟩
 |vv rows y=>exact jX.afz h (fun _ _ _ _ u hu=>hu.mono hk hs hF) (fun x _ v hx=>hx.mono hφ hk hs hF) fw
structure bj(φ:bM)(G:Fr)(m:Mem)(w:World):Prop where
 nodup:(m.map (·.key)).Nodup
 oB:∀k L,φ k=some L→k∈m.map (·.key)
 eV:∀e∈m,aas φ w (Fo G φ m) e
 apart:∀e∈m,∀e'∈m,∀L L',φ e.key=some L→φ e'.key=some L'→(∃b,e.cont.cN L b∧e'.cont.cN L' b)→e.key=e'.key
 jY:∀b,iq φ m b→¬G b
 bound:∀b,G b→b<w.heap.size
theorem bj.Bk{φ G m w}(h:bj φ G m w){b}(hb:iq φ m b):b<w.heap.size:=by
 obtain⟨e,he,L,hL,ho⟩:=hb;obtain⟨L',bO,_,hc⟩:=h.eV e he;rw[hL]at bO;cases bO;exact hc.lt ho
structure aP(φ:bM)(m:Mem)(w:World)(φ':bM)(m':Mem)(w':World):Prop where
 le:φ.le φ'
 wV:∀b,b<w.heap.size→¬iq φ m b→w'.heap[b]?=w.heap[b]?
 own:∀b,b<w.heap.size→iq φ' m' b→iq φ m b
 size:w.heap.size≤w'.heap.size
 os:w'.os=w.os
 tape:w'.tape=w.tape
 output:w'.output=w.output
theorem aP.refl(φ m w):aP φ m w φ m w:=⟨bM.le_refl _,fun _ _ _=>rfl,fun _ _ h=>h,Nat.le_refl _,rfl,rfl,rfl⟩
theorem aP.trans{φ m w φ1 m1 w1 φ2 m2 w2}(h:aP φ m w φ1 m1 w1)(k:aP φ1 m1 w1 φ2 m2 w2):aP φ m w φ2 m2 w2 where
 le:=bM.le_trans h.le k.le
 wV:=fun b hb hn=>by
  rw[k.wV b (Nat.lt_of_lt_of_le hb h.size) (fun h1=>hn (h.own b hb h1)),h.wV b hb hn]
 own:=fun b hb hn=>h.own b hb (k.own b (Nat.lt_of_lt_of_le hb h.size) hn)
 size:=Nat.le_trans h.size k.size
 os:=k.os.trans h.os
 tape:=k.tape.trans h.tape
 output:=k.output.trans h.output
theorem aP.av{φ m w φ' m' w' G}(h:aP φ m w φ' m' w'){x v}(hx:aB φ w (Fo G φ m) x v):aB φ' w' (Fo G φ' m') x v:=
 hx.mono h.le (fun b hb hn=>h.wV b hb (fun ho=>hn (.inr ho))) h.size (fun b hb=>Or.imp id (h.own b hb))
theorem bj.cW{φ G m w w'}(h:bj φ G m w){e e':cH}(he:e∈m){L L':Loc}(hL:φ e.key=some L)(iS:e'.key=e.key)
 (aA:L.aj≤L'.aj) (Nx:L'.aj=L.aj→L'={L with cM:=L'.cM})
 (hv:L'.aj=e'.aj)
 (hold:∀b,b<w.heap.size→¬e.cont.cN L b→w'.heap[b]?=w.heap[b]?) (hs:w.heap.size≤w'.heap.size)
 (mu:∀b,e'.cont.cN L' b→e.cont.cN L b∨w.heap.size≤b)
 (pO:w'.os=w.os) (afA:w'.tape=w.tape) (fa:w'.output=w.output)
 (hc:∀φ':bM,φ'=(fun k=>if k=e.key then some L' else φ k)→φ.le φ'→dO φ' w' (Fo G φ' (Mem.set m e')) L' e'.cont):
 ∃φ',bj φ' G (Mem.set m e') w'∧aP φ m w φ' (Mem.set m e') w'∧φ' e.key=some L'∧∀k,k≠e.key→φ' k=φ k:=by
 have hle:φ.le (fun k=>if k=e.key then some L' else φ k):=by
  intro k L0 h0;by_cases hk:k=e.key
  ·subst hk;rw[hL]at h0;cases h0;exact⟨L',by simp,aA,Nx⟩
  ·exact⟨L0,by simp[hk,h0],Nat.le_refl _,fun _=>rfl⟩
 have avN:e'.key∈m.map (·.key):=by rw[iS];exact List.mem_map_of_mem he
 have uf:∀x∈m,x.key≠e.key→∀Lx,φ x.key=some Lx→∀b,x.cont.cN Lx b→e.cont.cN L b→False:=
  fun x hx bE Lx ek b ir Bl=>bE (h.apart x hx e he Lx L ek hL ⟨b,ir,Bl⟩)
 have FG:∀b,b<w.heap.size→iq (fun k=>if k=e.key then some L' else φ k) (Mem.set m e') b→iq φ m b:=by
  rintro b hb ⟨x,hx,Lx,ek,ir⟩;rcases (Mem.mem_set h.nodup).1 hx with ⟨rfl,_⟩|⟨gm,bE⟩
  ·simp[iS]at ek;subst ek;rcases mu b ir with Bl|wW
   ·exact⟨e,he,L,hL,Bl⟩
   ·omega
  ·rw[iS]at bE;simp[bE]at ek;exact⟨x,gm,Lx,ek,ir⟩
 have Wa:∀b,b<w.heap.size→¬iq φ m b→w'.heap[b]?=w.heap[b]?:=fun b hb hn=>
  hold b hb fun ho=>hn ⟨e,he,L,hL,ho⟩
 refine⟨_,⟨by rw[Mem.gu];exact h.nodup,?_,?_,?_,?_,?_⟩,⟨hle,Wa,FG,hs,pO,afA,fa⟩,by simp,fun k hk=>by simp[hk]⟩
 ·intro k L0 h0;rw[Mem.gu];by_cases hk:k=e.key
  ·subst hk;exact List.mem_map_of_mem he
  ·simp[hk]at h0;exact h.oB k L0 h0
 ·intro x hx;rcases (Mem.mem_set h.nodup).1 hx with ⟨rfl,_⟩|⟨gm,bE⟩
  ·exact⟨L',by simp[iS],hv,hc _ rfl hle⟩
  ·rw[iS]at bE;obtain⟨Lx,ek,hvx,oC⟩:=h.eV x gm;refine⟨Lx,by simp[bE,ek],hvx,oC.mono hle (fun b hb hn=>Wa b hb (fun ho=>hn (.inr ho))) hs (fun b hb=>Or.imp id (FG b hb)) (fun b ir=>?_)⟩;exact hold _ (oC.lt ir) (fun Bl=>uf x gm bE Lx ek b ir Bl)
 ·rintro x hx y hy Lx Ly ek dy ⟨b,ir,gK⟩;rcases (Mem.mem_set h.nodup).1 hx with ⟨rfl,_⟩|⟨gm,FH⟩<;>rcases (Mem.mem_set h.nodup).1 hy with ⟨rfl,_⟩|⟨zy,FI⟩
  ·rfl
  ·rw[iS]at FI;simp[iS]at ek;subst ek;simp[FI]at dy;obtain⟨Ly',aat,_,kN⟩:=h.eV y zy;rw[dy]at aat;cases aat;rcases mu b ir with Bl|wW
   ·exact (uf y zy FI Ly dy b gK Bl).elim
   ·have:=kN.lt gK;omega
  ·rw[iS]at FH;simp[iS]at dy;subst dy;simp[FH]at ek;obtain⟨Lx',Ny,_,oC⟩:=h.eV x gm;rw[ek]at Ny;cases Ny;rcases mu b gK with Bl|wW
   ·exact (uf x gm FH Lx ek b ir Bl).elim
   ·have:=oC.lt ir;omega
  ·rw[iS]at FH FI;simp[FH]at ek;simp[FI]at dy;exact h.apart x gm y zy Lx Ly ek dy ⟨b,ir,gK⟩
 ·intro b hb hG;exact h.jY b (FG b (h.bound b hG) hb) hG
 ·intro b hG;exact Nat.lt_of_lt_of_le (h.bound b hG) hs
theorem bj.grow{φ G m w w'}(h:bj φ G m w)(hold:∀b,b<w.heap.size→w'.heap[b]?=w.heap[b]?)(hs:w.heap.size≤w'.heap.size):bj φ G m w' where
 nodup:=h.nodup
 oB:=h.oB
 eV:=fun e he=>by
  obtain⟨L,hL,hv,hc⟩:=h.eV e he;exact⟨L,hL,hv,hc.mono (bM.le_refl _) (fun b hb _=>hold b hb) hs (fun _ _ h=>h) (fun b ho=>hold _ (hc.lt ho))⟩
 apart:=h.apart
 jY:=h.jY
 bound:=fun b hG=>Nat.lt_of_lt_of_le (h.bound b hG) hs
theorem aP.grow{φ m w w'}(hold:∀b,b<w.heap.size→w'.heap[b]?=w.heap[b]?)(hs:w.heap.size≤w'.heap.size)(pO:w'.os=w.os)(ht:w'.tape=w.tape)(ho:w'.output=w.output):aP φ m w φ m w':=
 ⟨bM.le_refl _,fun b hb _=>hold b hb,fun _ _ h=>h,hs,pO,ht,ho⟩
abbrev Env:=List (Nat×Bool×AV)
def Env.lk:Env→Nat→Option (Bool×AV)
 |[],_=>none
 |(t,x)::r,u=>if t=u then some x else Env.lk r u
structure St where
 n:Nat
 gl:List (Nat×D)
 env:Env
 mem:Mem
def eF(w:World)(F:Nat→Prop)(gl:List (Nat×D)):Prop:=
 ∀x∈gl,(x.1<w.heap.size∧∀cs,x.2=.agg cs→∃cur e fz,w.heap[x.1]?=some (.cells cur e fz)∧cur.size=cs.length)∧¬F x.1∧∃x',aK w F x.2 x'∧∀(i:Nat)(c:Value),x'.cells[i]?=some c→w.cell? ⟨x.1,i,none⟩=some c
theorem eF.mono{w w':World}{F F':Nat→Prop}{gl}(h:eF w F gl)(hk:∀b,b<w.heap.size→¬F b→w'.heap[b]?=w.heap[b]?)(hs:w.heap.size≤w'.heap.size)
 (hF:∀b,b<w.heap.size→F' b→F b):eF w' F' gl:=fun x hx=>by
 obtain⟨⟨h1,h0⟩,h2,x',h3,h4⟩:=h x hx;exact⟨⟨by omega,by rw[hk _ h1 h2];exact h0⟩,fun hf=>h2 (hF _ h1 hf),x',h3.mono hk hs hF,fun i c hc=>by rw[jG (hk _ h1 h2)];exact h4 i c hc⟩
theorem aP.jZ{φ m w φ' m' w' G gl}(h:aP φ m w φ' m' w')(hx:eF w (Fo G φ m) gl):eF w' (Fo G φ' m') gl:=
 hx.mono (fun b hb hn=>h.wV b hb (fun ho=>hn (.inr ho))) h.size (fun b hb=>Or.imp id (h.own b hb))
structure Rel(φ:bM)(G:Fr)(S:St)(a:Act)(w:World):Prop where
 size:a.tmps.size=S.n
 defers:a.defers=G.dv
 env:∀t x,Env.lk S.env t=some (true,x)→aB φ w (Fo G φ S.mem) x (a.tmps.getD t undef)
 mem:bj φ G S.mem w
 jZ:eF w (Fo G φ S.mem) S.gl
def St.put(S:St)(d:Option Nat)(g:Bool)(x:AV):St:=
 match d with
 |some d=>{S with env:=(d,g,x)::S.env}
 |none=>S
theorem Rel.put{φ G S a w}(h:Rel φ G S a w)(d:Option Nat)(hd:∀t,d=some t→t<S.n)(g:Bool)(x:AV)(v:Value)
 (hx:g=true→aB φ w (Fo G φ S.mem) x v):Rel φ G (S.put d g x) (a.put d v) w:=by
 cases d with
 |none=>exact h
 |some d=>
  have hd:=hd d rfl;refine⟨by simp[Act.put,St.put,h.size],by simp[Act.put,h.defers],?_,h.mem,h.jZ⟩;intro t y hy;simp only[St.put,Env.lk]at hy;by_cases ht:d=t
  ·subst ht;simp only[if_true,Option.some.injEq,Prod.mk.injEq]at hy;obtain⟨rfl,rfl⟩:=hy;have:d<a.tmps.size:=by rw[h.size];exact hd
   have e:(a.put (some d) v).tmps.getD d undef=v:=by simp[Act.put,this]
   rw[e];exact hx rfl
  ·simp only[ht,if_false]at hy;have e:(a.put (some d) v).tmps.getD t undef=a.tmps.getD t undef:=by simp[Act.put,ht]
   rw[e];exact h.env t y hy
theorem Rel.wX{φ G S a w φ' m' w'}(h:Rel φ G S a w)(hm:bj φ' G m' w')(hk:aP φ S.mem w φ' m' w'):Rel φ' G {S with mem:=m'} a w':=
 ⟨h.size,h.defers,fun t x hx=>hk.av (h.env t x hx),hm,hk.jZ h.jZ⟩
theorem m7{v:Value}(h:cv v=true):v.oneCell'=true:=by cases v<;>simp_all [cv,Value.oneCell']
inductive TK where
 |int (k:IntKind)
 |bool
 |str
 |slice (e:TypeId)
 |arr (n:Nat) (e:TypeId)
 |struct
 |iface
 |ptr (e:TypeId)
 |func
 |other
 deriving DecidableEq
def tk(P:Program)(t:TypeId):TK:=
 match P.underlying t with
 |some (.int k)=>.int k
 |some .bool=>.bool
 |some .string=>.str
 |some (.slice e)=>.slice e
 |some (.array n e)=>.arr n e
 |some (.struct _)=>.struct
 |some (.interface _)=>.iface
 |some (.pointer e)=>.ptr e
 |some (.func _ _ _)=>.func
 |_=>.other
def fe(P:Program)(t:TypeId):Option Nat:=(P.info? t).map (·.size)
def vd(P:Program)(s:TypeId)(f:Nat):Option Nat:=
 match P.underlying s with
 |some (.struct fs)=>match fs[f]? with
  |some fl=>match P.info? fl.type with
   |some i=>if i.size=0 then none else some fl.offset
   |none=>none
  |none=>none
 |_=>none
def TK.agg:TK→Bool
 | .arr _ _=>true
 | .struct=>true
 |_=>false
theorem pP{P:Program}{t:TypeId}{w:World}(h:tk P t≠.other):(isAgg t).run P w=.ok (tk P t).agg w:=by
 unfold isAgg;cases hu:P.underlying t with
 |none=>simp[tk,hu]at h
 |some d=>
  rw[Sem.run_bind,run_underlying hu];cases d<;>simp_all [tk,TK.agg]
theorem run_sizeOf{P:Program}{t:TypeId}{n:Nat}{w:World}(h:fe P t=some n):(sizeOf t).run P w=.ok n w:=by
 unfold fe at h;cases hi:P.info? t with
 |none=>simp[hi]at h
 |some i=>simp[hi]at h;simp[sizeOf,typeInfo,hi,h]
theorem ff(b o j:Nat):(⟨b,o,none⟩:Addr).add j=⟨b,o+j,none⟩:=by unfold Addr.add;split<;>simp_all
theorem sr{P:Program}{t:TypeId}{w:World}{a:Addr}{v:Value}(ha:(tk P t).agg=false)(ho:tk P t≠.other)(hc:w.cell? a=some v):
 (Instr.loadAt t (.pointer (some a))).run P w=.ok v w:=by
 simp[Instr.loadAt,Instr.sureAddr,loadVar,Sem.run_bind,pP ho,ha,load,Sem.run,hc]
theorem ss{P:Program}{t:TypeId}{w:World}{b o:Nat}{vs:List Value}(ha:(tk P t).agg=true)(hs:fe P t=some vs.length)
 (hc:∀j v,vs[j]?=some v→w.cell? ⟨b,o+j,none⟩=some v):
 (Instr.loadAt t (.pointer (some ⟨b,o,none⟩))).run P w=.ok (.agg vs.toArray) w:=by
 have ho:tk P t≠.other:=by intro h;rw[h]at ha;cases ha
 have hl:=run_loadCells_list (P:=P) w ⟨b,o,none⟩ vs (fun j v h=>by rw[ff];exact hc j v h);simp[Instr.loadAt,Instr.sureAddr,loadVar,Sem.run_bind,pP ho,ha,run_sizeOf hs,hl]
theorem jj{P:Program}(g o:Nat)(t:TypeId)(fz:Nat×Nat):∀(vs:List Value)(i:Nat)(cur:Array Value)(w:World),w.heap[g]?=some (.cells cur t fz)→(fz=(0,0)∨cur.size≤fz.1)→o+i+vs.length≤cur.size→(∀v∈vs,v.oneCell'=true)→
 (storeCells ⟨g,o,none⟩ vs i).run P w=.ok () (w.setRow g (cur.toList.take (o+i)++vs++cur.toList.drop (o+i+vs.length)).toArray)
 |[],i,cur,w,hg,_,_,_=>by
  simp only[storeCells,List.append_nil,List.length_nil,Nat.add_zero,List.take_append_drop,Array.toArray_toList];rw[setRow_self w g cur t fz hg];rfl
 |v::rest,i,cur,w,hg,Bm,hl,h1=>by
  have hi:o+i<cur.size:=by simp at hl;omega
  have aks:(⟨g,o,none⟩:Addr).add i=⟨g,o+i,none⟩:=by unfold Addr.add;split<;>simp_all
  have nN:w.cell? ⟨g,o+i,none⟩=some cur[o+i]:=by simp[World.cell?,hg,hi]
  have akt:w.frozen? ⟨g,o+i,none⟩=false:=by
   obtain⟨lo,lB⟩:=fz;simp only[World.frozen?,hg,Bool.and_eq_false_iff,decide_eq_false_iff_not];rcases Bm with h|h
   ·cases h;omega
   ·simp only at h;omega
  have db:(store ((⟨g,o,none⟩:Addr).add i) v).run P w=.ok () (w.setRow g (cur.setIfInBounds (o+i) v)):=by
   rw[aks,run_store P w _ v _ (h1 v (by simp)),nN];simp[akt,setCell_eq_setRow w g (o+i) cur t fz v hg]
  have ih:=jj (P:=P) g o t fz rest (i+1) (cur.setIfInBounds (o+i) v) (w.setRow g (cur.setIfInBounds (o+i) v)) (setRow_heap w g cur _ t _ hg) (by simpa using Bm) (by simp at hl⊢;omega) (fun x hx=>h1 x (by simp[hx]));simp only[storeCells,Sem.run_bind,db,Result.andThen_ok,ih,setRow_setRow];congr 3;have e:=list_seg_step cur.toList (o+i) v rest (by simp at hl⊢;omega);simpa [Array.toList_setIfInBounds,Nat.add_assoc]using e
theorem I0{P:Program}{t:TypeId}{w:World}{b o:Nat}{arr:Array Value}{elem:TypeId}{v:Value}(hs:fe P t=some v.cells.size)
 (hg:eL w b arr elem) (hl:o+v.cells.size≤arr.size) (h1:∀x∈v.cells,cv x=true):
 (Instr.storeAt t (.pointer (some ⟨b,o,none⟩)) v).run P w=.ok () (w.setRow b (arr.toList.take o++v.cells.toList++arr.toList.drop (o+v.cells.size)).toArray):=by
 obtain⟨fz,hg,Bm⟩:=hg;have h:=jj (P:=P) b o elem fz v.cells.toList 0 arr w hg Bm (by simpa using hl) (fun x hx=>m7 (h1 x (by simpa using hx)));simp only[Nat.add_zero,Array.length_toList]at h;simp[Instr.storeAt,Instr.sureAddr,storeVar,Sem.run_bind,run_sizeOf hs,h]
def D.cells:D→List D
 | .agg cs=>cs
 |x=>[x]
def D.at(xs:List D)(i:Nat):D:=xs[i]?.getD (.bool false)
def D.cell(x:D)(j:Nat):D:=x.cells[j]?.getD (.bool false)
def toD1:AV→Option D
 | .d x=>some x
 | .lit (.slice none 0 0)=>some (.list [])
 | .nn=>some (.list [])
 |_=>none
def gg:List AV→Option (List D)
 |[]=>some []
 |x::r=>match x,gg r with
  | .d y,some ys=>some (y::ys)
  |_,_=>none
def toDsN:List AV→Option (List D)
 |[]=>some []
 |x::r=>match toD1 x,toDsN r with
  |some y,some ys=>some (y::ys)
  |_,_=>none
def mkAgg(cs:List AV):AV:=match gg cs with|some ds=>.d (.agg ds)|none=>.agg cs
def AV.norm:AV→AV
 | .agg cs=>match toDsN cs with|some ds=>.d (.agg ds)|none=>.agg cs
 | .lit (.slice none 0 0)=>.d (.list [])
 | .nn=>.d (.list [])
 |x=>x
def AV.cells:AV→List AV
 | .agg cs=>cs
 | .d (.agg ds)=>ds.map .d
 |x=>[x]
theorem D.fO(x:D):x.cells.length=x.size:=by cases x<;>rfl
theorem Nz{w:World}{F:Nat→Prop}{x:D}{v:Value}(hf:x.flat=true)(h:aK w F x v)(hx:x.cells=[x])(hv:v.cells=#[v]):
 v.cells.toList.length=x.cells.length∧(∀u∈v.cells,cv u=true)∧∀(i:Nat)(c:D)(u:Value),x.cells[i]?=some c→v.cells[i]?=some u→aK w F c u∧c.flat=true:=by
 rw[hx,hv];refine⟨rfl,fun u hu=>by simp at hu;subst hu;exact h.one hf,fun i c u h1 h2=>?_⟩;cases i with
 |zero=>simp at h1 h2;subst h1;subst h2;exact⟨h,hf⟩
 |succ i=>simp at h1
theorem aK.cells{w F x v}(h:aK w F x v):v.cells.toList.length=x.cells.length∧(∀u∈v.cells,cv u=true)∧∀(i:Nat)(c:D)(u:Value),x.cells[i]?=some c→v.cells[i]?=some u→aK w F c u∧c.flat=true:=by
 cases hd:x with
 |agg cs=>
  subst hd;cases h with
  |agg cs a hl hf hc=>
   refine⟨by simp[D.cells,Value.cells,hl],?_,fun i c u h1 h2=>⟨hc i c u h1 h2,hf c (List.mem_of_getElem? h1)⟩⟩;intro u hu;have hu:u∈a:=hu;obtain⟨i,hi,rfl⟩:=Array.mem_iff_getElem.1 hu;have lB:i<cs.length:=by rw[hl];exact hi
   exact (hc i cs[i] a[i] (by simp[lB]) (by simp[hi])).one (hf _ (List.getElem_mem lB))
 |_=>subst hd;exact Nz rfl h rfl (dN (h.one rfl))
theorem aK.nj{w F}{cs:List D}{vs:List Value}(hl:cs.length=vs.length)(h1:∀v∈vs,cv v=true)
 (hc:∀(i:Nat) c v,cs[i]?=some c→vs[i]?=some v→aK w F c v):aK w F (.agg cs) (.agg vs.toArray):=by
 refine .agg cs vs.toArray (by simpa using hl) ?_ (fun i d v h h'=>hc i d v h (by simpa using h'));intro d hd;obtain⟨i,hi,rfl⟩:=List.mem_iff_getElem.1 hd;have lB:i<vs.length:=by omega
 have h3:=hc i cs[i] vs[i] (by simp[hi]) (by simp[lB]);have h2:=h1 vs[i] (List.getElem_mem lB);revert h3 h2
 generalize vs[i]=v;generalize cs[i]=c;intro h3 h2;cases h3<;>simp_all [D.flat,cv]
theorem Ae{φ w F}:∀{cs:List AV}{ds:List D}{vs:List Value},gg cs=some ds→(∀(i:Nat) c v,cs[i]?=some c→vs[i]?=some v→aB φ w F c v)→
 cs.length=ds.length∧∀(i:Nat) d v,ds[i]?=some d→vs[i]?=some v→aK w F d v
 |[],ds,vs,h,_=>by simp[gg]at h;subst h;simp
 |x::r,ds,vs,h,hc=>by
  simp only[gg]at h;split at h<;>simp at h;rename_i y ys hy;subst h;cases vs with
  |nil=>
   have ih:=Ae (φ:=φ) (w:=w) (F:=F) (vs:=[]) hy (fun i c v _ h2=>by simp at h2);exact⟨by simp[ih.1],fun i d v _ h2=>by simp at h2⟩
  |cons v0 vs=>
   have ih:=Ae (vs:=vs) hy (fun i c v h1 h2=>hc (i+1) c v (by simpa using h1) (by simpa using h2));refine⟨by simp[ih.1],fun i d v h1 h2=>?_⟩;cases i with
   |zero=>
    simp at h1 h2;subst h1;subst h2;have:=hc 0 (.d y) v0 (by simp) (by simp);cases this with|d _ _ h=>exact h
   |succ i=>exact ih.2 i d v (by simpa using h1) (by simpa using h2)
theorem FJ{φ w F x d v}(h:toD1 x=some d)(hx:aB φ w F x v):aK w F d v:=by
 unfold toD1 at h;split at h<;>simp at h
 ·subst h;cases hx with|d _ _ h=>exact h
 ·subst h;cases hx;exact .nil none 0 fun _=>rfl
 ·subst h;cases hx;exact .nil _ _ (by simp)
theorem su{φ w F}:∀{cs:List AV}{ds:List D}{vs:List Value},toDsN cs=some ds→(∀(i:Nat) c v,cs[i]?=some c→vs[i]?=some v→aB φ w F c v)→
 cs.length=ds.length∧∀(i:Nat) d v,ds[i]?=some d→vs[i]?=some v→aK w F d v
 |[],ds,vs,h,_=>by simp[toDsN]at h;subst h;simp
 |x::r,ds,vs,h,hc=>by
  simp only[toDsN]at h;split at h<;>simp at h;rename_i y ys hx hy;subst h;cases vs with
  |nil=>
   have ih:=su (φ:=φ) (w:=w) (F:=F) (vs:=[]) hy (fun i c v _ h2=>by simp at h2);exact⟨by simp[ih.1],fun i d v _ h2=>by simp at h2⟩
  |cons v0 vs=>
   have ih:=su (vs:=vs) hy (fun i c v h1 h2=>hc (i+1) c v (by simpa using h1) (by simpa using h2));refine⟨by simp[ih.1],fun i d v h1 h2=>?_⟩;cases i with
   |zero=>
    simp at h1 h2;subst h1;subst h2;exact FJ hx (hc 0 x v0 (by simp) (by simp))
   |succ i=>exact ih.2 i d v (by simpa using h1) (by simpa using h2)
theorem wY{φ w F}{cs:List AV}{vs:List Value}(hl:cs.length=vs.length)(h1:∀v∈vs,cv v=true)
 (hc:∀(i:Nat) c v,cs[i]?=some c→vs[i]?=some v→aB φ w F c v):aB φ w F (mkAgg cs) (.agg vs.toArray):=by
 unfold mkAgg;split
 ·rename_i ds jk;have:=Ae jk hc;exact .d _ _ (.nj (by omega) h1 this.2)
 ·exact .agg cs vs.toArray (by simpa using hl) (fun v hv=>h1 v (by simpa using hv)) (fun i c v h h'=>hc i c v h (by simpa using h'))
theorem aB.norm{φ w F x v}(h:aB φ w F x v):aB φ w F x.norm v:=by
 unfold AV.norm;split
 ·rename_i cs;split
  ·rename_i ds jk;cases h with
   |agg _ a hl h1 hc=>
    have:=su (vs:=a.toList) jk (fun i c v h h'=>hc i c v h (by simpa using h'));have h2:=aK.nj (w:=w) (F:=F) (cs:=ds) (vs:=a.toList) (by simp;omega) (fun v hv=>h1 v (by simpa using hv)) this.2;rw[Array.toArray_toList]at h2;exact .d _ _ h2
  ·exact h
 ·cases h;exact .d _ _ (.nil none 0 fun _=>rfl)
 ·cases h;exact .d _ _ (.nil _ _ (by simp))
 ·exact h
theorem aB.cells{φ w F x v}(h:aB φ w F x v)(h1:∀u∈v.cells,cv u=true)(hl:v.cells.size=x.cells.length):
 ∀(i:Nat) c u,x.cells[i]?=some c→v.cells[i]?=some u→aB φ w F c u:=by
 cases h with
 |agg cs a hl h1 hc=>exact fun i c u dL hu=>hc i c u dL hu
 |d x v h=>
  intro i c u dL hu;have:=h.cells;cases x with
  |agg cs=>
   simp only[AV.cells,List.getElem?_map,Option.map_eq_some_iff]at dL;obtain⟨y,hy,rfl⟩:=dL;exact .d _ _ (this.2.2 i y u hy hu).1
  |_=>
   simp only[AV.cells]at dL;cases i with
   |zero=>simp at dL;subst dL;exact .d _ _ (this.2.2 0 _ u rfl hu).1
   |succ i=>simp at dL
 |aZ v=>
  intro i c u dL hu;cases i with
  |zero=>simp[AV.cells]at dL;subst dL;exact .aZ _
  |succ i=>simp[AV.cells]at dL
 |ptr k aj off v L hL hv h h2=>
  intro i c u dL hu;rw[dN h2]at hu;cases i with
  |zero=>simp[AV.cells]at dL hu;subst dL;subst hu;exact .ptr k aj off v L hL hv h h2
  |succ i=>simp[AV.cells]at dL
 |vec k aj off len v L hL hv h h2=>
  intro i c u dL hu;rw[dN h2]at hu;cases i with
  |zero=>simp[AV.cells]at dL hu;subst dL;subst hu;exact .vec k aj off len v L hL hv h h2
  |succ i=>simp[AV.cells]at dL
 |cD k aj p j v L hL hv h h2=>
  intro i c u dL hu;rw[dN h2]at hu;cases i with
  |zero=>simp[AV.cells]at dL hu;subst dL;subst hu;exact .cD k aj p j v L hL hv h h2
  |succ i=>simp[AV.cells]at dL
 |dE x j b off x' hb hF hx hc=>
  intro i c u dL hu;cases i with
  |zero=>simp[AV.cells,Value.cells]at dL hu;subst dL;subst hu;exact .dE x j b off x' hb hF hx hc
  |succ i=>simp[AV.cells]at dL
 |fn f cap a hf DD hc=>
  intro i c u dL hu;cases i with
  |zero=>simp[AV.cells,Value.cells]at dL hu;subst dL;subst hu;exact .fn f cap a hf DD hc
  |succ i=>simp[AV.cells]at dL
 |qx f cap a DD hc=>
  intro i c u dL hu;cases i with
  |zero=>simp[AV.cells,Value.cells]at dL hu;subst dL;subst hu;exact .qx f cap a DD hc
  |succ i=>simp[AV.cells]at dL
 |aU vs a hl hc=>
  have:=h1 (.tuple a) (by simp[Value.cells]);simp[cv]at this
 |gJ t x v h=>
  intro i c u dL hu;cases i with
  |zero=>simp[AV.cells,Value.cells]at dL hu;subst dL;subst hu;exact .gJ t x v h
  |succ i=>simp[AV.cells]at dL
 |lit v h2=>
  intro i c u dL hu;rw[dN h2]at hu;cases i with
  |zero=>simp[AV.cells]at dL hu;subst dL;subst hu;exact .lit _ h2
  |succ i=>simp[AV.cells]at dL
 |nn a cap=>
  intro i c u dL hu;cases i with
  |zero=>simp[AV.cells,Value.cells]at dL hu;subst dL;subst hu;exact .nn a cap
  |succ i=>simp[AV.cells]at dL
 |err t v=>
  intro i c u dL hu;cases i with
  |zero=>simp[AV.cells,Value.cells]at dL hu;subst dL;subst hu;exact .err t v
  |succ i=>simp[AV.cells]at dL
def constAV:Value→AV
 | .int k n=>.d (.int k n)
 | .bool b=>.d (.bool b)
 | .string s=>.d (.str s.data.toList)
 | .agg _=>.aZ
 | .tuple _=>.aZ
 |v=>.lit v
theorem zz(φ w F v):aB φ w F (constAV v) v:=by
 cases v<;>first|exact .d _ _ (.int _ _)|exact .d _ _ (.bool _)|exact .d _ _ (.str _ _ rfl)|exact .aZ _|exact .lit _ rfl
def glk:List (Nat×D)→Nat→Option D
 |[],_=>none
 |(g,d)::r,k=>if g=k then some d else glk r k
theorem Ju:∀{l:List (Nat×D)}{g d},glk l g=some d→(g,d)∈l
 |[],g,d,h=>by simp[glk]at h
 |(g',d')::r,g,d,h=>by
  simp only[glk]at h;split at h
  ·rename_i hg;subst hg;cases h;simp
  ·have:=Ju h;simp[this]
def St.opd(S:St):Operand→Bool×AV
 | .tmp t=>(Env.lk S.env t).getD (true,.aZ)
 | .const v=>(true,constAV v)
 | .global g=>match glk S.gl g with
  |some d=>(true,.dE d 0)
  |none=>(true,.lit (.pointer (some ⟨g,0,none⟩)))
 | .func f=>(decide (f<bnB),.fn f [])
theorem Rel.opd{φ G S a w}(h:Rel φ G S a w)(x:Operand)(hx:(S.opd x).1=true):aB φ w (Fo G φ S.mem) (S.opd x).2 (a.eval x):=by
 cases x with
 |tmp t=>
  simp only[St.opd]at hx⊢;cases hl:Env.lk S.env t with
  |none=>exact .aZ _
  |some y=>
   obtain⟨g,x⟩:=y;rw[hl]at hx;simp only[Option.getD_some]at hx⊢;subst hx;exact h.env t x hl
 |const v=>exact zz ..
 |global g=>
  simp only[St.opd]at hx⊢;split
  ·rename_i d hd;obtain⟨⟨h1,_⟩,h2,x',h3,h4⟩:=h.jZ _ (Ju hd);have e:a.eval (.global g)=.pointer (some ⟨g,0+0,none⟩):=rfl;rw[e];exact .dE d 0 g 0 x' h1 h2 h3 (fun i c hi=>by simpa using h4 i c hi)
  ·exact .lit _ rfl
 |func f=>exact .fn f [] #[] (by simpa [St.opd]using hx) rfl (by simp)
inductive di where
 |no
 |val (c:Bool) (x:AV)
 |cW (c:Bool) (x:AV) (e:cH)
def Bn(P:Program)(o:Oper)(a:Act)(w:World)(v:Value)(w':World):Prop:=
 (execOp a.eval o).run P w=.ok (.value v) w'∨((execOp a.eval o).run P w=.ok .skip w'∧v=undef)
def aH(P:Program)(S:St)(o:Oper):di→Prop
 | .no=>True
 | .val c x=>c=true→∀φ G a w,Rel φ G S a w→∃v w',Bn P o a w v w'∧aB φ w' (Fo G φ S.mem) x v∧
  (∀b,b<w.heap.size→w'.heap[b]?=w.heap[b]?)∧w.heap.size≤w'.heap.size∧w'.os=w.os∧w'.tape=w.tape∧w'.output=w.output
 | .cW c x e=>c=true→∀φ G a w,Rel φ G S a w→∃v w' φ',Bn P o a w v w'∧aB φ' w' (Fo G φ' (Mem.set S.mem e)) x v∧
  bj φ' G (Mem.set S.mem e) w'∧aP φ S.mem w φ' (Mem.set S.mem e) w'∧∀k,k≠e.key→φ' k=φ k
theorem aH.pure{P S o x}{c:Prop}[Decidable c](h:c→∀φ G a w,Rel φ G S a w→∃v,(execOp a.eval o).run P w=.ok (.value v) w∧aB φ w (Fo G φ S.mem) x v):aH P S o (.val (decide c) x):=by
 intro hc φ G a w hr;obtain⟨v,h1,h2⟩:=h (of_decide_eq_true hc) φ G a w hr;exact⟨v,w,.inl h1,h2,fun _ _=>rfl,Nat.le_refl _,rfl,rfl,rfl⟩
theorem aH.qm{P S o x e}{c:Prop}[Decidable c](h:c→∀φ G a w,Rel φ G S a w→∃v w' φ',Bn P o a w v w'∧aB φ' w' (Fo G φ' (Mem.set S.mem e)) x v∧
 bj φ' G (Mem.set S.mem e) w'∧aP φ S.mem w φ' (Mem.set S.mem e) w'∧∀k,k≠e.key→φ' k=φ k):aH P S o (.cW (decide c) x e):=fun hc=>h (of_decide_eq_true hc)
theorem aH.aku{P S o x}{c:Prop}[Decidable c](h:c→∀φ G a w,Rel φ G S a w→∃v w',Bn P o a w v w'∧aB φ w' (Fo G φ S.mem) x v∧
 (∀b,b<w.heap.size→w'.heap[b]?=w.heap[b]?)∧w.heap.size≤w'.heap.size∧w'.os=w.os∧w'.tape=w.tape∧w'.output=w.output):aH P S o (.val (decide c) x):=fun hc=>h (of_decide_eq_true hc)
theorem aH.px{P S o x}{c:Bool}(h:c=true→∀φ G a w,Rel φ G S a w→∃v,(execOp a.eval o).run P w=.ok (.value v) w∧aB φ w (Fo G φ S.mem) x v):aH P S o (.val c x):=by
 intro hc φ G a w hr;obtain⟨v,h1,h2⟩:=h hc φ G a w hr;exact⟨v,w,.inl h1,h2,fun _ _=>rfl,Nat.le_refl _,rfl,rfl,rfl⟩
def j0(P:Program)(S:St)(o:Oper):di→Prop
 | .no=>True
 | .val c x=>c=true→∀φ G a w,Rel φ G S a w→∃v,(execOp a.eval o).run P w=.ok (.value v) w∧aB φ w (Fo G φ S.mem) x v
 | .cW _ _ _=>False
theorem j0.of{P S o x}{c:Prop}[Decidable c](h:c→∀φ G a w,Rel φ G S a w→∃v,(execOp a.eval o).run P w=.ok (.value v) w∧aB φ w (Fo G φ S.mem) x v):j0 P S o (.val (decide c) x):=fun hc=>h (of_decide_eq_true hc)
theorem j0.res{P S o r}(h:j0 P S o r):aH P S o r:=by
 cases r with
 |no=>trivial
 |val c x=>
  intro hc φ G a w hr;obtain⟨v,h1,h2⟩:=h hc φ G a w hr;exact⟨v,w,.inl h1,h2,fun _ _=>rfl,Nat.le_refl _,rfl,rfl,rfl⟩
 |cW c x e=>exact h.elim
def loadR(P:Program)(m:Mem)(t:TypeId)(p:AV):di:=
 match p with
 | .ptr k aj off=>match Mem.get m k with
  |some ⟨_,v,.box cs⟩=>match (tk P t).agg with
   |true=>match fe P t with
    |some n=>.val (v=aj∧off+n≤cs.length) (mkAgg ((cs.drop off).take n))
    |none=>.no
   |false=>.val (v=aj∧tk P t≠.other∧off<cs.length) (cs[off]?.getD .aZ)
  |_=>.no
 | .cD k aj i j=>match Mem.get m k with
  |some ⟨_,v,.vec sz rows⟩=>match (tk P t).agg with
   |true=>.val (v=aj∧i<rows.length∧fe P t=some sz∧j=0∧(D.at rows i).flat=false) (.d (D.at rows i))
   |false=>.val (v=aj∧tk P t≠.other∧i<rows.length∧j<sz) (.d (D.cell (D.at rows i) j))
  |some ⟨_,v,.vv rows (some y)⟩=>match (tk P t).agg with
   |true=>.no
   |false=>.val (v=aj∧tk P t≠.other∧i=rows.length∧j=0) y
  |_=>.no
 | .dE x j=>match (tk P t).agg with
  |true=>match j with
   |0=>.val (fe P t=some x.size∧x.flat=false) (.d x)
   |j=>match fe P t with
    |some n=>.val (j+n≤x.size) (.d (.agg ((x.cells.drop j).take n)))
    |none=>.no
  |false=>.val (tk P t≠.other∧j<x.size) (.d (x.cell j))
 |_=>.no
theorem bj.get{φ G m w}(h:bj φ G m w){k e}(hg:Mem.get m k=some e):e∈m∧e.key=k∧∃L,φ k=some L∧L.aj=e.aj∧dO φ w (Fo G φ m) L e.cont:=by
 obtain⟨hm,hk⟩:=Mem.get_mem hg;obtain⟨L,h1,h2,h3⟩:=h.eV e hm;rw[hk]at h1;exact⟨hm,hk,L,h1,h2,h3⟩
theorem aB.pQ{φ w F k aj off v L}(h:aB φ w F (.ptr k aj off) v)(hL:φ k=some L)(hv:L.aj=aj):v=.pointer (some ⟨L.du,off,none⟩):=by
 cases h with|ptr _ _ _ _ L' bO _ h _=>rw[hL]at bO;cases bO;exact h hv.symm
theorem aB.j6{φ w F k aj i j v L}(h:aB φ w F (.cD k aj i j) v)(hL:φ k=some L)(hv:L.aj=aj):v=.pointer (some ⟨L.du,L.base+i*L.sz+j,none⟩):=by
 cases h with|cD _ _ _ _ _ L' bO _ h _=>rw[hL]at bO;cases bO;exact h hv.symm
theorem DE{w:World}{b:Nat}{arr:Array Value}{e:TypeId}{fr}(h:w.heap[b]?=some (.cells arr e fr))(o:Nat):w.cell? ⟨b,o,none⟩=arr[o]?:=by
 simp[World.cell?,h]
theorem gv{w:World}{b:Nat}{arr:Array Value}{e:TypeId}(h:eL w b arr e)(o:Nat):w.cell? ⟨b,o,none⟩=arr[o]?:=by
 obtain⟨fr,h,_⟩:=h;exact DE h o
theorem ji{xs:List D}{i:Nat}(h:i<xs.length):xs[i]?=some (D.at xs i):=by simp[D.at,h]
theorem tB{w F x v}(h:aK w F x v)(hf:x.flat=false):∃arr,v=.agg arr:=by
 cases h<;>simp_all [D.flat]
theorem Jv(P:Program)(S:St)(o:Oper)(t:TypeId)(x:Operand)(ho:o.op=.load t x)(hx:(S.opd x).1=true):j0 P S o (loadR P S.mem t (S.opd x).2):=by
 have bL:∀(a:Act)(w:World)(v:Value),(Instr.loadAt t (a.eval x)).run P w=.ok v w→(execOp a.eval o).run P w=.ok (.value v) w:=by
  intro a w v h;simp[execOp,ho,h]
 unfold loadR;split
 ·rename_i k aj off hp;split
  ·rename_i key v cs hg;split
   ·rename_i j7;split
    ·rename_i n hn;refine j0.of ?_;rintro ⟨rfl,hle⟩ φ G a w hr;have hv:=hr.opd x hx;rw[hp]at hv;obtain⟨hm,hk,L,hL,aA,_,arr,elem,hh,bQ,h1,eh⟩:=hr.mem.get hg;have e:=hv.pQ hL aA;have hlen:((arr.toList.drop off).take n).length=n:=by simp;omega
     refine⟨.agg ((arr.toList.drop off).take n).toArray,bL a w _ ?_,?_⟩
     ·rw[e];refine ss j7 (by rw[hlen];exact hn) (fun j v hj=>?_);rw[gv hh];rw[List.getElem?_take]at hj;split at hj
      ·simpa using hj
      ·cases hj
     ·refine wY (by rw[hlen];simp;omega) (fun v hv=>h1 v ?_) (fun i c v hc hv=>?_)
      ·have:=List.mem_of_mem_take hv;simpa using List.mem_of_mem_drop this
      ·rw[List.getElem?_take]at hc hv;split at hc
       ·rename_i hi;simp only[hi,if_true]at hv;exact eh (off+i) c v (by simpa using hc) (by simpa using hv)
       ·cases hc
    ·trivial
   ·rename_i j7;refine j0.of ?_;rintro ⟨rfl,bE,bn⟩ φ G a w hr;have hv:=hr.opd x hx;rw[hp]at hv;obtain⟨hm,hk,L,hL,aA,_,arr,elem,hh,bQ,h1,eh⟩:=hr.mem.get hg;have e:=hv.pQ hL aA;have aau:off<arr.size:=by omega
    refine⟨arr[off],bL a w _ ?_,eh off _ _ ?_ (by simp[aau])⟩
    ·rw[e];exact sr j7 bE (by rw[gv hh];simp[aau])
    ·simp[bn]
  ·trivial
 ·rename_i k aj i j hp;split
  ·rename_i key v sz rows hg;split
   ·rename_i j7;refine j0.of ?_;rintro ⟨rfl,bn,jl,rfl,hf⟩ φ G a w hr;have hv:=hr.opd x hx;rw[hp]at hv;obtain⟨hm,hk,L,hL,aA,vg,dg,lC,iT⟩:=hr.mem.get hg;have e:=hv.j6 hL aA;obtain⟨arr,elem,hh,bQ,h1,eh⟩:=iT (by omega);obtain⟨u,hu,DG⟩:=eh i _ (ji bn);obtain⟨ua,rfl⟩:=tB hu hf;refine⟨.agg ua,bL a w _ ?_,.d _ _ hu⟩;rw[e];have zA:ua.toList.length=sz:=by
     have h3:=hu.size;rw[lC _ (List.mem_of_getElem? (ji bn)),vg]at h3;simpa [Value.cells]using h3
    have:=ss (P:=P) (t:=t) (w:=w) (b:=L.du) (o:=L.base+i*L.sz+0) (vs:=ua.toList) j7 (by rw[zA];exact jl) (fun j v hj=>by
     rw[gv hh];exact DG j v (by simpa [Value.cells]using hj))
    simpa using this
   ·rename_i j7;refine j0.of ?_;rintro ⟨rfl,bE,bn,hj⟩ φ G a w hr;have hv:=hr.opd x hx;rw[hp]at hv;obtain⟨hm,hk,L,hL,aA,vg,dg,lC,iT⟩:=hr.mem.get hg;have e:=hv.j6 hL aA;obtain⟨arr,elem,hh,bQ,h1,eh⟩:=iT (by omega);obtain⟨u,hu,DG⟩:=eh i _ (ji bn);have zA:(D.at rows i).size=sz:=by rw[lC _ (List.mem_of_getElem? (ji bn)),vg]
    have oD:j<u.cells.size:=by rw[hu.size,zA];exact hj
    have hjd:j<(D.at rows i).cells.length:=by rw[D.fO,zA];exact hj
    refine⟨u.cells[j],bL a w _ ?_,.d _ _ (hu.cells.2.2 j _ _ (by simp[D.cell,hjd]) (by simp[oD])).1⟩;rw[e];exact sr j7 bE (by rw[gv hh];exact DG j _ (by simp[oD]))
  ·rename_i key v rows y hg;split
   ·trivial
   ·rename_i j7;refine j0.of ?_;rintro ⟨rfl,bE,rfl,rfl⟩ φ G a w hr;have hv:=hr.opd x hx;rw[hp]at hv;obtain⟨hm,hk,L,hL,aA,⟨oE,dg,_⟩,_,_,iT⟩:=hr.mem.get hg;have e:=hv.j6 hL aA;simp only[Option.toList_some,List.length_singleton]at dg;obtain⟨arr,elem,hh,bQ,h1,_,eh⟩:=iT (by omega);obtain⟨u,hu,hyu⟩:=eh y rfl;refine⟨u,bL a w _ ?_,hyu⟩;rw[e];exact sr j7 bE (by rw[gv hh,oE,Nat.mul_one,Nat.add_zero];exact hu)
  ·trivial
 ·rename_i d j hp;split
  ·rename_i j7;split
   ·refine j0.of ?_;rintro ⟨jl,hf⟩ φ G a w hr;have hv:=hr.opd x hx;rw[hp]at hv;generalize bY:a.eval x=av at hv;cases hv with
    |dE _ _ b off x' hb hF oF hc=>
     obtain⟨ua,rfl⟩:=tB oF hf;refine⟨.agg ua,bL a w _ ?_,.d _ _ oF⟩;rw[bY];exact ss (vs:=ua.toList) j7 (by rw[jl];have:=oF.size;simp[Value.cells]at this;simp[this]) (fun j v hj=>hc j v (by simpa [Value.cells]using hj))
   ·split
    ·rename_i n hn;refine j0.of ?_;intro hle φ G a w hr;have hv:=hr.opd x hx;rw[hp]at hv;generalize bY:a.eval x=av at hv;cases hv with
     |dE _ _ b off x' hb hF oF hc=>
      have kO:=oF.cells;have hl:x'.cells.toList.length=d.size:=by rw[kO.1,D.fO]
      have hlen:((x'.cells.toList.drop j).take n).length=n:=by simp at hl⊢;omega
      refine⟨.agg ((x'.cells.toList.drop j).take n).toArray,bL a w _ ?_,.d _ _ (.nj ?_ ?_ ?_)⟩
      ·rw[bY];refine ss j7 (by rw[hlen];exact hn) (fun i v hi=>?_);rw[List.getElem?_take]at hi;split at hi
       ·rw[show off+j+i=off+(j+i) by omega];exact hc (j+i) v (by simpa using hi)
       ·cases hi
      ·rw[hlen];simp[D.fO];omega
      ·intro v hv;exact kO.2.1 v (by simpa using List.mem_of_mem_drop (List.mem_of_mem_take hv))
      ·intro i c v h1 h2;rw[List.getElem?_take]at h1 h2;split at h1
       ·rename_i hi;simp only[hi,if_true]at h2;exact (kO.2.2 (j+i) c v (by simpa using h1) (by simpa using h2)).1
       ·cases h1
    ·trivial
  ·rename_i j7;refine j0.of ?_;rintro ⟨bE,hj⟩ φ G a w hr;have hv:=hr.opd x hx;rw[hp]at hv;generalize bY:a.eval x=av at hv;cases hv with
   |dE _ _ b off x' hb hF oF hc=>
    have oD:j<x'.cells.size:=by rw[oF.size];exact hj
    have hjd:j<d.cells.length:=by rw[D.fO];exact hj
    refine⟨x'.cells[j],bL a w _ ?_,.d _ _ (oF.cells.2.2 j _ _ (by simp[D.cell,hjd]) (by simp[oD])).1⟩;rw[bY];exact sr j7 bE (hc j _ (by simp[oD]))
 ·trivial
def AV.solid:AV→Bool
 | .aZ=>false
 | .aU _=>false
 |_=>true
theorem aB.solid{φ w F x v}(h:aB φ w F x v)(hs:x.solid=true):v.cells.size=x.cells.length∧∀u∈v.cells,cv u=true:=by
 have one:∀{v:Value}{x:AV},cv v=true→x.cells.length=1→v.cells.size=x.cells.length∧∀u∈v.cells,cv u=true:=by
  intro v x h1 hl;rw[dN h1,hl];exact⟨rfl,fun u hu=>by simp at hu;subst hu;exact h1⟩
 cases h with
 |aZ=>simp[AV.solid]at hs
 |aU=>simp[AV.solid]at hs
 |d x v h=>
  have hc:=h.cells;refine⟨?_,hc.2.1⟩;have:=hc.1;cases x<;>simp_all [AV.cells,D.cells]
 |agg cs a hl h1 hc=>exact⟨by simp[Value.cells,AV.cells,hl],h1⟩
 |ptr _ _ _ _ _ _ _ _ h1=>exact one h1 rfl
 |vec _ _ _ _ _ _ _ _ _ h1=>exact one h1 rfl
 |cD _ _ _ _ _ _ _ _ _ h1=>exact one h1 rfl
 |dE=>exact one rfl rfl
 |fn=>exact one rfl rfl
 |qx=>exact one rfl rfl
 |gJ=>exact one rfl rfl
 |lit _ h1=>exact one h1 rfl
 |nn=>exact one rfl rfl
 |err=>exact one rfl rfl
def putCells{α:Type}(cs:List α)(off:Nat)(ys:List α):List α:=
 match ys with
 |[y]=>cs.set off y
 |ys=>cs.take off++ys++cs.drop (off+ys.length)
theorem dn{α:Type}(cs:List α)(off:Nat)(ys:List α)(h:off+ys.length≤cs.length):putCells cs off ys=cs.take off++ys++cs.drop (off+ys.length):=by
 unfold putCells;split
 ·rename_i y;simp at h;rw[List.set_eq_take_append_cons_drop,if_pos (by omega)];simp
 ·rfl
theorem bN{α:Type}(cs:List α)(off:Nat)(ys:List α)(h:off+ys.length≤cs.length):(putCells cs off ys).length=cs.length:=by
 rw[dn cs off ys h];simp;omega
theorem gw{α:Type}(cs:List α)(off:Nat)(ys:List α)(h:off+ys.length≤cs.length)(i:Nat):
 (putCells cs off ys)[i]?=if i<off then cs[i]? else if i<off+ys.length then ys[i-off]? else cs[i]?:=by
 rw[dn cs off ys h];by_cases h1:i<off
 ·rw[if_pos h1,List.append_assoc,List.getElem?_append_left (by simp;omega),List.getElem?_take,if_pos h1]
 ·rw[if_neg h1,List.append_assoc,List.getElem?_append_right (by simp;omega)];simp only[List.length_take,Nat.min_eq_left (show off≤cs.length by omega)];by_cases h2:i<off+ys.length
  ·rw[if_pos h2,List.getElem?_append_left (by omega)]
  ·rw[if_neg h2,List.getElem?_append_right (by omega),List.getElem?_drop];congr 1;omega
theorem rr{α β:Type}{R:α→β→Prop}{cs ys:List α}{vs us:List β}{off:Nat}(hl:cs.length=vs.length)(DD:ys.length=us.length)(h:off+ys.length≤cs.length)
 (hc:∀(i:Nat) c v,cs[i]?=some c→vs[i]?=some v→R c v) (hy:∀(i:Nat) c v,ys[i]?=some c→us[i]?=some v→R c v):
 ∀(i:Nat) c v,(putCells cs off ys)[i]?=some c→(putCells vs off us)[i]?=some v→R c v:=by
 intro i c v;rw[gw cs off ys h,gw vs off us (by omega),←DD];split
 ·exact hc i c v
 ·split
  ·exact hy _ c v
  ·exact hc i c v
theorem Af{φ G m w}(h:bj φ G m w):∀b,Fo G φ m b→b<w.heap.size:=fun b hb=>hb.elim (h.bound b) (fun ho=>h.Bk ho)
theorem mW(w:World)(g k:Nat)(cs:Array Value)(h:k≠g):(w.setRow g cs).heap[k]?=w.heap[k]?:=by
 simp only[World.setRow,Array.getElem?_modify];rw[if_neg (fun e=>h e.symm)]
theorem bj.FK{φ G m w}(h:bj φ G m w){e:cH}(he:e∈m){L:Loc}(hL:φ e.key=some L)(aA:L.aj=e.aj){b0:Nat}(ho:e.cont.cN L b0)(fW:Array Value)
 (L':Loc) (hv:e.aj≤L'.aj) (Nx:L'.aj=L.aj→L'={L with cM:=L'.cM}) (c':aE) (mu:∀b,c'.cN L' b→e.cont.cN L b)
 (hc:∀φ':bM,φ.le φ'→(∀x v,aB φ w (Fo G φ m) x v→aB φ' (w.setRow b0 fW) (Fo G φ' (Mem.set m ⟨e.key,L'.aj,c'⟩)) x v)→
  (∀x v,aK w (Fo G φ m) x v→aK (w.setRow b0 fW) (Fo G φ' (Mem.set m ⟨e.key,L'.aj,c'⟩)) x v)→
  dO φ' (w.setRow b0 fW) (Fo G φ' (Mem.set m ⟨e.key,L'.aj,c'⟩)) L' c'):
 ∃φ',bj φ' G (Mem.set m ⟨e.key,L'.aj,c'⟩) (w.setRow b0 fW)∧aP φ m w φ' (Mem.set m ⟨e.key,L'.aj,c'⟩) (w.setRow b0 fW)∧φ' e.key=some L'∧∀k,k≠e.key→φ' k=φ k:=by
 have fw:iq φ m b0:=⟨e,he,L,hL,ho⟩;refine h.cW (e':=⟨e.key,L'.aj,c'⟩) he hL rfl (L':=L') (by rw[aA];exact hv) Nx rfl
  (fun b hb hn=>mW w b0 b fW (fun heq=>hn (heq▸ho))) (by simp) (fun b hb=>.inl (mu b hb)) rfl rfl rfl ?_
 intro φ' hφ hle;have hF:∀b,b<w.heap.size→Fo G φ' (Mem.set m ⟨e.key,L'.aj,c'⟩) b→Fo G φ m b:=by
  rintro b gx (hG|⟨x,hx,Lx,ek,ir⟩)
  ·exact .inl hG
  ·right;rcases (Mem.mem_set h.nodup).1 hx with ⟨rfl,_⟩|⟨gm,bE⟩
   ·subst hφ;simp at ek;subst ek;exact⟨e,he,L,hL,mu b ir⟩
   ·subst hφ;simp at bE;simp[bE]at ek;exact⟨x,gm,Lx,ek,ir⟩
 have hk:∀b,b<w.heap.size→¬Fo G φ m b→(w.setRow b0 fW).heap[b]?=w.heap[b]?:=
  fun b hb hn=>mW w b0 b fW (fun heq=>hn (.inr (heq▸fw)))
 exact hc φ' hle (fun x v hx=>hx.mono hle hk (by simp) hF) (fun x v hx=>hx.mono hk (by simp) hF)
theorem bj.store{φ G m w}(h:bj φ G m w){e:cH}(he:e∈m){L:Loc}(hL:φ e.key=some L)(aA:L.aj=e.aj){b0:Nat}(ho:e.cont.cN L b0)(fW:Array Value)
 (tC:Nat) (hv:e.aj≤tC) (c':aE) (mu:∀b,c'.cN {L with aj:=tC} b→e.cont.cN L b)
 (hc:∀φ':bM,φ.le φ'→(∀x v,aB φ w (Fo G φ m) x v→aB φ' (w.setRow b0 fW) (Fo G φ' (Mem.set m ⟨e.key,tC,c'⟩)) x v)→
  (∀x v,aK w (Fo G φ m) x v→aK (w.setRow b0 fW) (Fo G φ' (Mem.set m ⟨e.key,tC,c'⟩)) x v)→
  dO φ' (w.setRow b0 fW) (Fo G φ' (Mem.set m ⟨e.key,tC,c'⟩)) {L with aj:=tC} c'):
 ∃φ',bj φ' G (Mem.set m ⟨e.key,tC,c'⟩) (w.setRow b0 fW)∧aP φ m w φ' (Mem.set m ⟨e.key,tC,c'⟩) (w.setRow b0 fW)∧φ' e.key=some {L with aj:=tC}∧∀k,k≠e.key→φ' k=φ k:=
 h.FK he hL aA ho fW {L with aj:=tC} hv (fun hh=>by simp at hh;cases L;simp_all) c' mu hc
theorem bj.Qg{φ G m w}(h:bj φ G m w){e:cH}(he:e∈m){L:Loc}(hL:φ e.key=some L)(aA:L.aj=e.aj)(w1:World)(oG:w1.heap=w.heap)(pO:w1.os=w.os)(Bo:w1.tape=w.tape)(fa:w1.output=w.output)
 (arr:Array Value) (elem:TypeId) (c':aE) (L':Loc) (hv:L'.aj=e.aj+1) (mu:∀b,c'.cN L' b→e.cont.cN L b∨w.heap.size=b)
 (hc:∀φ':bM,φ.le φ'→(∀x v,aB φ w (Fo G φ m) x v→aB φ' (w1.alloc (.cells arr elem)) (Fo G φ' (Mem.set m ⟨e.key,e.aj+1,c'⟩)) x v)→
  (∀x v,aK w (Fo G φ m) x v→aK (w1.alloc (.cells arr elem)) (Fo G φ' (Mem.set m ⟨e.key,e.aj+1,c'⟩)) x v)→
  (w1.alloc (.cells arr elem)).heap[w.heap.size]?=some (.cells arr elem (0,0))→(∀b,b<w.heap.size→(w1.alloc (.cells arr elem)).heap[b]?=w.heap[b]?)→
  dO φ' (w1.alloc (.cells arr elem)) (Fo G φ' (Mem.set m ⟨e.key,e.aj+1,c'⟩)) L' c'):
 ∃φ',bj φ' G (Mem.set m ⟨e.key,e.aj+1,c'⟩) (w1.alloc (.cells arr elem))∧aP φ m w φ' (Mem.set m ⟨e.key,e.aj+1,c'⟩) (w1.alloc (.cells arr elem))∧
  φ' e.key=some L'∧∀k,k≠e.key→φ' k=φ k:=by
 have hold:∀b,b<w.heap.size→(w1.alloc (.cells arr elem)).heap[b]?=w.heap[b]?:=fun b hb=>by rw[RowKit.Below.heap_alloc w1 _ b (by rw[oG];exact hb),oG]
 have bQ:w.heap.size≤(w1.alloc (.cells arr elem)).heap.size:=by simp[oG]
 refine h.cW (e':=⟨e.key,e.aj+1,c'⟩) he hL rfl (L':=L') (by rw[aA,hv];simp) (fun hh=>by simp[aA,hv]at hh) hv
  (fun b hb _=>hold b hb) bQ (fun b hb=>(mu b hb).imp id (fun e=>by omega)) pO Bo fa ?_
 intro φ' hφ hle;have hF:∀b,b<w.heap.size→Fo G φ' (Mem.set m ⟨e.key,e.aj+1,c'⟩) b→Fo G φ m b:=by
  rintro b hb (hG|⟨x,hx,Lx,ek,ir⟩)
  ·exact .inl hG
  ·right;rcases (Mem.mem_set h.nodup).1 hx with ⟨rfl,_⟩|⟨gm,bE⟩
   ·subst hφ;simp at ek;subst ek;rcases mu b ir with h'|h'
    ·exact⟨e,he,L,hL,h'⟩
    ·omega
   ·subst hφ;simp at bE;simp[bE]at ek;exact⟨x,gm,Lx,ek,ir⟩
 refine hc φ' hle (fun x v hx=>hx.mono hle (fun b hb _=>hold b hb) bQ hF) (fun x v hx=>hx.mono (fun b hb _=>hold b hb) bQ hF) ?_ hold;have:=heap_alloc_new w1 (.cells arr elem);rwa [oG]at this
theorem bj.fresh{φ G m w}(h:bj φ G m w){e:cH}(he:e∈m){L:Loc}(hL:φ e.key=some L)(aA:L.aj=e.aj)(w1:World)(oG:w1.heap=w.heap)(pO:w1.os=w.os)(Bo:w1.tape=w.tape)(fa:w1.output=w.output)
 (arr:Array Value) (elem:TypeId) (sz cap:Nat) (c':aE) (mu:∀b,c'.cN ⟨e.aj+1,w.heap.size,sz,cap,0,[]⟩ b→w.heap.size=b)
 (hc:∀φ':bM,φ.le φ'→(∀x v,aB φ w (Fo G φ m) x v→aB φ' (w1.alloc (.cells arr elem)) (Fo G φ' (Mem.set m ⟨e.key,e.aj+1,c'⟩)) x v)→
  (∀x v,aK w (Fo G φ m) x v→aK (w1.alloc (.cells arr elem)) (Fo G φ' (Mem.set m ⟨e.key,e.aj+1,c'⟩)) x v)→
  (w1.alloc (.cells arr elem)).heap[w.heap.size]?=some (.cells arr elem (0,0))→
  dO φ' (w1.alloc (.cells arr elem)) (Fo G φ' (Mem.set m ⟨e.key,e.aj+1,c'⟩)) ⟨e.aj+1,w.heap.size,sz,cap,0,[]⟩ c'):
 ∃φ',bj φ' G (Mem.set m ⟨e.key,e.aj+1,c'⟩) (w1.alloc (.cells arr elem))∧aP φ m w φ' (Mem.set m ⟨e.key,e.aj+1,c'⟩) (w1.alloc (.cells arr elem))∧
  φ' e.key=some ⟨e.aj+1,w.heap.size,sz,cap,0,[]⟩∧∀k,k≠e.key→φ' k=φ k:=
 h.Qg he hL aA w1 oG pO Bo fa arr elem c' _ rfl (fun b hb=>.inr (mu b hb)) (fun φ' h1 h2 h3 h4 _=>hc φ' h1 h2 h3 h4)
def D.setCells(r:D)(j:Nat)(y:D):D:=.agg (putCells r.cells j y.cells)
def storeV(P:Program)(t:TypeId)(k aj i j:Nat)(x:AV):Option cH→di
 |some ⟨_,v,.vv rows (some _)⟩=>match x with
  | .vec a b c d=>.cW (v=aj∧i=rows.length∧j=0∧fe P t=some 1) .aZ ⟨k,aj,.vv rows (some (.vec a b c d))⟩
  |_=>.no
 |_=>.no
def storeR(P:Program)(m:Mem)(t:TypeId)(p x:AV):di:=
 match p with
 | .ptr k aj off=>match Mem.get m k with
  |some ⟨_,v,.box cs⟩=>.cW (v=aj∧x.solid=true∧fe P t=some x.cells.length∧off+x.cells.length≤cs.length) .aZ ⟨k,aj,.box (putCells cs off x.cells)⟩
  |_=>.no
 | .cD k aj i j=>match Mem.get m k,x.norm with
  |some ⟨_,v,.vec sz rows⟩,.d y=>match tk P t with
   | .struct=>.cW (v=aj∧i<rows.length∧fe P t=some sz∧y.size=sz∧j=0) .aZ ⟨k,aj,.vec sz (rows.set i y)⟩
   |_=>match sz with
    |1=>.cW (v=aj∧i<rows.length∧fe P t=some 1∧y.size=1∧j=0) .aZ ⟨k,aj,.vec 1 (rows.set i y)⟩
    |sz=>.cW (v=aj∧i<rows.length∧fe P t=some y.size∧j+y.size≤sz∧(D.at rows i).flat=false) .aZ ⟨k,aj,.vec sz (rows.set i ((D.at rows i).setCells j y))⟩
  |e,_=>storeV P t k aj i j x e
 |_=>.no
theorem E2{w w':World}{F F':Nat→Prop}{arr:Array Value}{rows:List D}{base sz cap i o:Nat}{us:List Value}{r':D}{v':Value}(hs:arr.size=base+cap*sz)(dg:rows.length≤cap)(hi:i<rows.length)
 (ho:base+i*sz≤o) (hou:o+us.length≤base+i*sz+sz)
 (eh:∀(n:Nat)(d:D),rows[n]?=some d→∃v,aK w F d v∧∀(j:Nat)(c:Value),v.cells[j]?=some c→arr[base+n*sz+j]?=some c)
 (NA:∀d∈rows,d.size=sz)
 (hm:∀x v,aK w F x v→aK w' F' x v) (b6:aK w' F' r' v') (lC:r'.size=sz)
 (sq:∀(j:Nat)(c:Value),v'.cells[j]?=some c→(putCells arr.toList o us)[base+i*sz+j]?=some c):
 ∀(n:Nat)(d:D),(rows.set i r')[n]?=some d→∃v,aK w' F' d v∧∀(j:Nat)(c:Value),v.cells[j]?=some c→(putCells arr.toList o us).toArray[base+n*sz+j]?=some c:=by
 have cL:base+i*sz+sz≤arr.size:=by
  have:i*sz+sz≤cap*sz:=by rw[←Nat.succ_mul];exact Nat.mul_le_mul_right _ (by omega)
  omega
 intro n d hd;by_cases hn:n=i
 ·subst hn;simp[hi]at hd;subst hd;exact⟨v',b6,fun j c hj=>by simpa using sq j c hj⟩
 ·rw[List.getElem?_set_ne (fun h=>hn h.symm)]at hd;obtain⟨v,hv,oH⟩:=eh n d hd;refine⟨v,hm d v hv,fun j c hj=>?_⟩;have DH:j<sz:=by
   have h1:=hv.size;rw[NA d (List.mem_of_getElem? hd)]at h1;have:=(Array.getElem?_eq_some_iff.1 hj).1;omega
  rw[List.getElem?_toArray,gw arr.toList o us (by simp;omega)];have key:¬(o≤base+n*sz+j∧base+n*sz+j<o+us.length):=by
   rintro ⟨h1,h2⟩;rcases Nat.lt_or_gt_of_ne hn with bn|FL
   ·have:n*sz+sz≤i*sz:=by rw[←Nat.succ_mul];exact Nat.mul_le_mul_right _ bn
    omega
   ·have:i*sz+sz≤n*sz:=by rw[←Nat.succ_mul];exact Nat.mul_le_mul_right _ FL
    omega
  have hh:=oH j c hj;split
  ·simpa using hh
  ·rw[if_neg (by omega)];simpa using hh
theorem ru{P:Program}{t:TypeId}{w:World}{b o:Nat}{arr:Array Value}{elem:TypeId}{v:Value}(hs:fe P t=some v.cells.size)
 (hg:eL w b arr elem) (hl:o+v.cells.size≤arr.size) (h1:∀x∈v.cells,cv x=true):
 (Instr.storeAt t (.pointer (some ⟨b,o,none⟩)) v).run P w=.ok () (w.setRow b (putCells arr.toList o v.cells.toList).toArray):=by
 rw[I0 hs hg hl h1,dn _ _ _ (by simpa using hl)];simp
theorem I1{w:World}{b:Nat}{arr:Array Value}{elem:TypeId}{fr}(hg:w.heap[b]?=some (.cells arr elem fr))(fW:Array Value):(w.setRow b fW).heap[b]?=some (.cells fW elem fr):=setRow_heap w b arr fW elem fr hg
theorem eL.setRow{w:World}{b:Nat}{arr:Array Value}{elem:TypeId}(hg:eL w b arr elem)(fW:Array Value)(hs:fW.size=arr.size):eL (w.setRow b fW) b fW elem:=by
 obtain⟨fr,h1,h2⟩:=hg;exact⟨fr,I1 h1 fW,by rw[hs];exact h2⟩
theorem j8{α:Type}{cs ys:List α}{off:Nat}{x:α}(h:off+ys.length≤cs.length)(hx:x∈putCells cs off ys):x∈cs∨x∈ys:=by
 rw[dn cs off ys h]at hx;simp only[List.mem_append]at hx;rcases hx with (hx|hx)|hx
 ·exact .inl (List.mem_of_mem_take hx)
 ·exact .inr hx
 ·exact .inl (List.mem_of_mem_drop hx)
theorem Qh(P:Program)(S:St)(o:Oper)(t:TypeId)(p x:Operand)(ho:o.op=.store t p x)(hp:(S.opd p).1=true)(hx:(S.opd x).1=true){k aj i j:Nat}(zB:(S.opd p).2=.cD k aj i j):
 aH P S o (storeV P t k aj i j (S.opd x).2 (Mem.get S.mem k)):=by
 unfold storeV;split
 ·rename_i key v rows y hg;split
  ·rename_i a b c d bI;refine aH.qm ?_;rintro ⟨rfl,rfl,rfl,jl⟩ φ G aa w hr;have hk:key=k:=(Mem.get_mem hg).2;subst hk;have hv:=hr.opd p hp;have hu:=hr.opd x hx;rw[zB]at hv;rw[bI]at hu;obtain⟨hm,_,L,hL,aA,b7⟩:=hr.mem.get hg;obtain⟨⟨oE,dg,hl⟩,akv,bE,iT⟩:=b7;have e:=hv.j6 hL aA;simp only[Option.toList_some,List.length_singleton]at dg;have vh:0<L.cap:=by omega
   obtain⟨arr,elem,hh,bQ,h1,fQ,_⟩:=iT vh;generalize bU:aa.eval x=u at hu;have Jw:cv u=true:=by cases hu;assumption
   have DG:u.cells=#[u]:=dN Jw;have iH:L.base+rows.length+[u].length≤arr.toList.length:=by simp;omega
   obtain⟨φ',dq,aN,eX,en⟩:=hr.mem.store (e:=⟨key,v,.vv rows (some y)⟩) hm hL aA (b0:=L.du) (.inl ⟨vh,rfl⟩) (putCells arr.toList (L.base+rows.length) [u]).toArray v (Nat.le_refl _) (.vv rows (some (.vec a b c d))) (fun _ hb=>hb) (fun φ' kX bY iU=>by
    refine⟨⟨oE,by simpa using dg,hl⟩,akv,bE,fun _=>⟨_,elem,hh.setRow _ (by rw[List.size_toArray,bN _ _ _ iH];simp),?_,?_,?_,?_⟩⟩
    ·rw[List.size_toArray,bN _ _ _ iH];simpa using bQ
    ·intro z hz;rcases j8 iH (by simpa using hz)with hz|hz
     ·exact h1 z (by simpa using hz)
     ·simp at hz;subst hz;exact Jw
    ·intro n xs q hn hq;have wZ:=(List.getElem?_eq_some_iff.1 hn).1;have:=fQ n xs q hn hq;rw[show (putCells arr.toList (L.base+rows.length) [u]).toArray[L.base+n]?=arr[L.base+n]? by
      rw[List.getElem?_toArray,gw _ _ _ iH,if_pos (by omega)];simp]
     refine this.mono (fun d u _ hd=>iU d u hd) (fun b hb=>?_);subst hb;exact mW w L.du b _ (fun heq=>(bE b (List.mem_of_getElem? hq)).2 heq)
    ·intro z hz;cases hz;refine⟨u,?_,bY _ _ hu⟩;show (putCells arr.toList (L.base+rows.length) [u]).toArray[L.base+rows.length]?=some u;rw[List.getElem?_toArray,gw _ _ _ iH,if_neg (by omega),if_pos (by simp)];simp)
   refine⟨undef,_,φ',?_,.aZ _,dq,aN,en⟩;have db:=ru (P:=P) (t:=t) (w:=w) (b:=L.du) (o:=L.base+rows.length) (v:=u) (by rw[DG];exact jl) hh (by rw[DG];simpa using iH) (by rw[DG];simpa using Jw);rw[DG]at db;refine .inr ⟨?_,rfl⟩;rw[oE,Nat.mul_one,Nat.add_zero]at e;simp[execOp,ho,e,bU,db]
  ·trivial
 ·trivial
theorem TO(P:Program)(S:St)(o:Oper)(t:TypeId)(p x:Operand)(ho:o.op=.store t p x)(hp:(S.opd p).1=true)(hx:(S.opd x).1=true):aH P S o (storeR P S.mem t (S.opd p).2 (S.opd x).2):=by
 have bL:∀(a:Act)(w w':World),(Instr.storeAt t (a.eval p) (a.eval x)).run P w=.ok () w'→Bn P o a w undef w':=by
  intro a w w' h;exact .inr ⟨by simp[execOp,ho,h],rfl⟩
 unfold storeR;split
 ·rename_i k aj off zB;split
  ·rename_i key v cs hg;refine aH.qm ?_;rintro ⟨rfl,TP,jl,hle⟩ φ G a w hr;have hv:=hr.opd p hp;have bI:=hr.opd x hx;rw[zB]at hv;obtain⟨hm,hk,L,hL,aA,ry,arr,elem,hh,bQ,h1,eh⟩:=hr.mem.get hg;have e:=hv.pQ hL aA;obtain⟨pR,qy⟩:=bI.solid TP;simp only at hk;subst hk;have iH:off+(a.eval x).cells.toList.length≤arr.toList.length:=by simp only[Array.length_toList,pR,bQ];exact hle
   obtain⟨φ',dq,aN,eX,en⟩:=hr.mem.store (e:=⟨key,v,.box cs⟩) hm hL aA rfl (putCells arr.toList off (a.eval x).cells.toList).toArray v (Nat.le_refl _) (.box (putCells cs off (S.opd x).2.cells)) (fun _ hb=>hb) (fun φ' kX bY iU=>by
    refine⟨⟨ry.1,ry.2.1,by rw[bN _ _ _ hle];exact ry.2.2⟩,_,elem,hh.setRow _ (by show (putCells arr.toList _ _).length=_;rw[bN _ _ _ iH];simp),?_,?_,?_⟩
    ·rw[bN _ _ _ hle,←bQ];show (putCells arr.toList off _).length=_;rw[bN _ _ _ iH];simp
    ·intro u hu;rcases j8 iH (by simpa using hu)with hu|hu
     ·exact h1 u (by simpa using hu)
     ·exact qy u (by simpa using hu)
    ·intro i c u hc hu;refine bY c u ?_;exact rr (vs:=arr.toList) (us:=(a.eval x).cells.toList) (by simp[bQ]) (by simpa using pR.symm) hle (fun i c v h h'=>eh i c v h (by simpa using h'))
      (fun i c v h h'=>bI.cells qy pR i c v h (by simpa using h')) i c u hc (by simpa using hu))
   refine⟨undef,_,φ',bL a w _ ?_,.aZ _,dq,aN,en⟩;rw[e];exact ru (by rw[pR];exact jl) hh (by omega) qy
  ·trivial
 ·rename_i k aj i j zB;have vec:∀(c:Prop)[Decidable c](sz:Nat)(rows:List D)(y r':D)(v:Nat),Mem.get S.mem k=some ⟨k,v,.vec sz rows⟩→(S.opd x).2.norm=.d y→
   (c→v=aj∧i<rows.length∧fe P t=some y.size∧j+y.size≤sz∧((D.at rows i).size=sz→r'.size=sz)∧
    ∀w F (u v:Value),(D.at rows i).size=sz→aK w F (D.at rows i) v→aK w F y u→∃v',aK w F r' v'∧v'.cells.toList=putCells v.cells.toList j u.cells.toList)→
   aH P S o (.cW (decide c) .aZ ⟨k,aj,.vec sz (rows.set i r')⟩):=by
   intro c _ sz rows y r' v hg hy eQ;refine aH.qm fun hc φ G a w hr=>?_;obtain⟨rfl,bn,jl,hj,akw,Qi⟩:=eQ hc;have hv:=hr.opd p hp;have bI:=(hr.opd x hx).norm;rw[hy]at bI;rw[zB]at hv;obtain⟨hm,hk,L,hL,aA,vg,dg,lC,iT⟩:=hr.mem.get hg;have e:=hv.j6 hL aA;have vh:0<L.cap:=by omega
   obtain⟨arr,elem,hh,bQ,h1,eh⟩:=iT vh;have aaw:r'.size=sz:=akw (by rw[lC _ (List.mem_of_getElem? (ji bn)),vg]);cases bI with
   |d _ u hu=>
    generalize bU:a.eval x=u at hu;have zA:u.cells.size=y.size:=hu.size;have cL:L.base+i*L.sz+L.sz≤arr.size:=by
     have:i*L.sz+L.sz≤L.cap*L.sz:=by rw[←Nat.succ_mul];exact Nat.mul_le_mul_right _ (by omega)
     omega
    obtain⟨rv,Jx,aax⟩:=eh i _ (ji bn);have TQ:rv.cells.size=L.sz:=by rw[Jx.size];exact lC _ (List.mem_of_getElem? (ji bn))
    have iH:L.base+i*L.sz+j+u.cells.toList.length≤arr.toList.length:=by simp[zA];omega
    obtain⟨φ',dq,aN,eX,en⟩:=hr.mem.store (e:=⟨k,v,.vec sz rows⟩) hm hL aA ⟨vh,rfl⟩ (putCells arr.toList (L.base+i*L.sz+j) u.cells.toList).toArray v (Nat.le_refl _) (.vec sz (rows.set i r')) (fun _ hb=>hb) (fun φ' kX bY iU=>by
     refine⟨vg,by simpa using dg,?_,fun _=>⟨_,elem,hh.setRow _ (by show (putCells arr.toList _ _).length=_;rw[bN _ _ _ iH];simp),?_,?_,?_⟩⟩
     ·intro d hd;rcases List.mem_or_eq_of_mem_set hd with hd|rfl
      ·exact lC d hd
      ·show _=L.sz;rw[vg];exact aaw
     ·show (putCells arr.toList _ _).length=_;rw[bN _ _ _ iH];simpa using bQ
     ·intro z hz;rcases j8 iH (by simpa using hz)with hz|hz
      ·exact h1 z (by simpa using hz)
      ·exact hu.cells.2.1 z (by simpa using hz)
     ·obtain⟨v',sq,akx⟩:=Qi _ _ u rv (by rw[lC _ (List.mem_of_getElem? (ji bn)),vg]) (iU _ _ Jx) (iU _ _ hu);refine E2 (F:=Fo G φ S.mem) (base:=L.base) (cap:=L.cap) (sz:=L.sz) bQ dg bn (by omega) (by simp[zA];omega) eh lC iU sq (by rw[aaw,vg]) ?_;intro q c hq;have oI:(putCells rv.cells.toList j u.cells.toList)[q]?=some c:=by rw[←akx];simpa using hq
      have hql:q<L.sz:=by
       have:=(List.getElem?_eq_some_iff.1 oI).1;rw[bN _ _ _ (by simp[zA,TQ];omega)]at this;simpa [TQ]using this
      rw[gw _ _ _ (by simp[zA,TQ];omega)]at oI;rw[gw _ _ _ iH];by_cases h1:q<j
      ·rw[if_pos h1]at oI;rw[if_pos (by omega)];simpa using aax q c (by simpa using oI)
      ·rw[if_neg h1]at oI;rw[if_neg (by omega)];by_cases h2:q<j+u.cells.toList.length
       ·rw[if_pos h2]at oI;rw[if_pos (by omega)];rw[show L.base+i*L.sz+q-(L.base+i*L.sz+j)=q-j by omega];exact oI
       ·rw[if_neg h2]at oI;rw[if_neg (by omega)];simpa using aax q c (by simpa using oI))
    refine⟨undef,_,φ',bL a w _ ?_,.aZ _,dq,aN,en⟩;rw[e,bU];exact ru (by rw[zA];exact jl) hh (by simpa using iH) hu.cells.2.1
  have whole:∀(y r:D),y.size=r.size→∀w F (u v:Value),aK w F r v→aK w F y u→∃v',aK w F y v'∧v'.cells.toList=putCells v.cells.toList 0 u.cells.toList:=by
   intro y r hyr w F u v hr hy;refine⟨u,hy,?_⟩;have h1:=hr.size;have h2:=hy.size;rw[dn _ _ _ (by simp;omega)];simp;omega
  split
  ·rename_i key v sz rows y hg hy;have hk:key=k:=(Mem.get_mem hg).2;subst hk;split
   ·exact vec _ sz rows y y v hg hy (fun ⟨h1,h2,h3,h4,h5⟩=>⟨h1,h2,by rw[h4];exact h3,by omega,fun _=>h4,by
     subst h5;intro w F u v hs b6 nO;exact whole y _ (by rw[hs,h4]) w F u v b6 nO⟩)
   ·split
    ·exact vec _ 1 rows y y v hg hy (fun ⟨h1,h2,h3,h4,h5⟩=>⟨h1,h2,by rw[h4];exact h3,by omega,fun _=>h4,by
      subst h5;intro w F u v hs b6 nO;exact whole y _ (by rw[hs,h4]) w F u v b6 nO⟩)
    ·refine vec _ sz rows y _ v hg hy (fun ⟨h1,h2,h3,h4,h5⟩=>⟨h1,h2,h3,h4,?_,?_⟩)
     ·intro h6;show (putCells _ _ _).length=sz;rw[bN _ _ _ (by rw[D.fO,D.fO,h6];exact h4),D.fO,h6]
     ·intro w F u v hs b6 nO;obtain⟨ra,rfl⟩:=tB b6 h5;have b7:=b6.cells;have kN:=nO.cells;have hl:j+y.cells.length≤(D.at rows i).cells.length:=by rw[D.fO,D.fO,hs];exact h4
      refine⟨.agg (putCells ra.toList j u.cells.toList).toArray,.nj ?_ ?_ ?_,by simp[Value.cells]⟩
      ·have h6:=b7.1;simp only[Value.cells]at h6;rw[bN _ _ _ hl,bN _ _ _ (by rw[kN.1,h6];exact hl),←h6]
      ·intro z hz;have h6:=b7.1;simp only[Value.cells]at h6;rcases j8 (by rw[kN.1,h6];exact hl) hz with hz|hz
       ·exact b7.2.1 z (by simpa [Value.cells]using hz)
       ·exact kN.2.1 z (by simpa using hz)
      ·exact rr (by simpa [Value.cells]using b7.1.symm) (by simpa using kN.1.symm) hl (fun i c v h h'=>(b7.2.2 i c v h (by simpa [Value.cells]using h')).1) (fun i c v h h'=>(kN.2.2 i c v h (by simpa using h')).1)
  ·exact Qh P S o t p x ho hp hx zB
 ·trivial
theorem hU(P:Program)(w:World)(e:TypeId)(cs:Array Value):(newRow e cs).run P w=.ok ⟨w.heap.size,0,none⟩ (w.alloc (.cells cs e)):=rfl
def keyOf(o:Oper):Nat:=100+50*o.dst.getD 100000
def sw(P:Program)(t:TypeId):Option (List AV):=
 match P.info? t with
 |some i=>match i.zero with
  |some z=>if z.cells.all cv then some (z.cells.toList.map constAV)else none
  |none=>none
 |none=>none
theorem nk{P:Program}{t:TypeId}{zs:List AV}(h:sw P t=some zs)(w:World):∃z,(zeroValue t).run P w=.ok z w∧z.cells.size=zs.length∧(∀v∈z.cells,cv v=true)∧
 ∀φ w' F (i:Nat) c v,zs[i]?=some c→z.cells[i]?=some v→aB φ w' F c v:=by
 unfold sw at h;split at h
 ·rename_i i hi;split at h
  ·rename_i z hz;split at h
   ·rename_i dP;simp at h;subst h;refine⟨z,by simp[zeroValue,typeInfo,hi,hz],by simp,?_,?_⟩
    ·intro v hv;exact Array.all_eq_true'.1 dP v hv
    ·intro φ w' F i c v hc hv;simp only[List.getElem?_map,Array.getElem?_toList,Option.map_eq_some_iff]at hc;obtain⟨u,hu,rfl⟩:=hc;rw[hv]at hu;cases hu;exact zz ..
   ·cases h
  ·cases h
 ·cases h
def boxR(m:Mem)(k:Nat)(c:Bool)(cs:List AV):di:=
 match Mem.get m k with
 |some ⟨_,v,_⟩=>.cW c (.ptr k (v+1) 0) ⟨k,v+1,.box cs⟩
 |none=>.no
theorem Jy{P:Program}{S:St}{o:Oper}{k:Nat}{c:Bool}{cs:List AV}
 (h:c=true→∀φ G a w,Rel φ G S a w→∃(arr:Array Value)(elem:TypeId),(execOp a.eval o).run P w=.ok (.value (.pointer (some ⟨w.heap.size,0,none⟩))) (w.alloc (.cells arr elem))∧
  arr.size=cs.length∧(∀v∈arr,cv v=true)∧∀(i:Nat) c v,cs[i]?=some c→arr[i]?=some v→aB φ w (Fo G φ S.mem) c v):aH P S o (boxR S.mem k c cs):=by
 unfold boxR;split
 ·rename_i key v cont hg;intro hc φ G a w hr;obtain⟨arr,elem,bL,bQ,h1,eh⟩:=h hc φ G a w hr;obtain⟨hm,hk,L,hL,aA,_⟩:=hr.mem.get hg;simp only at hk aA;subst hk;obtain⟨φ',dq,aN,eX,en⟩:=hr.mem.fresh (e:=⟨key,v,cont⟩) hm hL aA w rfl rfl rfl rfl arr elem 1 cs.length (.box cs) (fun _ hb=>hb) (fun φ' hle bY iU iV=>
   ⟨⟨rfl,rfl,rfl⟩,arr,elem,eL.new iV,bQ,h1,fun i c u hc hu=>bY c u (eh i c u hc hu)⟩)
  exact⟨_,_,φ',.inl bL,.ptr key (v+1) 0 _ _ eX (Nat.le_refl _) (fun _=>rfl) rfl,dq,aN,en⟩
 ·trivial
theorem aay(P:Program)(S:St)(o:Oper)(t:TypeId)(x:Operand)(ho:o.op=.box t x)(hx:(S.opd x).1=true):aH P S o (boxR S.mem (keyOf o) (S.opd x).2.solid (S.opd x).2.cells):=by
 refine Jy fun hs φ G a w hr=>?_;have hv:=hr.opd x hx;obtain⟨h1,h2⟩:=hv.solid hs;refine⟨(a.eval x).cells,t,?_,h1,h2,hv.cells h2 h1⟩;simp[execOp,ho,Instr.box,newVar,hU]
theorem FM(P:Program)(S:St)(o:Oper)(t:TypeId)(ho:o.op=.alloc t)(zs:List AV)(hz:sw P t=some zs):aH P S o (boxR S.mem (keyOf o) true zs):=by
 refine Jy fun _ φ G a w hr=>?_;obtain⟨z,bL,bQ,h1,eh⟩:=nk hz w;refine⟨z.cells,t,?_,bQ,h1,fun i c v hc hv=>eh _ _ _ i c v hc hv⟩;simp[execOp,ho,Instr.alloc,newVar,hU,bL]
def lD(P:Program)(t:TypeId):Option D:=
 match sw P t,(tk P t).agg with
 |some zs,true=>(toDsN zs).map .agg
 |some [z],false=>toD1 z
 |_,_=>none
def xc(P:Program)(t:TypeId):Option Nat:=(P.info? t).map (·.bytes)
theorem Bp{P:Program}{t:TypeId}{d:D}(h:lD P t=some d)(w:World):∃z,(zeroValue t).run P w=.ok z w∧z.cells.size=d.size∧(∀v∈z.cells,cv v=true)∧
 ∀w' F,∃v,aK w' F d v∧v.cells=z.cells:=by
 unfold lD at h;split at h
 ·rename_i zs hz j7;simp only[Option.map_eq_some_iff]at h;obtain⟨ds,jk,rfl⟩:=h;obtain⟨z,bL,bQ,h1,eh⟩:=nk hz w;have hl:∀w' F,zs.length=ds.length∧∀(i:Nat) d v,ds[i]?=some d→z.cells.toList[i]?=some v→aK w' F d v:=fun w' F=>
   su (φ:=fun _=>none) (w:=w') (F:=F) (vs:=z.cells.toList) jk (fun i c v hc hv=>eh _ _ _ i c v hc (by simpa using hv))
  refine⟨z,bL,by rw[bQ,(hl w (fun _=>False)).1];rfl,h1,fun w' F=>⟨.agg z.cells,?_,rfl⟩⟩;have:=aK.nj (w:=w') (F:=F) (cs:=ds) (vs:=z.cells.toList) (by rw[←(hl w' F).1];simpa using bQ.symm) (fun v hv=>h1 v (by simpa using hv)) (hl w' F).2;simpa using this
 ·rename_i z0 hz j7;obtain⟨z,bL,bQ,h1,eh⟩:=nk hz w;obtain⟨u,hu⟩:∃u,z.cells=#[u]:=by
   have:z.cells.size=1:=bQ;exact⟨z.cells[0],by apply Array.ext<;>simp_all⟩
  have hd:∀w' F,aK w' F d u:=fun w' F=>FJ (φ:=fun _=>none) h (eh _ _ _ 0 z0 u (by simp) (by simp[hu]));have Jw:cv u=true:=h1 u (by simp[hu]);refine⟨z,bL,by rw[hu,←(hd w (fun _=>False)).size,dN Jw],h1,fun w' F=>⟨u,hd w' F,by rw[dN Jw,hu]⟩⟩
 ·cases h
def cf(w:World)(F:Nat→Prop)(sz:Nat)(rows:List D)(cs:List Value):Prop:=
 cs.length=rows.length*sz∧(∀v∈cs,cv v=true)∧(∀d∈rows,d.size=sz)∧∀(i:Nat) d,rows[i]?=some d→∃v,aK w F d v∧∀(j:Nat) c,v.cells[j]?=some c→cs[i*sz+j]?=some c
theorem ug{sz:Nat}{w:World}{F:Nat→Prop}{d:D}{v:Value}(h:aK w F d v)(hs:d.size=sz){j:Nat}{c:Value}(hj:v.cells[j]?=some c):j<sz:=by
 have h1:=h.size;have:=(Array.getElem?_eq_some_iff.1 hj).1;omega
theorem cf.append{w F sz xs ys cs ll}(h:cf w F sz xs cs)(h':cf w F sz ys ll):cf w F sz (xs++ys) (cs++ll):=by
 obtain⟨a1,a2,a3,a4⟩:=h;obtain⟨b1,b2,b3,b4⟩:=h';refine⟨by simp[a1,b1,Nat.add_mul],?_,?_,?_⟩
 ·intro v hv;rcases List.mem_append.1 hv with hv|hv;exact a2 v hv;exact b2 v hv
 ·intro v hv;rcases List.mem_append.1 hv with hv|hv;exact a3 v hv;exact b3 v hv
 ·intro i d hd;by_cases hi:i<xs.length
  ·rw[List.getElem?_append_left hi]at hd;obtain⟨v,hv,oH⟩:=a4 i d hd;refine⟨v,hv,fun j c hj=>?_⟩;have DH:=ug hv (a3 d (List.mem_of_getElem? hd)) hj;rw[List.getElem?_append_left]
   ·exact oH j c hj
   ·rw[a1];have:i*sz+sz≤xs.length*sz:=by rw[←Nat.succ_mul];exact Nat.mul_le_mul_right _ hi
    omega
  ·rw[List.getElem?_append_right (by omega)]at hd;obtain⟨v,hv,oH⟩:=b4 _ d hd;refine⟨v,hv,fun j c hj=>?_⟩;have e:xs.length*sz+(i-xs.length)*sz=i*sz:=by rw[←Nat.add_mul];congr 1;omega
   rw[List.getElem?_append_right (by rw[a1];omega),a1,show i*sz+j-xs.length*sz=(i-xs.length)*sz+j by omega];exact oH j c hj
theorem cf.take{w F sz xs cs}(h:cf w F sz xs cs)(n:Nat)(hn:n≤xs.length):cf w F sz (xs.take n) (cs.take (n*sz)):=by
 obtain⟨a1,a2,a3,a4⟩:=h;have hle:n*sz≤xs.length*sz:=Nat.mul_le_mul_right _ hn;refine⟨by simp only[List.length_take,a1];rw[Nat.min_eq_left hn,Nat.min_eq_left hle],fun v hv=>a2 v (List.mem_of_mem_take hv),fun v hv=>a3 v (List.mem_of_mem_take hv),?_⟩;intro i d hd;rw[List.getElem?_take]at hd;split at hd
 ·rename_i hi;obtain⟨v,hv,oH⟩:=a4 i d hd;refine⟨v,hv,fun j c hj=>?_⟩;have DH:=ug hv (a3 d (List.mem_of_getElem? hd)) hj;have:i*sz+sz≤n*sz:=by rw[←Nat.succ_mul];exact Nat.mul_le_mul_right _ hi
  rw[List.getElem?_take,if_pos (by omega)];exact oH j c hj
 ·cases hd
theorem cf.drop{w F sz xs cs}(h:cf w F sz xs cs)(n:Nat):cf w F sz (xs.drop n) (cs.drop (n*sz)):=by
 obtain⟨a1,a2,a3,a4⟩:=h;refine⟨by simp[a1,Nat.sub_mul],fun v hv=>a2 v (List.mem_of_mem_drop hv),fun v hv=>a3 v (List.mem_of_mem_drop hv),?_⟩;intro i d hd;rw[List.getElem?_drop]at hd;obtain⟨v,hv,oH⟩:=a4 _ d hd;refine⟨v,hv,fun j c hj=>?_⟩;rw[List.getElem?_drop,show n*sz+(i*sz+j)=(n+i)*sz+j by rw[Nat.add_mul];omega];exact oH j c hj
theorem cf.mono{w F w' F' sz xs cs}(h:cf w F sz xs cs)(hm:∀x v,aK w F x v→aK w' F' x v):cf w' F' sz xs cs:=
 ⟨h.1,h.2.1,h.2.2.1,fun i d hd=>let ⟨v,hv,hc⟩:=h.2.2.2 i d hd;⟨v,hm _ _ hv,hc⟩⟩
theorem cf.nil(w F sz):cf w F sz [] []:=⟨by simp,by simp,by simp,by simp⟩
theorem rz{φ w F}{L:Loc}{rows:List D}{pre cs rest:List Value}{sz:Nat}{elem:TypeId}(bQ:L.sz=sz)(hr:cf w F sz rows cs)(jH:pre.length=L.base)(h0:∀v∈pre,cv v=true)(h1:∀v∈rest,cv v=true)
 (dg:rows.length≤L.cap) (hl:(cs++rest).length=L.cap*sz) (hh:0<L.cap→eL w L.du (pre++(cs++rest)).toArray elem):dO φ w F L (.vec sz rows):=by
 obtain⟨a1,a2,a3,a4⟩:=hr;subst bQ;refine⟨rfl,dg,a3,fun hc=>⟨_,elem,hh hc,by simp only[List.size_toArray,List.length_append]at hl⊢;omega,?_,?_⟩⟩
 ·intro v hv;simp at hv;rcases hv with hv|hv|hv
  ·exact h0 v hv
  ·exact a2 v hv
  ·exact h1 v hv
 ·intro i d hd;obtain⟨v,hv,oH⟩:=a4 i d hd;refine⟨v,hv,fun j c hj=>?_⟩;have DH:=ug hv (a3 d (List.mem_of_getElem? hd)) hj;have bn:i<rows.length:=(List.getElem?_eq_some_iff.1 hd).1;have:i*L.sz+L.sz≤rows.length*L.sz:=by rw[←Nat.succ_mul];exact Nat.mul_le_mul_right _ bn
  rw[List.getElem?_toArray,List.getElem?_append_right (by omega),jH,show L.base+i*L.sz+j-L.base=i*L.sz+j by omega,List.getElem?_append_left (by rw[a1];omega)];exact oH j c hj
theorem tD{φ w F}{L:Loc}{rows:List D}{cs rest:List Value}{sz:Nat}{elem:TypeId}(bQ:L.sz=sz)(hb:L.base=0)(hr:cf w F sz rows cs)(h1:∀v∈rest,cv v=true)
 (dg:rows.length≤L.cap) (hl:(cs++rest).length=L.cap*sz) (hh:0<L.cap→eL w L.du (cs++rest).toArray elem):dO φ w F L (.vec sz rows):=
 rz (pre:=[]) bQ hr (by simp[hb]) (by simp) h1 dg hl hh
theorem mF{φ w F}{L:Loc}{rows:List D}{sz:Nat}(h:dO φ w F L (.vec sz rows))(hc:0<L.cap):∃(arr:Array Value)(elem:TypeId),eL w L.du arr elem∧arr.size=L.base+L.cap*sz∧
 (∀v∈arr,cv v=true)∧cf w F sz rows ((arr.toList.drop L.base).take (rows.length*sz)):=by
 obtain⟨hs,dg,lC,iT⟩:=h;obtain⟨arr,elem,hh,bQ,h1,eh⟩:=iT hc;subst hs;refine⟨arr,elem,hh,bQ,h1,?_,fun v hv=>h1 v (by simpa using List.mem_of_mem_drop (List.mem_of_mem_take hv)),lC,?_⟩
 ·simp only[List.length_take,List.length_drop,Array.length_toList,bQ];exact Nat.min_eq_left (by rw[Nat.add_sub_cancel_left];exact Nat.mul_le_mul_right _ dg)
 ·intro i d hd;obtain⟨v,hv,oH⟩:=eh i d hd;refine⟨v,hv,fun j c hj=>?_⟩;have DH:=ug hv (lC d (List.mem_of_getElem? hd)) hj;have bn:i<rows.length:=(List.getElem?_eq_some_iff.1 hd).1;have:i*L.sz+L.sz≤rows.length*L.sz:=by rw[←Nat.succ_mul];exact Nat.mul_le_mul_right _ bn
  rw[List.getElem?_take,if_pos (by omega),List.getElem?_drop,←Nat.add_assoc];simpa using oH j c hj
theorem FN{w F}{xs:List D}{ao:Option Addr}{m cap sz:Nat}(h:aK w F (.list xs) (.slice ao m cap))(hs:∀d∈xs,d.size=sz):
 m=xs.length∧∃cs,cf w F sz xs cs∧(xs≠[]→∃b off,ao=some ⟨b,off,none⟩∧b<w.heap.size∧¬F b∧∀(j:Nat) v,cs[j]?=some v→w.cell? ⟨b,off+j,none⟩=some v):=by
 generalize hx:D.list xs=x at h;generalize hv:Value.slice ao m cap=v at h;cases h with
 |nil a c=>
  simp at hx hv;subst hx;exact⟨by simp[hv.2.1],[],cf.nil ..,fun h=>absurd rfl h⟩
 |list ys b off xd cJ vs dg hb hF bQ Qj hc=>
  simp at hx hv;obtain⟨rfl,rfl,rfl⟩:=hv;subst hx;refine⟨rfl,?_⟩
  --zC cells,row by row
  have NB:xs≠[]→cJ=sz:=fun bE=>by
   cases xs with
   |nil=>exact absurd rfl bE
   |cons d r=>rw[←bQ d (by simp),hs d (by simp)]
  by_cases bE:xs=[]
  ·subst bE;exact⟨[],cf.nil ..,fun h=>absurd rfl h⟩
  have NB:=NB bE;subst NB;have iT:∀(i j:Nat),i<xs.length→j<cJ→∃c,(vs i).cells[j]?=some c∧w.cell? ⟨b,off+(i*cJ+j),none⟩=some c∧cv c=true:=by
   intro i j hi hj;have h1:=Qj i xs[i] (by simp[hi]);have h2:=h1.size;rw[hs _ (List.getElem_mem hi)]at h2;have oD:j<(vs i).cells.size:=by omega
   refine⟨(vs i).cells[j],by simp[oD],?_,h1.cells.2.1 _ (by simp)⟩;have:=hc i j _ hi (show (vs i).cells[j]?=some (vs i).cells[j] by simp[oD]);rw[←Nat.add_assoc];exact this
  refine⟨(List.range (xs.length*cJ)).map (fun j=>(w.cell? ⟨b,off+j,none⟩).getD undef),⟨by simp,?_,hs,?_⟩,fun _=>⟨b,off,rfl,hb,hF,?_⟩⟩
  ·intro v hv;simp only[List.mem_map,List.mem_range]at hv;obtain⟨j,hj,rfl⟩:=hv;have m8:0<cJ:=by rcases Nat.eq_zero_or_pos cJ with h0|h0;simp[h0]at hj;exact h0
   obtain⟨c,_,h2,h3⟩:=iT (j/cJ) (j%cJ) (Nat.div_lt_of_lt_mul (by rw[Nat.mul_comm];exact hj)) (Nat.mod_lt _ m8);rw[Nat.mul_comm,Nat.div_add_mod]at h2;simp[h2,h3]
  ·intro i d hd;have hi:i<xs.length:=(List.getElem?_eq_some_iff.1 hd).1;refine⟨vs i,Qj i d hd,fun j c hj=>?_⟩;have DH:=ug (Qj i d hd) (hs d (List.mem_of_getElem? hd)) hj;obtain⟨c',h1,h2,_⟩:=iT i j hi DH;rw[hj]at h1;cases h1;have:i*cJ+cJ≤xs.length*cJ:=by rw[←Nat.succ_mul];exact Nat.mul_le_mul_right _ hi
   simp[h2,show i*cJ+j<xs.length*cJ by omega]
  ·intro j v hv;simp only[List.getElem?_map,Option.map_eq_some_iff]at hv;obtain⟨k,hk,rfl⟩:=hv;have hj:j<xs.length*cJ:=by
    rcases Nat.lt_or_ge j (xs.length*cJ)with h|h
    ·exact h
    ·simp[List.getElem?_eq_none (l:=List.range (xs.length*cJ)) (by simpa using h)]at hk
   simp[hj]at hk;subst hk;have m8:0<cJ:=by rcases Nat.eq_zero_or_pos cJ with h0|h0;simp[h0]at hj;exact h0
   obtain⟨c,_,h2,_⟩:=iT (j/cJ) (j%cJ) (Nat.div_lt_of_lt_mul (by rw[Nat.mul_comm];exact hj)) (Nat.mod_lt _ m8);rw[Nat.mul_comm,Nat.div_add_mod]at h2;simp[h2]
 |_=>simp at hx
def srcRows(m:Mem)(sz:Nat):AV→Option (Bool×List D)
 | .d (.list ys)=>some (true,ys)
 | .d (.str s)=>some (sz=1,s.map fun b=>.int .u8 b.toNat)
 | .lit (.slice none 0 0)=>some (true,[])
 | .nn=>some (true,[])
 | .vec k aj off len=>match Mem.get m k with
  |some ⟨_,v,.vec _ rows⟩=>some (v=aj∧off+len≤rows.length,(rows.drop off).take len)
  |_=>none
 |_=>none
structure Fe(P:Program)(w:World)(F:Nat→Prop)(sz:Nat)(ys:List D)(x:Value)(news:List Value):Prop where
 len:∀w',(Builtin.lenOf x).run P w'=.ok ys.length w'
 Qk:∀n,n≤ys.length→∀w',(∀b,b<w.heap.size→w'.heap[b]?=w.heap[b]?)→(Builtin.firstCells sz n x).run P w'=.ok (news.take (n*sz)).toArray w'
 rows:cf w F sz ys news
theorem Fe.first{P w F sz ys x news}(h:Fe P w F sz ys x news)(w':World)(hw:∀b,b<w.heap.size→w'.heap[b]?=w.heap[b]?):(Builtin.firstCells sz ys.length x).run P w'=.ok news.toArray w':=by
 rw[h.Qk _ (Nat.le_refl _) w' hw,List.take_of_length_le (by rw[h.rows.1];exact Nat.le_refl _)]
theorem FO{P:Program}{S:St}{φ G w}(hm:bj φ G S.mem w){x:AV}{v:Value}(hx:aB φ w (Fo G φ S.mem) x v){c ys}{sz:Nat}(hs:srcRows S.mem sz x=some (c,ys))(hc:c=true)(bQ:∀d∈ys,d.size=sz):
 ∃news,Fe P w (Fo G φ S.mem) sz ys v news:=by
 unfold srcRows at hs;split at hs
 ·rename_i FP;simp at hs;obtain⟨_,rfl⟩:=hs;cases hx with
  |d _ _ h=>
   have hv:∃ao m cap,v=.slice ao m cap:=by cases h<;>exact⟨_,_,_,rfl⟩
   obtain⟨ao,m,cap,rfl⟩:=hv;obtain⟨rfl,cs,hr,bE⟩:=FN h bQ;refine⟨cs,⟨fun w'=>by simp[Builtin.lenOf],fun n hn w' hw=>?_,hr⟩⟩;by_cases aaz:FP=[]
   ·subst aaz;have:cs=[]:=List.eq_nil_of_length_eq_zero (by simpa using hr.1);subst this;have fg:n=0:=by simpa using hn
    subst fg;cases ao with
    |none=>simp[Builtin.firstCells]
    |some a=>simp[Builtin.firstCells,loadCells,loadCellsFrom]
   ·obtain⟨b,off,rfl,hb,_,nN⟩:=bE aaz;exact run_firstCells_some (P:=P) w' sz n ⟨b,off,none⟩ FP.length cap _ (hr.take n hn |>.1.trans (by simp[hn])) (fun j u hj=>by
     rw[ff,jG (hw b hb)];rw[List.getElem?_take]at hj;split at hj
     ·exact nN j u hj
     ·cases hj)
 ·rename_i s;simp only[Option.some.injEq,Prod.mk.injEq]at hs;obtain⟨rfl,rfl⟩:=hs;simp only[decide_eq_true_eq]at hc;subst hc;cases hx with
  |d _ _ h=>
   cases h with
   |str b _ hb=>
    subst hb;have NA:b.size=b.data.toList.length:=by rw[Array.length_toList];rfl
    refine⟨b.data.toList.map fun x=>Value.int .u8 x.toNat,⟨fun w'=>by simp only[Builtin.lenOf,List.length_map,←NA];rfl,fun n hn w' _=>?_,?_,?_,?_,?_⟩⟩
    ·simp only[Builtin.firstCells,Sem.run_pure];congr 1;apply Array.ext';simp
    ·simp
    ·intro v hv;simp only[List.mem_map]at hv;obtain⟨y,_,rfl⟩:=hv;rfl
    ·exact bQ
    ·intro i d hd;simp only[List.getElem?_map,Option.map_eq_some_iff]at hd;obtain⟨y,hy,rfl⟩:=hd;refine⟨.int .u8 y.toNat,.int _ _,fun j c hj=>?_⟩;cases j with
     |zero=>simp only[Value.cells]at hj;simp at hj;subst hj;simp only[List.getElem?_map,Nat.mul_one,Nat.add_zero,hy];rfl
     |succ j=>simp[Value.cells]at hj
 ·simp at hs;obtain⟨_,rfl⟩:=hs;cases hx with
  |lit=>exact⟨[],⟨fun w'=>by simp[Builtin.lenOf],fun n _ w' _=>by simp[Builtin.firstCells],cf.nil ..⟩⟩
 ·simp at hs;obtain⟨_,rfl⟩:=hs;cases hx with
  |nn a cap=>exact⟨[],⟨fun w'=>by simp[Builtin.lenOf],fun n hn w' _=>by
   have fg:n=0:=by simpa using hn
   subst fg;simp[Builtin.firstCells,loadCells,loadCellsFrom],cf.nil ..⟩⟩
 ·rename_i k aj off len;split at hs
  ·rename_i key v' cJ rows hg;simp only[Option.some.injEq,Prod.mk.injEq]at hs;obtain⟨rfl,rfl⟩:=hs;simp only[decide_eq_true_eq]at hc;obtain⟨rfl,hle⟩:=hc;obtain⟨eW,hk,L,hL,aA,b7⟩:=hm.get hg;have hlen:((rows.drop off).take len).length=len:=by simp;omega
   cases hx with
   |vec _ _ _ _ _ L' bO _ h h1=>
    rw[hL]at bO;cases bO;obtain⟨ao,cap,rfl,fU,dz⟩:=h aA.symm;clear h h1;by_cases cm:len=0
    ·subst cm;refine⟨[],⟨fun w'=>by simp[Builtin.lenOf],fun n hn w' _=>?_,by simpa using cf.nil ..⟩⟩;have fg:n=0:=by simpa using hn
     subst fg;cases ao with
     |none=>simp[Builtin.firstCells]
     |some a=>simp[Builtin.firstCells,loadCells,loadCellsFrom]
    ·obtain⟨rfl,mG⟩:=dz (by omega);obtain⟨arr,elem,hh,tE,rA,hr⟩:=mF b7 (by omega);have hss:cJ=sz:=by
      have ky:0<((rows.drop off).take len).length:=by omega
      have h2:=bQ (((rows.drop off).take len)[0]'ky) (List.getElem_mem ky)
      have h3:=hr.2.2.1 (((rows.drop off).take len)[0]'ky) (List.mem_of_mem_drop (List.mem_of_mem_take (List.getElem_mem ky)))
      rw[←h2,←h3]
     subst hss;have zD:L.sz=cJ:=b7.1;have iN:=(hr.drop off).take len (by simp;omega);refine⟨_,⟨fun w'=>by simp[Builtin.lenOf,hlen],fun n hn w' hw=>?_,iN⟩⟩;have hb:L.du<w.heap.size:=hh.lt;exact run_firstCells_some (P:=P) w' cJ n ⟨L.du,L.base+off*L.sz,none⟩ len cap _ ((iN.take n hn).1.trans (by rw[List.length_take,Nat.min_eq_left hn])) (fun j u hj=>by
      rw[ff,jG (hw L.du hb),gv hh,zD];rw[List.getElem?_take]at hj;split at hj
      ·rw[List.getElem?_take]at hj;split at hj
       ·rw[List.getElem?_drop,List.getElem?_take]at hj;split at hj
        ·rw[List.getElem?_drop]at hj;rw[Nat.add_assoc];simpa using hj
        ·cases hj
       ·cases hj
      ·cases hj)
  ·cases hs
 ·cases hs
section
variable {P:Program}
def eH(P:Program)(u:TypeId):Bool:=
 match P.underlying u with
 |some (.slice _)=>true
 |some .string=>true
 |_=>false
theorem xe{u:TypeId}(h:eH P u=true):(∃e,P.underlying u=some (.slice e))∨P.underlying u=some .string:=by
 unfold eH at h;split at h
 ·rename_i e hd;exact .inl ⟨e,hd⟩
 ·rename_i hd;exact .inr hd
 ·cases h
structure CZ(P:Program)(w:World)(F:Nat→Prop)(u:TypeId)(sz:Nat)(z:Value)(ys:List D)(x:Value)(news:List Value):Prop where
 rows:cf w F sz ys news
 kind:(eH P u=true∧Fe P w F sz ys x news)∨((∃k,P.underlying u=some (.int k))∧(∃kk,x=.int kk ys.length)∧ys.length≤4611686018427387904∧z.cells.size=sz∧news=(Builtin.zeroCells z.cells ys.length).toList)
theorem FQ{n:Nat}(h:n≤4611686018427387904):IntKind.i64.wrap (n:Int)=(n:Int):=IntWalk.i64_in _ (by omega)
theorem uh{z:Array Value}{n:Nat}(h:n*z.size=0):Builtin.zeroCells z n=#[]:=by
 apply Array.eq_empty_of_size_eq_zero;rw[size_zeroCells];exact h
theorem pS{w:World}{t u ty e:TypeId}{i:TypeInfo}{z:Value}(ht:P.underlying t=some (.slice e))(hi:P.info? e=some i)(hz:i.zero=some z)
 {ao:Option Addr} {len cap:Nat} {F x news} (hs:CZ P w F u i.size z [] x news) (hle:len≤cap):
 (Builtin.append_ #[t,u] ty #[.slice ao len cap,x]).run P w=.ok (.slice ao len cap) w:=by
 rcases hs.kind with ⟨hu,hs⟩|⟨⟨k,hd⟩,⟨kk,rfl⟩,_,np,rfl⟩
 ·have hn:news=[]:=List.eq_nil_of_length_eq_zero (by simpa using hs.rows.1);subst hn;have hl:=hs.len w;have hf:=hs.first w (fun _ _=>rfl);simp only[List.length_nil]at hl hf;rcases xe hu with ⟨e2,hd⟩|hd<;>cases ao<;>
   simp[Builtin.append_,run_underlying ht,run_underlying hd,sizeOf,typeInfo,hi,hl,hf,hle,storeCells]
 ·have w0:=FQ (n:=0) (by omega);simp only[Int.ofNat_zero,Int.natCast_zero]at w0;cases ao<;>simp[Builtin.append_,run_underlying ht,run_underlying hd,sizeOf,typeInfo,hi,w0,asInt,asIntOf,hle,storeCells]
theorem run_append_fits{w:World}{t u ty e:TypeId}{i:TypeInfo}{z:Value}(ht:P.underlying t=some (.slice e))(hi:P.info? e=some i)(hz:i.zero=some z)
 {g b len cap:Nat} {F ys x news} (hs:CZ P w F u i.size z ys x news) {cur:Array Value} {e':TypeId} (hg:eL w g cur e')
 (iI:len+ys.length≤cap) (m9:b+len*i.size+news.length≤cur.size) (FR:ys.length*i.bytes≤140737488355328):
 (Builtin.append_ #[t,u] ty #[.slice (some ⟨g,b,none⟩) len cap,x]).run P w=.ok (.slice (some ⟨g,b,none⟩) (len+ys.length) cap) (w.setRow g (putCells cur.toList (b+len*i.size) news).toArray):=by
 obtain⟨fz,hg,Bm⟩:=hg;have db:=jj (P:=P) g (b+len*i.size) e' fz news 0 cur w hg Bm (by simpa using m9) (fun x hx=>m7 (hs.rows.2.1 x hx));simp only[Nat.add_zero]at db;rw[dn _ _ _ (by simpa using m9)];rcases hs.kind with ⟨hu,hs⟩|⟨⟨k,hd⟩,⟨kk,rfl⟩,hsm,np,rfl⟩
 ·have hf:=hs.first w (fun _ _=>rfl);rcases xe hu with ⟨e2,hd⟩|hd<;>simp[Builtin.append_,run_underlying ht,run_underlying hd,sizeOf,typeInfo,hi,hs.len,iI,hf,ff,db]
 ·have wn:=FQ hsm;have h1:¬((ys.length:Int)<0):=by omega
  have h2:¬(281474976710656<(ys.length:Int)*(i.bytes:Int)):=by
   have:(ys.length:Int)*(i.bytes:Int)=((ys.length*i.bytes:Nat):Int):=by simp
   rw[this];omega
  by_cases h0:ys.length*i.size=0
  ·have DI:=uh (z:=z.cells) (n:=ys.length) (by rw[np];exact h0);rw[DI]at db⊢;simp only[Array.toList_empty]at db;simp[Builtin.append_,run_underlying ht,run_underlying hd,sizeOf,typeInfo,hi,wn,asInt,asIntOf,h1,h2,h0,iI,ff,db]
  ·simp[Builtin.append_,run_underlying ht,run_underlying hd,sizeOf,typeInfo,zeroValue,hi,hz,wn,asInt,asIntOf,h1,h2,h0,iI,ff,db]
theorem rB{w:World}{t u ty e:TypeId}{i:TypeInfo}{z:Value}(ht:P.underlying t=some (.slice e))(hi:P.info? e=some i)(hz:i.zero=some z)
 {ao:Option Addr} {len cap:Nat} {F ys x news} (hs:CZ P w F u i.size z ys x news) (kY:List Value)
 (hold:∀w',w'.heap=w.heap→(Builtin.firstCells i.size len (.slice ao len cap)).run P w'=.ok kY.toArray w')
 (iI:cap<len+ys.length) (h63:len+ys.length≤9223372036854775807) (m9:Builtin.nextslicecap (len+ys.length) cap*i.bytes≤281474976710656) (FR:ys.length*i.bytes≤140737488355328):
 (Builtin.append_ #[t,u] ty #[.slice ao len cap,x]).run P w=
  .ok (.slice (some ⟨w.heap.size,0,none⟩) (len+ys.length) (grownCap w (len+ys.length) cap e))
   (w.drew.alloc (.cells (kY.toArray++news.toArray++Builtin.zeroCells z.cells (grownCap w (len+ys.length) cap e-(len+ys.length))) e)):=by
 have hn:¬(len+ys.length≤cap):=by omega
 have TR:¬(9223372036854775807<((len:Int)+(ys.length:Int))):=by omega
 have TS:¬(281474976710656<Builtin.nextslicecap (len+ys.length) cap*i.bytes):=by omega
 have hfo:=hold w.drew rfl;rcases hs.kind with ⟨hu,hs⟩|⟨⟨k,hd⟩,⟨kk,rfl⟩,hsm,np,rfl⟩
 ·have hf:=hs.first w.drew (fun _ _=>rfl);rcases xe hu with ⟨e2,hd⟩|hd<;>
   (simp[Builtin.append_,run_underlying ht,run_underlying hd,sizeOf,typeInfo,zeroValue,hi,hz,hs.len,hn,TR,TS,Question.forced,hf,hfo,hU,grownCap]
    congr 2;apply Array.ext';simp[List.append_assoc])
 ·have wn:=FQ hsm;have h1:¬((ys.length:Int)<0):=by omega
  have h2:¬(281474976710656<(ys.length:Int)*(i.bytes:Int)):=by
   have:(ys.length:Int)*(i.bytes:Int)=((ys.length*i.bytes:Nat):Int):=by simp
   rw[this];omega
  by_cases h0:ys.length*i.size=0
  ·have DI:=uh (z:=z.cells) (n:=ys.length) (by rw[np];exact h0);rw[DI];simp[Builtin.append_,run_underlying ht,run_underlying hd,sizeOf,typeInfo,zeroValue,hi,hz,wn,asInt,asIntOf,h1,h2,h0,hn,TR,TS,Question.forced,hfo,hU,grownCap]
  ·simp[Builtin.append_,run_underlying ht,run_underlying hd,sizeOf,typeInfo,zeroValue,hi,hz,wn,asInt,asIntOf,h1,h2,h0,hn,TR,TS,Question.forced,hfo,hU,grownCap]
end
theorem qn{z:Array Value}{n:Nat}(h:∀v∈z,cv v=true):∀v∈Builtin.zeroCells z n,cv v=true:=by
 intro v hv;simp only[Builtin.zeroCells,Array.mem_map,Array.mem_range]at hv;obtain⟨i,hi,rfl⟩:=hv;have m8:0<z.size:=by
  rcases Nat.eq_zero_or_pos z.size with h0|h0
  ·simp[h0]at hi
  ·exact h0
 have bn:i%z.size<z.size:=Nat.mod_lt _ m8;rw[getElem!_pos z _ bn];exact h _ (by simp)
theorem Zc{P:Program}{t:TypeId}{k}(h:tk P t=.int k):P.underlying t=some (.int k):=by
 unfold tk at h;split at h<;>simp_all
def appN(zd:D):AV→Option (Bool×List D)
 | .d (.int _ n)=>some (decide (0≤n)&&decide (n≤4611686018427387904),List.replicate n.toNat zd)
 |_=>none
def appS(b:Bool):Option (Bool×List D)→Option (Bool×List D)
 |some (c,ys)=>some (c&&b,ys)
 |none=>none
def appSrc(P:Program)(m:Mem)(sz:Nat)(zd:D)(u:TypeId)(x:AV):Option (Bool×List D):=
 match tk P u with
 | .int _=>appN zd x
 |_=>appS (eH P u) (srcRows m sz x)
theorem cf.afB{w:World}{F:Nat→Prop}{z:Array Value}{sz:Nat}{zd:D}(oE:∀v∈z,cv v=true)(np:z.size=sz)(hd:zd.size=sz)(hv:∃v,aK w F zd v∧v.cells=z)(n:Nat):
 cf w F sz (List.replicate n zd) (Builtin.zeroCells z n).toList:=by
 refine⟨by simp[size_zeroCells,np],fun v hv=>qn oE v (by simpa using hv),fun d zE=>by rw[(List.mem_replicate.1 zE).2];exact hd,fun i d hi=>?_⟩;obtain⟨lB,rfl⟩:=List.getElem?_eq_some_iff.1 hi;obtain⟨v,h1,h2⟩:=hv;refine⟨v,by simpa using h1,fun j c hj=>?_⟩;have oD:j<z.size:=by rw[←h2];exact (Array.getElem?_eq_some_iff.1 hj).1
 simp at lB;have bn:i*sz+j<n*z.size:=by
  rw[np];have:i*sz+sz≤n*sz:=by rw[←Nat.succ_mul];exact Nat.mul_le_mul_right _ lB
  omega
 simp only[Builtin.zeroCells,Array.getElem?_toList,Array.getElem?_map,Array.getElem?_range];rw[if_pos bn];simp only[Option.map_some];have e:(i*sz+j)%z.size=j:=by rw[←np,Nat.mul_comm,Nat.mul_add_mod,Nat.mod_eq_of_lt oD]
 rw[e,getElem!_pos z j oD,←hj,h2];simp[oD]
theorem Jz{P:Program}{S:St}{φ G w}(hm:bj φ G S.mem w){u:TypeId}{i:TypeInfo}{z:Value}{zd:D}(oE:∀v∈z.cells,cv v=true)(np:z.cells.size=i.size)(xf:zd.size=i.size)(hzv:∃v,aK w (Fo G φ S.mem) zd v∧v.cells=z.cells)
 {x:AV} {v:Value} (hx:aB φ w (Fo G φ S.mem) x v) {c ys} (hs:appSrc P S.mem i.size zd u x=some (c,ys)) (hc:c=true) (bQ:∀d∈ys,d.size=i.size):
 ∃news,CZ P w (Fo G φ S.mem) u i.size z ys v news:=by
 unfold appSrc at hs;split at hs
 ·rename_i k hk;unfold appN at hs;split at hs
  ·rename_i kk n;cases hs;simp only[Bool.and_eq_true,decide_eq_true_eq]at hc;cases hx with
   |d _ _ hx=>
    cases hx;have hn:((List.replicate n.toNat zd).length:Int)=n:=by simp;omega
    refine⟨_,cf.afB oE np xf hzv n.toNat,.inr ⟨⟨k,Zc hk⟩,⟨kk,by rw[hn]⟩,by simp;omega,np,by simp⟩⟩
  ·cases hs
 ·rename_i hk;cases hr:srcRows S.mem i.size x with
  |none=>rw[hr]at hs;cases hs
  |some y=>
   obtain⟨c',FP⟩:=y;rw[hr]at hs;cases hs;simp only[Bool.and_eq_true]at hc;obtain⟨news,hn⟩:=FO (P:=P) hm hx hr hc.1 bQ;exact⟨news,hn.rows,.inl ⟨hc.2,hn⟩⟩
def appV(P:Program)(m:Mem)(u:TypeId)(sz ib:Nat)(zd:D)(s x:AV):di:=
 match s,x with
 | .vec k aj off len,.vec kx vx 0 1=>match Mem.get m k,Mem.get m kx with
  |some ⟨_,v,.vv rows none⟩,some ⟨_,v',.box [.lit (.slice none 0 0)]⟩=>
   .cW (eH P u=true∧v'=vx∧v=aj∧sz=1∧zd.size=1∧off+len≤rows.length∧(len+1)*ib≤140737488355328∧len+1≤4611686018427387904) (.vec k (aj+1) 0 (len+1)) ⟨k,aj+1,.vv ((rows.drop off).take len++[[]]) none⟩
  |_,_=>.no
 |_,_=>.no
theorem FT{φ φ':bM}{w w':World}{F F':Nat→Prop}{L:Loc}{rows:List (List D)}(h:jX φ w F L rows none){off len:Nat}(hle:off+len≤rows.length)
 (L':Loc) (hz:L'.sz=1) (hs:L'.cM=(L.cM.drop off).take len++[none]) (dg:len+1≤L'.cap) (hb:∀b,some b∈L.cM→b≠L'.du) {fW:Array Value} {Wb:TypeId} (hr:eL w' L'.du fW Wb) (bQ:fW.size=L'.base+L'.cap) (h1:∀v∈fW,cv v=true)
 (hold:∀i,i<len→∃(arr:Array Value)(elem:TypeId),0<L.cap∧eL w L.du arr elem∧fW[L'.base+i]?=arr[L.base+off+i]?) (iV:fW[L'.base+len]?=some (.slice none 0 0))
 (hd:∀d u,aK w F d u→aK w' F' d u) (hw:∀b,some b∈L.cM→w'.heap[b]?=w.heap[b]?):jX φ' w' F' L' ((rows.drop off).take len++[[]]) none:=by
 obtain⟨⟨g1,g2,g3⟩,g4,g5,g6⟩:=h;have hlen:((rows.drop off).take len).length=len:=by simp;omega
 have Ff:((L.cM.drop off).take len).length=len:=by simp;omega
 have eW:∀b,some b∈L'.cM→some b∈L.cM:=by
  intro b hb;rw[hs]at hb;rcases List.mem_append.1 hb with hb|hb
  ·exact List.mem_of_mem_drop (List.mem_of_mem_take hb)
  ·simp at hb
 have oR:∀(i b:Nat),L'.cM[i]?=some (some b)→i<len∧L.cM[off+i]?=some (some b):=by
  intro i b hb;rw[hs]at hb;by_cases hi:i<len
  ·rw[List.getElem?_append_left (by omega),List.getElem?_take,if_pos hi,List.getElem?_drop]at hb;exact⟨hi,hb⟩
  ·rw[List.getElem?_append_right (by omega),Ff]at hb;cases Wc:i-len with
   |zero=>rw[Wc]at hb;simp at hb
   |succ n=>rw[Wc]at hb;simp at hb
 refine⟨⟨hz,by simp;omega,by rw[hs];simp;omega⟩,fun i j b hi hj=>?_,fun b pT=>⟨by omega,hb b (eW b pT)⟩,fun _=>?_⟩
 ·have h2:=g4 (off+i) (off+j) b (oR i b hi).2 (oR j b hj).2;omega
 ·refine⟨fW,Wb,hr,bQ,h1,fun i xs o hi ho=>?_,fun x hx=>by cases hx⟩;by_cases iu:i<len
  ·rw[List.getElem?_append_left (by omega),List.getElem?_take,if_pos iu,List.getElem?_drop]at hi;rw[hs,List.getElem?_append_left (by omega),List.getElem?_take,if_pos iu,List.getElem?_drop]at ho;obtain⟨arr,elem,hL,Ql,hold⟩:=hold i iu;obtain⟨aky,el0,q1,q2,q3,q4,_⟩:=g6 hL;have gi:aky=arr:=by
    obtain⟨f1,e1,_⟩:=q1;obtain⟨f2,e2,_⟩:=Ql;rw[e1]at e2;simp only[Option.some.injEq,Obj.cells.injEq]at e2;exact e2.1
   subst gi;rw[hold,Nat.add_assoc];exact (q4 (off+i) xs o hi ho).mono (fun d u _ hdu=>hd d u hdu) (fun b e=>hw b (by subst e;exact List.mem_of_getElem? ho))
  ·have hi0:i=len:=by
    have:=(List.getElem?_eq_some_iff.1 hi).1;simp only[List.length_append,List.length_singleton,hlen]at this;omega
   subst hi0;rw[List.getElem?_append_right (by omega),hlen]at hi;rw[hs,List.getElem?_append_right (by omega),Ff]at ho;simp at hi ho;subst hi;subst ho;exact⟨rfl,none,iV⟩
theorem Zd(P:Program)(S:St)(o:Oper)(s x:Operand)(t u:TypeId)(ho:o.op=.call {callee:=.builtin .append,args:=#[s,x],argTypes:=#[t,u]})
 (hs:(S.opd s).1=true) (hx:(S.opd x).1=true) {e:TypeId} (ht:P.underlying t=some (.slice e)) {i:TypeInfo} {z:Value} (hi:P.info? e=some i) (hz:i.zero=some z) {zd:D} (vi:z.cells.size=zd.size) (oE:∀v∈z.cells,cv v=true):
 aH P S o (appV P S.mem u i.size i.bytes zd (S.opd s).2 (S.opd x).2):=by
 have bL:∀(a:Act)(w w':World)(v:Value),(Builtin.append_ #[t,u] o.type #[a.eval s,a.eval x]).run P w=.ok v w'→(execOp a.eval o).run P w=.ok (.value v) w':=by
  intro a w w' v h;simp[execOp,ho,resolve,invoke,builtin,h]
 unfold appV;split
 ·rename_i k aj off len kx vx FU bI;split
  ·rename_i key v rows dQ v' hg hgx;refine aH.qm ?_;rintro ⟨mw,rfl,rfl,nq,np,hle,hb,vj⟩ φ G a w hr;obtain⟨hm,hk,L,hL,aA,b7⟩:=hr.mem.get hg;simp only at hk aA b7;subst hk;obtain⟨hmx,ui,Lx,ek,Wd,⟨x1,x2,x3⟩,NC,elx,hrx,hsx,_,afC⟩:=hr.mem.get hgx;simp only at ui Wd;subst ui;have hv:=hr.opd s hs;have oF:=hr.opd x hx;rw[FU]at hv;rw[bI]at oF;have gO:NC[0]?=some (.slice none 0 0):=by
    have h0:0<NC.size:=by rw[hsx];simp
    have:=afC 0 _ NC[0] rfl (by simp[h0]);generalize hq:NC[0]=q at this;cases this;simp[h0,hq]
   generalize hex:a.eval x=xv at oF;cases oF with
   |vec _ _ _ _ _ L' bO _ h _=>
    rw[ek]at bO;cases bO;obtain⟨aox,aaF,rfl,avO,akz⟩:=h Wd.symm;clear h;obtain⟨rfl,_⟩:=akz (by omega);have kP:CZ P w (Fo G φ S.mem) u i.size z [.list []] (.slice (some ⟨Lx.du,Lx.base+0*Lx.sz,none⟩) 1 aaF) [.slice none 0 0]:=by
     have jm:cf w (Fo G φ S.mem) i.size [.list []] [.slice none 0 0]:=by
      refine⟨by simp[nq],by simp[cv],by simp[nq,D.size],fun n d hn=>?_⟩;cases n with
      |zero=>simp at hn;subst hn;exact⟨.slice none 0 0,.nil none 0 (fun _=>rfl),fun j c hj=>by simpa [Value.cells]using hj⟩
      |succ n=>simp at hn
     refine⟨jm,.inl ⟨mw,fun w'=>by simp[Builtin.lenOf],fun n hn w' qz=>?_,jm⟩⟩;refine run_firstCells_some (P:=P) w' i.size n _ 1 aaF _ (by have:n≤1:=hn;simp[nq];omega) (fun j c hj=>?_);rw[ff,jG (qz _ hrx.lt),gv hrx,x1,x2];rw[List.getElem?_take]at hj;split at hj
     ·cases j with
      |zero=>simp at hj;subst hj;simpa using gO
      |succ j=>simp at hj
     ·cases hj
    generalize bU:a.eval s=sv at hv;cases hv with
    |vec _ _ _ _ _ L' bO _ h _=>
     rw[hL]at bO;cases bO;obtain⟨ao,cap,rfl,fU,dz⟩:=h aA.symm;clear h;have We:∀b,some b∈L.cM→b<w.heap.size:=fun b hb=>hr.mem.Bk ⟨_,hm,L,hL,.inr hb⟩;have aaG:∀b,some b∈(L.cM.drop off).take len++[none]→some b∈L.cM:=by
      intro b hb;rcases List.mem_append.1 hb with hb|hb
      ·exact List.mem_of_mem_drop (List.mem_of_mem_take hb)
      ·simp at hb
     have grow:∀(kY:List Value),kY.length=len→(∀q∈kY,cv q=true)→(∀n,n<len→∃(arr:Array Value)(elem:TypeId),0<L.cap∧eL w L.du arr elem∧kY[n]?=arr[L.base+off+n]?)→
      (∀w',w'.heap=w.heap→(Builtin.firstCells i.size len (.slice ao len cap)).run P w'=.ok kY.toArray w')→cap<len+1→
      ∃vv w' φ',Bn P o a w vv w'∧aB φ' w' (Fo G φ' (Mem.set S.mem ⟨key,v+1,.vv ((rows.drop off).take len++[[]]) none⟩)) (.vec key (v+1) 0 (len+1)) vv∧
       bj φ' G (Mem.set S.mem ⟨key,v+1,.vv ((rows.drop off).take len++[[]]) none⟩) w'∧aP φ S.mem w φ' (Mem.set S.mem ⟨key,v+1,.vv ((rows.drop off).take len++[[]]) none⟩) w'∧∀k,k≠key→φ' k=φ k:=by
      intro kY pU akA hold aaH iI;have wW:=grownCap_ge w (len+1) cap e;have ND:z.cells.size=1:=by rw[vi];exact np
      have fZ:=rB (P:=P) (ty:=o.type) ht hi hz kP kY aaH (by simpa using iI) (by simp;omega) (growslice_fits (by simpa using iI) (by simpa using hb)) (by simp;have:=Nat.mul_le_mul_right i.bytes (Nat.le_add_left 1 len);omega);simp only[List.length_singleton]at fZ;obtain⟨φ',dq,aN,eX,en⟩:=hr.mem.Qg (e:=⟨key,v,.vv rows none⟩) hm hL aA w.drew rfl rfl rfl rfl
       (kY.toArray++[Value.slice none 0 0].toArray++Builtin.zeroCells z.cells (grownCap w (len+1) cap e-(len+1))) e (.vv ((rows.drop off).take len++[[]]) none)
       ⟨v+1,w.heap.size,1,grownCap w (len+1) cap e,0,(L.cM.drop off).take len++[none]⟩ rfl
       (fun b hb=>by
        rcases hb with ⟨_,hb⟩|hb
        ·exact .inr hb
        ·exact .inl (.inr (aaG b hb))) (fun φ' kX bY iU iV afD=>by
       refine FT b7 hle _ rfl rfl (by simp only;omega) (fun b hb=>by have:=We b hb;simp only;omega) (.new iV) ?_ ?_ ?_ ?_ iU (fun b hb=>afD b (We b hb))
       ·simp only[Array.size_append,List.size_toArray,pU,List.length_singleton,size_zeroCells,ND];omega
       ·intro q hq;simp only[Array.mem_append]at hq;rcases hq with (hq|hq)|hq
        ·exact akA q (by simpa using hq)
        ·simp at hq;subst hq;rfl
        ·exact qn oE q hq
       ·intro n hn;obtain⟨arr,elem,h1,h2,h3⟩:=hold n hn;refine⟨arr,elem,h1,h2,?_⟩;rw[←h3];simp only[Nat.zero_add];rw[Array.getElem?_append_left (by simp;omega),Array.getElem?_append_left (by simp;omega),List.getElem?_toArray]
       ·simp only[Nat.zero_add];rw[Array.getElem?_append_left (by simp;omega),Array.getElem?_append_right (by simp;omega)];simp[pU])
      refine⟨_,_,φ',.inl (bL a w _ _ (by rw[bU,hex];exact fZ)),?_,dq,aN,en⟩;exact .vec key (v+1) 0 _ _ _ eX (Nat.le_refl _) (fun _=>⟨_,_,rfl,wW,fun _=>⟨by simp,by simp⟩⟩) rfl
     by_cases Qm:0<L.cap
     ·obtain⟨arr,elem,hh,tE,rA,_,_⟩:=b7.2.2.2 Qm;have fQ:∀b,some b∈L.cM→b≠L.du:=fun b hb=>(b7.2.2.1 b hb).2;have apg:∀b,some b∈L.cM→aE.cN L (.vv rows none) b:=fun b hb=>.inr hb;have afE:∀b,some b∈(L.cM.drop off).take len++[none]→some b∈L.cM:=by
       intro b hb;rcases List.mem_append.1 hb with hb|hb
       ·exact List.mem_of_mem_drop (List.mem_of_mem_take hb)
       ·simp at hb
      by_cases iI:len+[D.list []].length≤cap
      ·simp only[List.length_singleton]at iI;obtain⟨rfl,mG⟩:=dz (by omega);have cL:L.base+off*L.sz+len*i.size+[Value.slice none 0 0].length≤arr.size:=by rw[tE,b7.1.1,nq];simp;omega
       have xg:=run_append_fits (P:=P) (ty:=o.type) ht hi hz kP hh (by simpa using iI) cL (by simp;have:=Nat.mul_le_mul_right i.bytes (Nat.le_add_left 1 len);omega);have aaI:=bL a w _ _ (by rw[bU,hex];exact xg);rw[b7.1.1,nq,Nat.mul_one,Nat.mul_one]at aaI cL;have iH:L.base+off+len+[Value.slice none 0 0].length≤arr.toList.length:=by simpa using cL
       obtain⟨φ',dq,aN,eX,en⟩:=hr.mem.FK (e:=⟨key,v,.vv rows none⟩) hm hL aA (b0:=L.du) (.inl ⟨Qm,rfl⟩) (putCells arr.toList (L.base+off+len) [Value.slice none 0 0]).toArray ⟨v+1,L.du,1,L.cap-off,L.base+off,(L.cM.drop off).take len++[none]⟩ (Nat.le_succ _) (fun hh=>by simp only at aA hh;omega) (.vv ((rows.drop off).take len++[[]]) none)
        (fun b hb=>by
         rcases hb with ⟨_,hb⟩|hb
         ·exact .inl ⟨Qm,hb⟩
         ·exact .inr (afE b hb)) (fun φ' kX bY iU=>by
        refine FT b7 hle _ rfl rfl (by simp only;omega) fQ (hh.setRow _ (by rw[List.size_toArray,bN _ _ _ iH];simp)) ?_ ?_ ?_ ?_ iU ?_
        ·rw[List.size_toArray,bN _ _ _ iH];simp only[Array.length_toList,tE];omega
        ·intro q hq;rcases j8 iH (by simpa using hq)with hq|hq
         ·exact rA q (by simpa using hq)
         ·simp at hq;subst hq;rfl
        ·intro n hn;refine⟨arr,elem,Qm,hh,?_⟩;simp only
         rw[List.getElem?_toArray,gw _ _ _ iH,if_pos (by omega)];simp
        ·simp only
         rw[List.getElem?_toArray,gw _ _ _ iH,if_neg (by omega),if_pos (by simp)];simp
        ·intro b hb;exact mW w L.du b _ (fQ b hb))
       refine⟨_,_,φ',.inl aaI,?_,dq,aN,en⟩;exact .vec key (v+1) 0 _ _ _ eX (Nat.le_refl _) (fun _=>⟨_,_,rfl,by simpa using iI,fun _=>⟨by simp,by simp only;omega⟩⟩) rfl
      ·have aaJ:cap<len+1:=by simpa using iI
       have NF:=b7.1.2.1;simp only[Option.toList_none,List.length_nil,Nat.add_zero]at NF;refine grow ((arr.toList.drop (L.base+off)).take len) (by simp;omega) (fun q hq=>rA q (by simpa using List.mem_of_mem_drop (List.mem_of_mem_take hq))) (fun n hn=>⟨arr,elem,Qm,hh,?_⟩) (fun w' qz=>?_) aaJ
       ·rw[List.getElem?_take,if_pos hn,List.getElem?_drop];simp
       ·by_cases cm:len=0
        ·subst cm;cases ao with
         |none=>simp[Builtin.firstCells]
         |some a=>simp[Builtin.firstCells,loadCells,loadCellsFrom]
        ·obtain⟨rfl,mG⟩:=dz (by omega);refine run_firstCells_some (P:=P) w' i.size len _ len cap _ (by simp[nq];omega) (fun j c hj=>?_);rw[ff,jG (w:=w) (w':=w') (by rw[qz]),gv hh,b7.1.1,Nat.mul_one];rw[List.getElem?_take]at hj;split at hj
         ·rw[List.getElem?_drop]at hj;simpa using hj
         ·cases hj
     ·have NF:=b7.1.2.1;simp only[Option.toList_none,List.length_nil,Nat.add_zero]at NF;have cm:len=0:=by omega
      have vh:cap=0:=by
       rcases Nat.eq_zero_or_pos cap with h0|h0
       ·exact h0
       ·have:=(dz h0).2;omega
      subst cm;subst vh;refine grow [] rfl (by simp) (fun n hn=>by omega) (fun w' qz=>?_) (by omega);cases ao with
      |none=>simp[Builtin.firstCells]
      |some a=>simp[Builtin.firstCells,loadCells,loadCellsFrom]
  ·trivial
 ·trivial
def appR(P:Program)(m:Mem)(k0:Nat)(t:TypeId)(u:TypeId)(s x:AV):di:=
 match tk P t with
 | .slice e=>match fe P e,xc P e,lD P e with
  |some sz,some ib,some zd=>match appSrc P m sz zd u x with
   |some (c,ys)=>match s with
    | .vec k aj off len=>match Mem.get m k with
     |some ⟨_,v,.vec cJ rows⟩=>.cW (c∧zd.size=sz∧v=aj∧off+len≤rows.length∧cJ=sz∧(∀d∈ys,d.size=sz)∧(len+ys.length)*ib≤140737488355328∧len+ys.length≤4611686018427387904)
      (.vec k (aj+1) 0 (len+ys.length)) ⟨k,aj+1,.vec sz ((rows.drop off).take len++ys)⟩
     |_=>.no
    | .lit (.slice none 0 0)=>match Mem.get m k0 with
     |some ⟨_,v,_⟩=>.cW (c∧zd.size=sz∧(∀d∈ys,d.size=sz)∧ys.length*ib≤140737488355328∧ys.length≤4611686018427387904)
      (.vec k0 (v+1) 0 ys.length) ⟨k0,v+1,.vec sz ys⟩
     |_=>.no
    |_=>.no
   |none=>appV P m u sz ib zd s x
  |_,_,_=>.no
 |_=>.no
theorem fG{P:Program}{t e:TypeId}(h:tk P t=.slice e):P.underlying t=some (.slice e):=by
 unfold tk at h;split at h<;>simp_all
theorem JA{P:Program}{e:TypeId}{sz ib:Nat}{zd:D}(h1:fe P e=some sz)(h2:xc P e=some ib)(h3:lD P e=some zd):
 ∃i z,P.info? e=some i∧i.size=sz∧i.bytes=ib∧i.zero=some z∧z.cells.size=zd.size∧(∀v∈z.cells,cv v=true)∧∀w' F,∃v,aK w' F zd v∧v.cells=z.cells:=by
 unfold fe at h1;unfold xc at h2;cases hi:P.info? e with
 |none=>simp[hi]at h1
 |some i=>
  simp[hi]at h1 h2;obtain⟨z,bL,h4,h5,h6⟩:=Bp h3 default;cases hz:i.zero with
  |none=>simp[zeroValue,typeInfo,hi,hz,unsupported]at bL
  |some z'=>
   simp[zeroValue,typeInfo,hi,hz]at bL;subst bL;exact⟨i,z',rfl,h1,h2,hz,h4,h5,h6⟩
theorem aaK(P:Program)(S:St)(o:Oper)(s x:Operand)(t u:TypeId)(ho:o.op=.call {callee:=.builtin .append,args:=#[s,x],argTypes:=#[t,u]})
 (hs:(S.opd s).1=true) (hx:(S.opd x).1=true):aH P S o (appR P S.mem (keyOf o) t u (S.opd s).2 (S.opd x).2):=by
 have bL:∀(a:Act)(w w':World)(v:Value),(Builtin.append_ #[t,u] o.type #[a.eval s,a.eval x]).run P w=.ok v w'→(execOp a.eval o).run P w=.ok (.value v) w':=by
  intro a w w' v h;simp[execOp,ho,resolve,invoke,builtin,h]
 unfold appR;split
 ·rename_i e ga;have ht:=fG ga;split
  ·rename_i sz ib zd h1 h2 h3;obtain⟨i,z,hi,rfl,rfl,hz,vi,oE,xf⟩:=JA h1 h2 h3;split
   ·rename_i c ys mw
    --arj avP a new block
    have grow:∀{φ G}{a:Act}{w:World}(hr:Rel φ G S a w){news:List Value}(kP:CZ P w (Fo G φ S.mem) u i.size z ys (a.eval x) news){key aj:Nat}{cont:aE}(hm:(⟨key,aj,cont⟩:cH)∈S.mem){L:Loc}(hL:φ key=some L)(aA:L.aj=aj)
     (ao:Option Addr) (len cap:Nat) (bU:a.eval s=.slice ao len cap) (kY:List Value) (xh:List D) (rC:cf w (Fo G φ S.mem) i.size xh kY) (pU:xh.length=len)
     (hold:∀w',w'.heap=w.heap→(Builtin.firstCells i.size len (.slice ao len cap)).run P w'=.ok kY.toArray w')
     (iI:cap<len+ys.length) (hb:(len+ys.length)*i.bytes≤140737488355328) (vj:len+ys.length≤4611686018427387904) (nP:zd.size=i.size),
     ∃v w' φ',Bn P o a w v w'∧aB φ' w' (Fo G φ' (Mem.set S.mem ⟨key,aj+1,.vec i.size (xh++ys)⟩)) (.vec key (aj+1) 0 (len+ys.length)) v∧
      bj φ' G (Mem.set S.mem ⟨key,aj+1,.vec i.size (xh++ys)⟩) w'∧aP φ S.mem w φ' (Mem.set S.mem ⟨key,aj+1,.vec i.size (xh++ys)⟩) w'∧∀k,k≠key→φ' k=φ k:=by
     intro φ G a w hr news kP key aj cont hm L hL aA ao len cap bU kY xh rC pU hold iI hb vj nP;have wW:=grownCap_ge w (len+ys.length) cap e;have fZ:=rB (P:=P) (ty:=o.type) ht hi hz kP kY hold iI (by omega) (growslice_fits iI hb) (by have:=Nat.mul_le_mul_right i.bytes (Nat.le_add_left ys.length len);omega);have jm:cf w (Fo G φ S.mem) i.size (xh++ys) (kY++news):=rC.append kP.rows;obtain⟨φ',dq,aN,eX,en⟩:=hr.mem.fresh (e:=⟨key,aj,cont⟩) hm hL aA w.drew rfl rfl rfl rfl
      (kY.toArray++news.toArray++Builtin.zeroCells z.cells (grownCap w (len+ys.length) cap e-(len+ys.length))) e i.size (grownCap w (len+ys.length) cap e) (.vec i.size (xh++ys)) (fun _ hb=>hb.2) (fun φ' hle bY iU iV=>by
       refine tD (cs:=kY++news) (rest:=(Builtin.zeroCells z.cells (grownCap w (len+ys.length) cap e-(len+ys.length))).toList) (elem:=e) rfl rfl (jm.mono iU) ?_ (by simp;omega) ?_ (fun _=>?_)
       ·intro v hv;exact qn oE v (by simpa using hv)
       ·have np:z.cells.size=i.size:=by
         rw[vi];exact nP
        rw[List.length_append,jm.1];simp only[Array.length_toList,size_zeroCells,np,List.length_append,pU,←Nat.add_mul];congr 1;omega
       ·refine eL.new ?_;rw[iV];congr 2;apply Array.ext';simp)
     refine⟨_,_,φ',.inl (bL a w _ _ (by rw[bU];exact fZ)),?_,dq,aN,en⟩;exact .vec key (aj+1) 0 _ _ _ eX (Nat.le_refl _) (fun _=>⟨_,_,rfl,wW,fun _=>⟨by simp,by simp⟩⟩) rfl
    split
    ·rename_i k aj off len FU;split
     ·rename_i key v cJ rows hg;refine aH.qm ?_;rintro ⟨hc,nP,rfl,hle,rfl,FV,hb,vj⟩ φ G a w hr;obtain⟨hm,hk,L,hL,aA,b7⟩:=hr.mem.get hg;simp only at hk;subst hk;have hv:=hr.opd s hs;have bI:=hr.opd x hx;rw[FU]at hv;obtain⟨news,kP⟩:=Jz (P:=P) hr.mem oE (by rw[vi];exact nP) nP (xf _ _) bI mw hc FV;generalize bU:a.eval s=sv at hv;cases hv with
      |vec _ _ _ _ _ L' bO _ h _=>
       rw[hL]at bO;cases bO;obtain⟨ao,cap,rfl,fU,dz⟩:=h aA.symm;clear h;have zD:L.sz=i.size:=b7.1;have nr:((rows.drop off).take len).length=len:=by simp;omega
       by_cases iI:len+ys.length≤cap
       ·by_cases dg:cap=0
        · --nothing avQ nothing
         have JB:ys=[]:=List.eq_nil_of_length_eq_zero (by omega);have cm:len=0:=by omega
         subst JB;subst cm;have xg:=pS (P:=P) (ty:=o.type) (ao:=ao) ht hi hz kP fU;obtain⟨φ',dq,aN,eX,en⟩:=hr.mem.cW (e':=⟨key,v+1,.vec i.size ((rows.drop off).take 0++[])⟩) hm hL rfl (L':={L with aj:=v+1}) (by simp only at aA;simp;omega) (fun hh=>by simp only at aA hh;omega) rfl
          (w':=w) (fun _ _ _=>rfl) (Nat.le_refl _) (fun _ ho=>.inl ho) rfl rfl rfl (fun φ' jh kX=>by
           obtain⟨g1,g2,g3,g4⟩:=b7;refine⟨g1,by simp,by simp,fun hc=>?_⟩;obtain⟨arr,elem,f1,f2,f3,f4⟩:=g4 hc;exact⟨arr,elem,f1,f2,f3,by simp⟩)
         refine⟨_,w,φ',.inl (bL a w w _ (by rw[bU];exact xg)),?_,dq,aN,en⟩;exact .vec key (v+1) 0 _ _ _ eX (Nat.le_refl _) (fun _=>⟨_,_,rfl,by simp,fun h=>by omega⟩) rfl
        ·obtain⟨rfl,mG⟩:=dz (by omega);obtain⟨arr,elem,hh,tE,rA,Qn⟩:=mF b7 (by omega);obtain⟨B,hB⟩:∃B,B=L.base+off*i.size:=⟨_,rfl⟩;have Qo:=((Qn.drop off).take len (by simp;omega));have DJ:(((arr.toList.drop L.base).take (rows.length*i.size)).drop (off*i.size)).take (len*i.size)=(arr.toList.drop B).take (len*i.size):=by
          have:off*i.size+len*i.size≤rows.length*i.size:=by rw[←Nat.add_mul];exact Nat.mul_le_mul_right _ hle
          rw[List.drop_take,List.take_take,Nat.min_eq_left (by omega),List.drop_drop,hB]
         rw[DJ]at Qo;have iN:=Qo.append kP.rows;have wZ:=kP.rows.1;have avR:len*i.size+news.length≤(L.cap-off)*i.size:=by
          rw[wZ,←Nat.add_mul];exact Nat.mul_le_mul_right _ (by omega)
         have eQ:off*i.size+(L.cap-off)*i.size=L.cap*i.size:=by rw[←Nat.add_mul];congr 1;omega
         have cL:B+len*i.size+news.length≤arr.size:=by omega
         rw[zD,←hB]at bU;have xg:=run_append_fits (P:=P) (ty:=o.type) ht hi hz kP hh iI cL (by have:=Nat.mul_le_mul_right i.bytes (Nat.le_add_left ys.length len);omega);obtain⟨φ',dq,aN,eX,en⟩:=hr.mem.FK (e:=⟨key,v,.vec i.size rows⟩) hm hL aA (b0:=L.du) ⟨by omega,rfl⟩ (putCells arr.toList (B+len*i.size) news).toArray ⟨v+1,L.du,L.sz,L.cap-off,B,[]⟩ (Nat.le_succ _) (fun hh=>by simp only at aA hh;omega) (.vec i.size ((rows.drop off).take len++ys)) (fun _ hb=>⟨by omega,hb.2⟩) (fun φ' kX bY iU=>by
          refine rz (pre:=arr.toList.take B) (cs:=(arr.toList.drop B).take (len*i.size)++news) (rest:=arr.toList.drop (B+len*i.size+news.length)) (elem:=elem) zD (iN.mono iU) ?_ ?_ ?_ (by rw[List.length_append,nr];simp only;omega) ?_ (fun _=>?_)
          ·simp only[List.length_take,Array.length_toList];omega
          ·intro z hz;exact rA z (by simpa using List.mem_of_mem_take hz)
          ·intro z hz;exact rA z (by simpa using List.mem_of_mem_drop hz)
          ·show _=(L.cap-off)*i.size;simp only[List.length_append,List.length_take,List.length_drop,Array.length_toList];omega
          ·have e:=hh.setRow (putCells arr.toList (B+len*i.size) news).toArray (by show (putCells arr.toList _ _).length=_;rw[bN _ _ _ (by simpa using cL)];simp);rw[dn _ _ _ (by simpa using cL),List.take_add]at e;rw[dn _ _ _ (by simpa using cL),List.take_add];simpa [List.append_assoc]using e)
         refine⟨_,_,φ',.inl (bL a w _ _ (by rw[bU];exact xg)),?_,dq,aN,en⟩;exact .vec key (v+1) 0 _ _ _ eX (Nat.le_refl _) (fun _=>⟨_,_,rfl,iI,fun _=>⟨by simp,by simp only;omega⟩⟩) rfl
       ·by_cases dg:cap=0
        ·subst dg;have cm:len=0:=by omega
         subst cm;have:=grow hr kP hm hL aA ao 0 0 bU [] [] (cf.nil ..) rfl (fun w' _=>by cases ao<;>simp[Builtin.firstCells,loadCells,loadCellsFrom]) (by omega) hb vj nP;simpa using this
        ·obtain⟨rfl,mG⟩:=dz (by omega);obtain⟨arr,elem,hh,tE,rA,Qn⟩:=mF b7 (by omega);have Qo:=((Qn.drop off).take len (by simp;omega));exact grow hr kP hm hL aA _ len cap bU _ ((rows.drop off).take len) Qo nr (fun w' qz=>by
          refine run_firstCells_some (P:=P) w' i.size len _ len cap _ (by rw[Qo.1,nr]) (fun j u hj=>?_);rw[ff,show w'.cell? ⟨L.du,L.base+off*L.sz+j,none⟩=w.cell? ⟨L.du,L.base+off*L.sz+j,none⟩ by simp[World.cell?,qz],gv hh,zD];rw[List.getElem?_take]at hj;split at hj
          ·rw[List.getElem?_drop,List.getElem?_take]at hj;split at hj
           ·rw[List.getElem?_drop]at hj;rw[Nat.add_assoc];simpa using hj
           ·cases hj
          ·cases hj) (by omega) hb vj nP
     ·trivial
    ·rename_i FU;split
     ·rename_i key v cont hg;refine aH.qm ?_;rintro ⟨hc,nP,FV,hb,vj⟩ φ G a w hr;obtain⟨hm,hk,L,hL,aA,b7⟩:=hr.mem.get hg;simp only at hk aA;subst hk;have hv:=hr.opd s hs;have bI:=hr.opd x hx;rw[FU]at hv;obtain⟨news,kP⟩:=Jz (P:=P) hr.mem oE (by rw[vi];exact nP) nP (xf _ _) bI mw hc FV;generalize bU:a.eval s=sv at hv;cases hv;by_cases JB:ys=[]
      ·subst JB;have xg:=pS (P:=P) (ty:=o.type) (ao:=none) (len:=0) (cap:=0) ht hi hz kP (Nat.le_refl _);obtain⟨φ',dq,aN,eX,en⟩:=hr.mem.cW (e':=⟨keyOf o,v+1,.vec i.size []⟩) hm hL rfl (L':=⟨v+1,0,i.size,0,0,[]⟩) (by simp only;omega) (fun hh=>by simp only at hh;omega) rfl
        (w':=w) (fun _ _ _=>rfl) (Nat.le_refl _) (fun _ ho=>absurd ho.1 (by simp)) rfl rfl rfl (fun φ' jh kX=>
         ⟨rfl,by simp,by simp,fun hc=>by simp at hc⟩)
       refine⟨_,w,φ',.inl (bL a w w _ (by rw[bU];exact xg)),?_,dq,aN,en⟩;exact .vec _ (v+1) 0 _ _ _ eX (Nat.le_refl _) (fun _=>⟨_,_,rfl,by simp,fun h=>by omega⟩) rfl
      ·have m8:0<ys.length:=List.length_pos_iff.2 JB;have:=grow hr kP hm hL aA none 0 0 bU [] [] (cf.nil ..) rfl (fun w' _=>by simp[Builtin.firstCells]) (by omega) (by simpa using hb) (by simpa using vj) nP;simpa using this
     ·trivial
    ·trivial
   ·exact Zd P S o s x t u ho hs hx ht hi hz vi oE
  ·trivial
 ·trivial
def makeR(P:Program)(m:Mem)(k0:Nat)(t:TypeId)(l c:AV):di:=
 match tk P t with
 | .slice e=>match fe P e,xc P e,lD P e,l,c,Mem.get m k0 with
  |some sz,some ib,some zd,.d (.int .i64 n),.d (.int .i64 n'),some ⟨_,v,_⟩=>
   .cW (n=n'∧0≤n∧n*ib≤140737488355328∧n≤4611686018427387904∧zd.size=sz) (.vec k0 (v+1) 0 n.toNat) ⟨k0,v+1,.vec sz (List.replicate n.toNat zd)⟩
  |_,_,_,_,_,_=>.no
 |_=>.no
theorem wrap_small{n:Int}(h0:0≤n)(h:n≤4611686018427387904):IntKind.i64.wrap n=n:=IntWalk.i64_in _ (by omega)
theorem NG(z:Array Value)(n sz:Nat)(hz:z.size=sz)(d:D)(hs:d.size=sz)(h1:∀v∈z,cv v=true)(w:World)(F:Nat→Prop)(hd:∃v,aK w F d v∧v.cells=z):
 cf w F sz (List.replicate n d) ((Array.range (n*sz)).map (z[·%z.size]!)).toList:=by
 obtain⟨v,hv,hvz⟩:=hd;refine⟨by simp,?_,?_,?_⟩
 ·intro x hx;simp only[Array.toList_map,List.mem_map]at hx;obtain⟨i,hi,rfl⟩:=hx;have hi:i<n*sz:=by simpa using hi
  have m8:0<z.size:=by
   rw[hz];rcases Nat.eq_zero_or_pos sz with h0|h0
   ·simp[h0]at hi
   ·exact h0
  rw[getElem!_pos z _ (Nat.mod_lt _ m8)];exact h1 _ (by simp)
 ·intro x hx;rw[List.eq_of_mem_replicate hx,hs]
 ·intro i x hx;have hi:i<n:=by have:=(List.getElem?_eq_some_iff.1 hx).1;simpa using this
  have hxd:x=d:=by rw[List.getElem?_replicate]at hx;split at hx<;>simp_all
  subst hxd;refine⟨v,hv,fun j c hj=>?_⟩;have DH:=ug hv hs hj;have bn:i*sz+j<n*sz:=by
   have:i*sz+sz≤n*sz:=by rw[←Nat.succ_mul];exact Nat.mul_le_mul_right _ hi
   omega
  rw[hvz]at hj;have hm:(i*sz+j)%sz=j:=by rw[Nat.mul_comm,Nat.mul_add_mod];exact Nat.mod_eq_of_lt DH
  simp only[Array.toList_map,List.getElem?_map,Array.toList_range,List.getElem?_range bn,Option.map_some,hz,hm];rw[getElem!_pos z j (by omega)];rw[←hj];simp[show j<z.size by omega]
theorem run_makeSlice{P:Program}{w:World}{t e:TypeId}{i:TypeInfo}{z:Value}{n:Int}(ht:P.underlying t=some (.slice e))(hi:P.info? e=some i)(hz:i.zero=some z)
 (h0:0≤n) (hb:n*i.bytes≤140737488355328) (hn:n≤4611686018427387904):
 (Instr.makeSlice t (.int .i64 n) (.int .i64 n)).run P w=.ok (.slice (some ⟨w.heap.size,0,none⟩) n.toNat n.toNat) (w.alloc (.cells ((Array.range (n.toNat*i.size)).map (z.cells[·%z.cells.size]!)) e)):=by
 have hw:=wrap_small h0 hn;have h1:¬n<0:=by omega
 have h2:¬((i.bytes:Int)*n>281474976710656):=by rw[Int.mul_comm];omega
 have h3:¬(n.toNat*i.bytes>roomBytes):=by
  unfold roomBytes;have:((n.toNat*i.bytes:Nat):Int)=n*i.bytes:=by rw[Int.natCast_mul,Int.toNat_of_nonneg h0]
  omega
 by_cases DI:n.toNat*i.size=0
 ·have akB:n.toNat=0∨i.size=0:=Nat.mul_eq_zero.1 DI;simp[Instr.makeSlice,run_underlying ht,asInt,asIntOf,typeInfo,sizeOf,hi,hw,h1,h2,askRoom,DI,hU,show Array.range 0=#[]from rfl]
 ·have akB:¬(n.toNat=0∨i.size=0):=fun h=>DI (Nat.mul_eq_zero.2 h);simp[Instr.makeSlice,run_underlying ht,asInt,asIntOf,typeInfo,sizeOf,zeroValue,hi,hz,hw,h1,h2,askRoom,hU];exact fun h=>absurd h DI
theorem Ze(P:Program)(S:St)(o:Oper)(t:TypeId)(l c:Operand)(ho:o.op=.makeSlice t l c)(hl:(S.opd l).1=true)(hc:(S.opd c).1=true):aH P S o (makeR P S.mem (keyOf o) t (S.opd l).2 (S.opd c).2):=by
 unfold makeR;split
 ·rename_i e ga;have ht:=fG ga;split
  ·rename_i sz ib zd n n' key v cont h1 h2 h3 nt mH hg;refine aH.qm ?_;rintro ⟨rfl,h0,hb,hn,nP⟩ φ G a w hr;obtain⟨i,z,hi,rfl,rfl,hz,vi,oE,xf⟩:=JA h1 h2 h3;obtain⟨hm,hk,L,hL,aA,b7⟩:=hr.mem.get hg;simp only at hk aA;subst hk;have bU:=hr.opd l hl;have TU:=hr.opd c hc;rw[nt]at bU;rw[mH]at TU;have e1:a.eval l=.int .i64 n:=by
    generalize a.eval l=x at bU;cases bU with|d _ _ h=>cases h;rfl
   have e2:a.eval c=.int .i64 n:=by
    generalize a.eval c=x at TU;cases TU with|d _ _ h=>cases h;rfl
   have xg:=run_makeSlice (P:=P) (w:=w) ht hi hz h0 hb hn;obtain⟨φ',dq,aN,eX,en⟩:=hr.mem.fresh (e:=⟨keyOf o,v,cont⟩) hm hL aA w rfl rfl rfl rfl
    ((Array.range (n.toNat*i.size)).map (z.cells[·%z.cells.size]!)) e i.size n.toNat (.vec i.size (List.replicate n.toNat zd)) (fun _ hb=>hb.2) (fun φ' hle bY iU iV=>by
     refine tD (cs:=((Array.range (n.toNat*i.size)).map (z.cells[·%z.cells.size]!)).toList) (rest:=[]) (elem:=e) rfl rfl (NG z.cells n.toNat i.size (by rw[vi,nP]) zd nP oE _ _ (xf _ _)) (by simp) (by simp) (by simp) (fun _=>?_);refine eL.new ?_;rw[iV,List.append_nil,Array.toArray_toList])
   refine⟨.slice (some ⟨w.heap.size,0,none⟩) n.toNat n.toNat,_,φ',.inl ?_,?_,dq,aN,en⟩
   ·simp[execOp,ho,e1,e2,xg]
   ·exact .vec _ (v+1) 0 _ _ _ eX (Nat.le_refl _) (fun _=>⟨_,_,rfl,Nat.le_refl _,fun _=>⟨by simp,by simp⟩⟩) rfl
  ·trivial
 ·trivial
def copyR(P:Program)(m:Mem)(t:TypeId)(s x:AV):di:=
 match tk P t with
 | .slice e=>match fe P e with
  |some sz=>match srcRows m sz x with
   |some (c,ys)=>match s with
    | .vec k aj off len=>match Mem.get m k with
     |some ⟨_,v,.vec cJ rows⟩=>.cW (c∧v=aj∧off+len≤rows.length∧cJ=sz∧(∀d∈ys,d.size=sz))
      (.d (.int .i64 (min ys.length len:Nat))) ⟨k,aj,.vec sz (putCells rows off (ys.take len))⟩
     |_=>.no
    |_=>.no
   |none=>.no
  |none=>.no
 |_=>.no
theorem zx{w F sz}{rows ys:List D}{cs news:List Value}{off:Nat}(h:cf w F sz rows cs)(h':cf w F sz ys news)(hle:off+ys.length≤rows.length):
 cf w F sz (putCells rows off ys) (putCells cs (off*sz) news):=by
 have kX:off*sz+news.length≤cs.length:=by rw[h.1,h'.1,←Nat.add_mul];exact Nat.mul_le_mul_right _ hle
 rw[dn _ _ _ hle,dn _ _ _ kX];have:=((h.take off (by omega)).append h').append (h.drop (off+ys.length));rw[Nat.add_mul,←h'.1]at this;exact this
theorem E3{α:Type}{cs news:List α}{o n:Nat}(h:o+news.length≤n)(hn:n≤cs.length):putCells (cs.take n) o news++cs.drop n=putCells cs o news:=by
 rw[dn _ _ _ (by simp;omega),dn _ _ _ (by omega),List.take_take,Nat.min_eq_left (by omega),List.append_assoc (List.take _ _++_)];congr 1;rw[List.drop_take];have e2:cs.drop n=(cs.drop (o+news.length)).drop (n-(o+news.length)):=by rw[List.drop_drop];congr 1;omega
 rw[e2,List.take_append_drop]
theorem FW{P:Program}{w w':World}{t u ty e:TypeId}{sz:Nat}(ht:P.underlying t=some (.slice e))(h1:fe P e=some sz){ao:Option Addr}{len cap:Nat}{x:Value}{m:Nat}{news:List Value}
 (hlen:(Builtin.lenOf x).run P w=.ok m w) (j9:(Builtin.firstCells sz (min m len) x).run P w=.ok news.toArray w)
 (db:(match ao with|some a=>storeCells a news|none=>pure ()).run P w=.ok () w'):
 (Builtin.copy_ #[t,u] ty #[.slice ao len cap,x]).run P w=.ok (.int .i64 (min m len:Nat)) w':=by
 have hm:Nat.min m len=min m len:=rfl;cases ao with
 |none=>
  simp only[Sem.run_pure,Result.ok.injEq,true_and]at db;subst db;simp[Builtin.copy_,run_underlying ht,hlen,hm,run_sizeOf h1,j9,goInt]
 |some a=>
  simp only at db;simp[Builtin.copy_,run_underlying ht,hlen,hm,run_sizeOf h1,j9,db,goInt]
theorem Zf(P:Program)(S:St)(o:Oper)(s x:Operand)(t u:TypeId)(ho:o.op=.call {callee:=.builtin .copy,args:=#[s,x],argTypes:=#[t,u]})
 (hs:(S.opd s).1=true) (hx:(S.opd x).1=true):aH P S o (copyR P S.mem t (S.opd s).2 (S.opd x).2):=by
 unfold copyR;split
 ·rename_i e ga;have ht:=fG ga;split
  ·rename_i sz h1;split
   ·rename_i c ys mw;split
    ·rename_i k aj off len FU;split
     ·rename_i key v cJ rows hg;refine aH.qm ?_;rintro ⟨hc,rfl,hle,rfl,FV⟩ φ G a w hr;obtain⟨hm,hk,L,hL,aA,b7⟩:=hr.mem.get hg;simp only at hk;subst hk;have hv:=hr.opd s hs;have bI:=hr.opd x hx;rw[FU]at hv;obtain⟨news,kP⟩:=FO (P:=P) hr.mem bI mw hc FV;generalize bU:a.eval s=sv at hv;cases hv with
      |vec _ _ _ _ _ L' bO _ h _=>
       rw[hL]at bO;cases bO;obtain⟨ao,cap,rfl,fU,dz⟩:=h aA.symm;clear h;have zD:L.sz=cJ:=b7.1;have FX:min ys.length len≤ys.length:=Nat.min_le_left _ _;have j9:=kP.Qk (min ys.length len) FX w (fun _ _=>rfl);have htl:(ys.take len).length=min ys.length len:=by rw[List.length_take,Nat.min_comm]
       by_cases cm:len=0
       ·subst cm;obtain⟨φ',dq,aN,eX,en⟩:=hr.mem.cW (e':=⟨key,v,.vec cJ (putCells rows off (ys.take 0))⟩) hm hL rfl (L':=L) (Nat.le_refl _) (fun _=>rfl) aA
         (w':=w) (fun _ _ _=>rfl) (Nat.le_refl _) (fun _ ho=>.inl ho) rfl rfl rfl (fun φ' jh kX=>by
          have e:putCells rows off (ys.take 0)=rows:=by rw[dn _ _ _ (by simp;omega)];simp
          rw[e];refine b7.mono kX (fun _ _ _=>rfl) (Nat.le_refl _) (fun b hb=>?_) (fun _ _=>rfl);rintro (hG|⟨y,hy,Ly,dy,gK⟩)
          ·exact .inl hG
          ·right;rcases (Mem.mem_set hr.mem.nodup).1 hy with ⟨rfl,_⟩|⟨zy,bE⟩
           ·subst jh;simp at dy;subst dy;exact⟨_,hm,L,hL,gK⟩
           ·subst jh;simp at bE;simp[bE]at dy;exact⟨y,zy,Ly,dy,gK⟩)
        refine⟨_,w,φ',.inl ?_,.d _ _ (.int _ _),dq,aN,en⟩;have fg:news.take (min ys.length 0*cJ)=[]:=by simp
        rw[fg]at j9;have:=FW (P:=P) (ty:=o.type) (u:=u) (ao:=ao) (len:=0) (cap:=cap) ht h1 (kP.len w) j9 (w':=w) (by cases ao<;>simp[storeCells]);simp[execOp,ho,resolve,invoke,builtin,bU,this]
       ·obtain⟨rfl,mG⟩:=dz (by omega);obtain⟨arr,elem,hh,tE,rA,Qn⟩:=mF b7 (by omega);have rD:cf w (Fo G φ S.mem) cJ (ys.take len) (news.take (min ys.length len*cJ)):=by
         have:=kP.rows.take (min ys.length len) FX;have e:ys.take (min ys.length len)=ys.take len:=by
          rcases Nat.le_total ys.length len with h|h
          ·rw[Nat.min_eq_left h,List.take_of_length_le (Nat.le_refl _),List.take_of_length_le h]
          ·rw[Nat.min_eq_right h]
         rw[e]at this;exact this
        have aaL:off+(ys.take len).length≤rows.length:=by rw[htl];omega
        have iH:=zx Qn rD aaL;have wZ:=rD.1;rw[htl]at wZ;have gO:(off+min ys.length len)*cJ≤rows.length*cJ:=Nat.mul_le_mul_right _ (by omega);have sx:rows.length*cJ≤L.cap*cJ:=Nat.mul_le_mul_right _ b7.2.1;have m9:L.base+off*cJ+(news.take (min ys.length len*cJ)).length≤arr.toList.length:=by
         rw[Nat.add_mul]at gO;rw[wZ];simp only[Array.length_toList];omega
        have ⟨fz,hh0,Bm⟩:=hh;have db:=jj (P:=P) L.du (L.base+off*cJ) elem fz (news.take (min ys.length len*cJ)) 0 arr w hh0 Bm (by simpa using m9) (fun x hx=>m7 (rD.2.1 x hx));simp only[Nat.add_zero]at db;rw[←dn _ _ _ m9]at db;have FY:arr.toList.take L.base++(putCells ((arr.toList.drop L.base).take (rows.length*cJ)) (off*cJ) (news.take (min ys.length len*cJ))++(arr.toList.drop L.base).drop (rows.length*cJ))=putCells arr.toList (L.base+off*cJ) (news.take (min ys.length len*cJ)):=by
         rw[E3 (by rw[wZ,←Nat.add_mul];exact gO) (by simp only[List.length_drop,Array.length_toList];omega)];rw[dn _ _ _ (by rw[wZ];rw[Nat.add_mul]at gO;simp only[List.length_drop,Array.length_toList];omega),dn _ _ _ m9,List.drop_drop,List.take_add];simp only[List.append_assoc,Nat.add_assoc]
        obtain⟨φ',dq,aN,eX,en⟩:=hr.mem.store (e:=⟨key,v,.vec cJ rows⟩) hm hL aA (b0:=L.du) ⟨by omega,rfl⟩ (putCells arr.toList (L.base+off*cJ) (news.take (min ys.length len*cJ))).toArray v (Nat.le_refl _) (.vec cJ (putCells rows off (ys.take len))) (fun _ hb=>hb) (fun φ' kX bY iU=>by
         refine rz (pre:=arr.toList.take L.base) (cs:=putCells ((arr.toList.drop L.base).take (rows.length*cJ)) (off*cJ) (news.take (min ys.length len*cJ))) (rest:=(arr.toList.drop L.base).drop (rows.length*cJ)) (elem:=elem) zD (iH.mono iU) ?_ ?_ ?_ ?_ ?_ (fun _=>?_)
         ·simp only[List.length_take,Array.length_toList];omega
         ·intro z hz;exact rA z (by simpa using List.mem_of_mem_take hz)
         ·intro z hz;exact rA z (by simpa using List.mem_of_mem_drop (List.mem_of_mem_drop hz))
         ·rw[bN _ _ _ aaL];exact b7.2.1
         ·show _=L.cap*cJ;rw[List.length_append,bN _ _ _ (by rw[wZ,←Nat.add_mul];simp only[List.length_take,List.length_drop,Array.length_toList];omega),←List.length_append,List.take_append_drop];simp only[List.length_drop,Array.length_toList];omega
         ·rw[FY];exact hh.setRow _ (by show (putCells arr.toList _ _).length=_;rw[bN _ _ _ m9];simp))
        refine⟨_,_,φ',.inl ?_,.d _ _ (.int _ _),dq,aN,en⟩;have:=FW (P:=P) (ty:=o.type) (u:=u) (ao:=some ⟨L.du,L.base+off*L.sz,none⟩) (len:=len) (cap:=cap) ht h1 (kP.len w) j9 (by rw[zD];exact db);simp[execOp,ho,resolve,invoke,builtin,bU,this]
     ·trivial
    ·trivial
   ·trivial
  ·trivial
 ·trivial
theorem tF{P:Program}{s:TypeId}{f n b o:Nat}{w:World}(h:vd P s f=some n):(Instr.fieldAt s (.pointer (some ⟨b,o,none⟩)) f).run P w=.ok (.pointer (some ⟨b,o+n,none⟩)) w:=by
 unfold vd at h;split at h
 ·rename_i fs hu;split at h
  ·rename_i fl hf;split at h
   ·rename_i i hi;split at h
    ·cases h
    ·rename_i hz;simp at h;subst h;have hs:(sizeOf fl.type).run P w=.ok i.size w:=run_sizeOf (by simp[fe,hi]);simp[Instr.fieldAt,run_underlying hu,hf,Instr.sureAddr,fieldPlace,hs,hz,ff]
   ·cases h
  ·cases h
 ·cases h
def fieldRm(P:Program)(m:Mem)(s:TypeId)(f:Nat)(p:AV):di:=
 match vd P s f with
 |some n=>match p with
  | .ptr k aj off=>match Mem.get m k with
   |some ⟨_,v,_⟩=>.val (v=aj) (.ptr k aj (off+n))
   |none=>.no
  | .cD k aj i j=>match Mem.get m k with
   |some ⟨_,v,_⟩=>.val (v=aj) (.cD k aj i (j+n))
   |none=>.no
  | .dE x j=>.val True (.dE x (j+n))
  |_=>.no
 |none=>.no
theorem TV(P:Program)(S:St)(o:Oper)(s:TypeId)(x:Operand)(f:Nat)(ho:o.op=.fieldAddr s x f)(hx:(S.opd x).1=true):aH P S o (fieldRm P S.mem s f (S.opd x).2):=by
 unfold fieldRm;split
 ·rename_i n hn;split
  ·rename_i k aj off hp;split
   ·rename_i key v cont hg;refine aH.pure ?_;rintro rfl φ G a w hr;have hv:=hr.opd x hx;rw[hp]at hv;obtain⟨hm,hk,L,hL,aA,_⟩:=hr.mem.get hg;simp only at aA;have e:=hv.pQ hL aA;refine⟨.pointer (some ⟨L.du,off+n,none⟩),by simp[execOp,ho,e,tF hn],.ptr k v _ _ L hL (by omega) (fun _=>rfl) rfl⟩
   ·trivial
  ·rename_i k aj i j hp;split
   ·rename_i key v cont hg;refine aH.pure ?_;rintro rfl φ G a w hr;have hv:=hr.opd x hx;rw[hp]at hv;obtain⟨hm,hk,L,hL,aA,_⟩:=hr.mem.get hg;simp only at aA;have e:=hv.j6 hL aA;refine⟨.pointer (some ⟨L.du,L.base+i*L.sz+j+n,none⟩),by simp[execOp,ho,e,tF hn],.cD k v _ _ _ L hL (by omega) (fun _=>by rw[Nat.add_assoc]) rfl⟩
   ·trivial
  ·rename_i d j hp;refine aH.pure ?_;rintro _ φ G a w hr;have hv:=hr.opd x hx;rw[hp]at hv;generalize bY:a.eval x=av at hv;cases hv with
   |dE _ _ b off x' hb hF oF hc=>
    refine⟨.pointer (some ⟨b,off+(j+n),none⟩),by simp[execOp,ho,bY,tF hn,Nat.add_assoc],.dE d (j+n) b off x' hb hF oF hc⟩
  ·trivial
 ·trivial
def nilCheckR(m:Mem)(p:AV):di:=
 match p with
 | .ptr k aj off=>match Mem.get m k with
  |some ⟨_,v,_⟩=>.val (v=aj) (.ptr k aj off)
  |none=>.no
 | .cD k aj i j=>match Mem.get m k with
  |some ⟨_,v,_⟩=>.val (v=aj) (.cD k aj i j)
  |none=>.no
 | .dE x j=>.val True (.dE x j)
 |_=>.no
theorem I2(P:Program)(S:St)(o:Oper)(x:Operand)(ho:o.op=.nilCheck x)(hx:(S.opd x).1=true):aH P S o (nilCheckR S.mem (S.opd x).2):=by
 unfold nilCheckR;split
 ·rename_i k aj off hp;split
  ·rename_i key v cont hg;refine aH.pure ?_;rintro rfl φ G a w hr;have hv:=hr.opd x hx;rw[hp]at hv;obtain⟨hm,hk,L,hL,aA,_⟩:=hr.mem.get hg;simp only at aA;have e:=hv.pQ hL aA;exact⟨_,by simp only[execOp,ho,e];rfl,.ptr k v _ _ L hL (by omega) (fun _=>rfl) rfl⟩
  ·trivial
 ·rename_i k aj i j hp;split
  ·rename_i key v cont hg;refine aH.pure ?_;rintro rfl φ G a w hr;have hv:=hr.opd x hx;rw[hp]at hv;obtain⟨hm,hk,L,hL,aA,_⟩:=hr.mem.get hg;simp only at aA;have e:=hv.j6 hL aA;exact⟨_,by simp only[execOp,ho,e];rfl,.cD k v _ _ _ L hL (by omega) (fun _=>rfl) rfl⟩
  ·trivial
 ·rename_i d j hp;refine aH.pure ?_;rintro _ φ G a w hr;have hv:=hr.opd x hx;rw[hp]at hv;generalize bY:a.eval x=av at hv;cases hv with
  |dE _ _ b off x' hb hF oF hc=>
   exact⟨.pointer (some ⟨b,off+j,none⟩),by simp only[execOp,ho,bY];rfl,.dE d j b off x' hb hF oF hc⟩
 ·trivial
theorem jo{φ w F k n v}(h:aB φ w F (.d (.int k n)) v):v=.int k n:=by cases h with|d _ _ h=>cases h;rfl
theorem rh{φ w F b v}(h:aB φ w F (.d (.bool b)) v):v=.bool b:=by cases h with|d _ _ h=>cases h;rfl
theorem rE{φ w F s v}(h:aB φ w F (.d (.str s)) v):∃b:ByteArray,v=.string b∧b.data.toList=s:=by cases h with|d _ _ h=>cases h with|str b _ h=>exact⟨b,rfl,h⟩
theorem rF{P:Program}{t:TypeId}{n e}(h:tk P t=.arr n e):P.underlying t=some (.array n e):=by
 unfold tk at h;split at h<;>simp_all
theorem mI{P:Program}{t:TypeId}(h:tk P t=.str):P.underlying t=some .string:=by
 unfold tk at h;split at h<;>simp_all
theorem C0{P:Program}{t:TypeId}(h:tk P t=.bool):P.underlying t=some .bool:=by
 unfold tk at h;split at h<;>simp_all
theorem uj{P:Program}{t:TypeId}{k}(h:tk P t=.int k):P.underlying t=some (.int k):=by
 unfold tk at h;split at h<;>simp_all
def indexR(P:Program)(m:Mem)(t:TypeId)(p i:AV):di:=
 match i with
 | .d (.int _ n)=>match tk P t with
  | .slice e=>match fe P e with
   |some sz=>match p with
    | .d (.list xs)=>.val (0≤n∧n.toNat<xs.length∧(D.at xs n.toNat).size=sz) (.dE (D.at xs n.toNat) 0)
    | .vec k aj off len=>match Mem.get m k with
     |some ⟨_,v,.vec cJ _⟩=>.val (v=aj∧0≤n∧n.toNat<len∧cJ=sz) (.cD k aj (off+n.toNat) 0)
     |some ⟨_,v,.vv _ _⟩=>.val (v=aj∧0≤n∧n.toNat<len∧sz=1) (.cD k aj (off+n.toNat) 0)
     |_=>.no
    |_=>.no
   |none=>.no
  | .arr len e=>match fe P e with
   |some sz=>match p with
    | .ptr k aj off=>match Mem.get m k with
     |some ⟨_,v,_⟩=>.val (v=aj∧0≤n∧n.toNat<len) (.ptr k aj (off+n.toNat*sz))
     |none=>.no
    | .cD k aj i j=>match Mem.get m k with
     |some ⟨_,v,.vec cJ _⟩=>if cJ=1∧sz=1∧j=0 then .val (v=aj∧0≤n∧n.toNat<len) (.cD k aj (i+n.toNat) 0)else .val (v=aj∧0≤n∧n.toNat<len) (.cD k aj i (j+n.toNat*sz))
     |some ⟨_,v,_⟩=>.val (v=aj∧0≤n∧n.toNat<len) (.cD k aj i (j+n.toNat*sz))
     |none=>.no
    | .dE x j=>.val (0≤n∧n.toNat<len) (.dE x (j+n.toNat*sz))
    |_=>.no
   |none=>.no
  |_=>.no
 |_=>.no
theorem oS{P:Program}{t e:TypeId}{sz b o len cap:Nat}{k:IntKind}{n:Int}{w:World}(ht:P.underlying t=some (.slice e))(hs:fe P e=some sz)(h0:0≤n)(hl:n.toNat<len):
 (Instr.indexAt t (.slice (some ⟨b,o,none⟩) len cap) (.int k n)).run P w=.ok (.pointer (some ⟨b,o+n.toNat*sz,none⟩)) w:=by
 have hn:n<(len:Int):=by omega
 simp[Instr.indexAt,asIntOf,run_underlying ht,run_sizeOf hs,h0,hn,ff]
theorem lE{P:Program}{t e:TypeId}{sz b o len:Nat}{k:IntKind}{n:Int}{w:World}(ht:P.underlying t=some (.array len e))(hs:fe P e=some sz)(h0:0≤n)(hl:n.toNat<len):
 (Instr.indexAt t (.pointer (some ⟨b,o,none⟩)) (.int k n)).run P w=.ok (.pointer (some ⟨b,o+n.toNat*sz,none⟩)) w:=by
 have hn:n<(len:Int):=by omega
 simp[Instr.indexAt,Instr.sureAddr,asIntOf,run_underlying ht,run_sizeOf hs,h0,hn,ff]
theorem Zg{w F xs b off cap len}(h:aK w F (.list xs) (.slice (some ⟨b,off,none⟩) len cap)){i sz:Nat}(hi:i<xs.length)(hs:(D.at xs i).size=sz):
 len=xs.length∧b<w.heap.size∧¬F b∧∃v,aK w F (D.at xs i) v∧∀(j:Nat) c,v.cells[j]?=some c→w.cell? ⟨b,off+i*sz+j,none⟩=some c:=by
 generalize hx:D.list xs=x at h;generalize hv:Value.slice (some ⟨b,off,none⟩) len cap=v at h;cases h with
 |nil a c=>simp at hx;subst hx;simp at hi
 |list ys b' avS xd cJ vs dg hb hF bQ Qj hc=>
  simp at hx hv;obtain⟨⟨rfl,rfl⟩,rfl,rfl⟩:=hv;subst hx;have:cJ=sz:=by rw[←hs,bQ _ (List.mem_of_getElem? (ji hi))]
  subst this;exact⟨rfl,hb,hF,vs i,Qj i _ (ji hi),fun j c hj=>hc i j c hi hj⟩
 |_=>simp at hx
theorem Qp{w F xs v}(h:aK w F (.list xs) v)(bE:xs≠[]):∃b off cap,v=.slice (some ⟨b,off,none⟩) xs.length cap:=by
 cases h with
 |nil a c=>exact absurd rfl bE
 |list b off cap sz vs=>exact⟨_,_,_,rfl⟩
theorem TW(P:Program)(S:St)(o:Oper)(t:TypeId)(x i:Operand)(ho:o.op=.indexAddr t x i)(hx:(S.opd x).1=true)(hi:(S.opd i).1=true):aH P S o (indexR P S.mem t (S.opd x).2 (S.opd i).2):=by
 unfold indexR;split
 ·rename_i kk n Qq;have zF:∀{φ G a w},Rel φ G S a w→a.eval i=.int kk n:=fun hr=>by
   have:=hr.opd i hi;rw[Qq]at this;exact jo this
  split
  ·rename_i e ga;have ht:=fG ga;split
   ·rename_i sz hs;split
    ·rename_i xs hp;refine aH.pure ?_;rintro ⟨h0,hl,bQ⟩ φ G a w hr;have hv:=hr.opd x hx;rw[hp]at hv;generalize bY:a.eval x=av at hv;cases hv with
     |d _ _ h=>
      obtain⟨b,off,cap,rfl⟩:=Qp h (by intro hh;subst hh;simp at hl);obtain⟨_,hb,hF,v,hv,hc⟩:=Zg h hl bQ;refine⟨_,by simp only[execOp,ho,bY,zF hr,Sem.run_bind,oS ht hs h0 hl];rfl,?_⟩;exact .dE (D.at xs n.toNat) 0 b (off+n.toNat*sz) v hb hF hv hc
    ·rename_i k aj off len hp;split
     ·rename_i key v cJ rows hg;refine aH.pure ?_;rintro ⟨rfl,h0,hl,rfl⟩ φ G a w hr;have hv:=hr.opd x hx;rw[hp]at hv;obtain⟨hm,hk,L,hL,aA,b7⟩:=hr.mem.get hg;simp only at aA;generalize bY:a.eval x=av at hv;cases hv with
      |vec _ _ _ _ _ L' bO _ h _=>
       rw[hL]at bO;cases bO;obtain⟨ao,cap,rfl,fU,dz⟩:=h aA.symm;clear h;obtain⟨rfl,mG⟩:=dz (by omega);refine⟨_,by simp only[execOp,ho,bY,zF hr,Sem.run_bind,oS ht hs h0 hl];rfl,?_⟩;exact .cD k v _ 0 _ L hL (by omega) (fun _=>by rw[b7.1,Nat.add_mul,Nat.add_zero,Nat.add_assoc]) rfl
     ·rename_i key v rows y hg;refine aH.pure ?_;rintro ⟨rfl,h0,hl,rfl⟩ φ G a w hr;have hv:=hr.opd x hx;rw[hp]at hv;obtain⟨hm,hk,L,hL,aA,b7⟩:=hr.mem.get hg;simp only at aA;generalize bY:a.eval x=av at hv;cases hv with
      |vec _ _ _ _ _ L' bO _ h _=>
       rw[hL]at bO;cases bO;obtain⟨ao,cap,rfl,fU,dz⟩:=h aA.symm;clear h;obtain⟨rfl,mG⟩:=dz (by omega);refine⟨_,by simp only[execOp,ho,bY,zF hr,Sem.run_bind,oS ht hs h0 hl];rfl,?_⟩;exact .cD k v _ 0 _ L hL (by omega) (fun _=>by rw[b7.1.1,Nat.add_mul,Nat.add_zero,Nat.add_assoc]) rfl
     ·trivial
    ·trivial
   ·trivial
  ·rename_i len e ga;have ht:=rF ga;split
   ·rename_i sz hs;split
    ·rename_i k aj off hp;split
     ·rename_i key v cont hg;refine aH.pure ?_;rintro ⟨rfl,h0,hl⟩ φ G a w hr;have hv:=hr.opd x hx;rw[hp]at hv;obtain⟨hm,hk,L,hL,aA,_⟩:=hr.mem.get hg;simp only at aA;have e:=hv.pQ hL aA;refine⟨_,by simp only[execOp,ho,e,zF hr,Sem.run_bind,lE ht hs h0 hl];rfl,.ptr k v _ _ L hL (by omega) (fun _=>rfl) rfl⟩
     ·trivial
    ·rename_i k aj i' j hp;split
     ·rename_i key v cJ rows hg;split
      ·rename_i h3;obtain⟨rfl,rfl,rfl⟩:=h3;refine aH.pure ?_;rintro ⟨rfl,h0,hl⟩ φ G a w hr;have hv:=hr.opd x hx;rw[hp]at hv;obtain⟨hm,hk,L,hL,aA,b7⟩:=hr.mem.get hg;simp only at aA;have e:=hv.j6 hL aA;have h1:L.sz=1:=b7.1;refine⟨_,by simp only[execOp,ho,e,zF hr,Sem.run_bind,lE ht hs h0 hl];rfl,.cD k v _ _ _ L hL (by omega) (fun _=>by rw[h1];simp[Nat.add_assoc]) rfl⟩
      ·refine aH.pure ?_;rintro ⟨rfl,h0,hl⟩ φ G a w hr;have hv:=hr.opd x hx;rw[hp]at hv;obtain⟨hm,hk,L,hL,aA,_⟩:=hr.mem.get hg;simp only at aA;have e:=hv.j6 hL aA;refine⟨_,by simp only[execOp,ho,e,zF hr,Sem.run_bind,lE ht hs h0 hl];rfl,.cD k v _ _ _ L hL (by omega) (fun _=>by rw[Nat.add_assoc]) rfl⟩
     ·rename_i key v cont _ hg;refine aH.pure ?_;rintro ⟨rfl,h0,hl⟩ φ G a w hr;have hv:=hr.opd x hx;rw[hp]at hv;obtain⟨hm,hk,L,hL,aA,_⟩:=hr.mem.get hg;simp only at aA;have e:=hv.j6 hL aA;refine⟨_,by simp only[execOp,ho,e,zF hr,Sem.run_bind,lE ht hs h0 hl];rfl,.cD k v _ _ _ L hL (by omega) (fun _=>by rw[Nat.add_assoc]) rfl⟩
     ·trivial
    ·rename_i d j hp;refine aH.pure ?_;rintro ⟨h0,hl⟩ φ G a w hr;have hv:=hr.opd x hx;rw[hp]at hv;generalize bY:a.eval x=av at hv;cases hv with
     |dE _ _ b off x' hb hF oF hc=>
      refine⟨.pointer (some ⟨b,off+(j+n.toNat*sz),none⟩),by simp[execOp,ho,bY,zF hr,lE ht hs h0 hl,Nat.add_assoc],.dE d _ b off x' hb hF oF hc⟩
    ·trivial
   ·trivial
  ·trivial
 ·trivial
def intBin(op:BinOp)(k:IntKind)(a b:Int):Option (Bool×D):=
 match op with
 | .add=>some (true,.int k (k.wrap (a+b)))
 | .sub=>some (true,.int k (k.wrap (a-b)))
 | .mul=>some (true,.int k (k.wrap (a*b)))
 | .quo=>some (b≠0,.int k (k.wrap (a.tdiv b)))
 | .rem=>some (b≠0,.int k (a.tmod b))
 | .and=>some (true,.int k (k.wrap (BitVec.ofInt k.bits a &&& BitVec.ofInt k.bits b).toNat))
 | .or=>some (true,.int k (k.wrap (BitVec.ofInt k.bits a ||| BitVec.ofInt k.bits b).toNat))
 | .xor=>some (true,.int k (k.wrap (BitVec.ofInt k.bits a ^^^ BitVec.ofInt k.bits b).toNat))
 | .andNot=>some (true,.int k (k.wrap (BitVec.ofInt k.bits a &&& ~~~BitVec.ofInt k.bits b).toNat))
 | .eql=>some (true,.bool (a == b))
 | .neq=>some (true,.bool (a != b))
 | .lss=>some (true,.bool (decide (a<b)))
 | .leq=>some (true,.bool (decide (a≤b)))
 | .gtr=>some (true,.bool (decide (b<a)))
 | .geq=>some (true,.bool (decide (b≤a)))
 |_=>none
def Ag(op:BinOp)(k:IntKind)(a b:Int):Option (Bool×D):=
 match op with
 | .shl=>some (0≤b,.int k (k.wrap (a*2^(min b.toNat k.bits))))
 | .shr=>some (0≤b,.int k (a.fdiv (2^(min b.toNat k.bits))))
 |_=>none
def strBin(op:BinOp)(s t:List UInt8):Option (Bool×D):=
 match op with
 | .add=>some (s.length+t.length≤4611686018427387904,.str (s++t))
 | .eql=>some (true,.bool (s == t))
 | .neq=>some (true,.bool (!(s == t)))
 | .lss=>some (true,.bool (Op.bytesLess s t))
 | .leq=>some (true,.bool (Op.bytesLess s t||s == t))
 | .gtr=>some (true,.bool (!(Op.bytesLess s t||s == t)))
 | .geq=>some (true,.bool (!Op.bytesLess s t))
 |_=>none
def eqFlat:TK→D→D→Option Bool
 | .int _,.int k a,.int k' b=>if k=k' then some (a == b)else none
 | .bool,.bool a,.bool b=>some (a == b)
 | .str,.str a,.str b=>some (a == b)
 |_,_,_=>none
def eqFlats:List TK→List D→List D→Option Bool
 |[],[],[]=>some true
 |k::ks,x::xs,y::ys=>match eqFlat k x y,eqFlats ks xs ys with
  |some a,some b=>some (a&&b)
  |_,_=>none
 |_,_,_=>none
def xj(rec:TypeId→Option (List TK)):List Field→Nat→Option (List TK)
 |[],_=>some []
 |f::fs,o=>if f.name≠ "_" ∧f.offset=o then (match rec f.type with
  |some ks=>match xj rec fs (o+ks.length)with
   |some r=>some (ks++r)
   |none=>none
  |none=>none)else none
def Bq(P:Program):Nat→TypeId→Option (List TK)
 |0,_=>none
 |n+1,t=>match tk P t with
  | .int k=>some [.int k]
  | .bool=>some [.bool]
  | .str=>some [.str]
  | .struct=>match P.underlying t with
   |some (.struct fs)=>if P.stoodInHeld t=false then (match xj (Bq P n) fs.toList 0 with
    |some ks=>if fe P t=some ks.length then some ks else none
    |none=>none)else none
   |_=>none
  |_=>none
def cj(P:Program)(t:TypeId):Option (List TK):=
 match P.underlying t with
 |some (.struct _)=>if P.eqGuardType P.depth t=false then Bq P 8 t else none
 |_=>none
def binR(P:Program)(op:BinOp)(t:TypeId)(x y:AV):di:=
 match x,y with
 | .d (.int k a),.d (.int k' b)=>match op with
  | .shl=>.val (0≤b) (.d (.int k (k.wrap (a*2^(min b.toNat k.bits)))))
  | .shr=>.val (0≤b) (.d (.int k (a.fdiv (2^(min b.toNat k.bits)))))
  |op=>match intBin op k a b with
   |some (c,d)=>.val (k=k'∧c) (.d d)
   |none=>.no
 | .d (.str a),.d (.str b)=>match strBin op a b with
  |some (c,d)=>.val c (.d d)
  |none=>.no
 | .d (.bool a),.d (.bool b)=>match op with
  | .eql=>.val (tk P t=.bool) (.d (.bool (a == b)))
  | .neq=>.val (tk P t=.bool) (.d (.bool (a != b)))
  |_=>.no
 | .d (.agg a),.d (.agg b)=>match cj P t with
  |some ks=>match eqFlats ks a b with
   |some r=>match op with
    | .eql=>.val True (.d (.bool r))
    | .neq=>.val True (.d (.bool (!r)))
    |_=>.no
   |none=>.no
  |none=>.no
 |_,_=>.no
theorem FZ(P:Program)(w:World)(op:BinOp)(t:TypeId)(x y:Operand)(a b:Value)(h:(∀c,a≠.agg c)∧a≠.nilIface):(eqGuard op t x y a b).run P w=.ok () w:=by
 unfold eqGuard;cases a<;>first|exact absurd rfl (h.1 _)|exact absurd rfl h.2|(cases op<;>simp)
theorem NH(P:Program)(w:World)(op:BinOp)(t:TypeId)(k:IntKind)(a b:Int)(c d)(h:intBin op k a b=some (c,d))(hc:c=true):∃v,(binOp op t (.int k a) (.int k b)).run P w=.ok v w∧∀F,aK w F d v:=by
 cases op<;>simp only[intBin,Option.some.injEq,Prod.mk.injEq,reduceCtorEq]at h<;>(try exact h.elim)<;>obtain⟨rfl,rfl⟩:=h<;>(try simp only[decide_eq_true_eq]at hc)<;>
  refine⟨_,by simp only[binOp,Op.intArith,Op.intDiv,Op.intBits,Op.intCmp,ne_eq,not_true_eq_false,if_false,hc,Sem.run_pure,gt_iff_lt,ge_iff_le];rfl,fun F=>by first|exact .int _ _|exact .bool _⟩
theorem xk(P:Program)(w:World)(op:BinOp)(t:TypeId)(k k':IntKind)(a b:Int)(c d)(h:Ag op k a b=some (c,d))(hc:c=true):∃v,(binOp op t (.int k a) (.int k' b)).run P w=.ok v w∧∀F,aK w F d v:=by
 cases op<;>simp only[Ag,Option.some.injEq,Prod.mk.injEq,reduceCtorEq]at h<;>(try exact h.elim)<;>obtain⟨rfl,rfl⟩:=h<;>(try simp only[decide_eq_true_eq]at hc)<;>
  refine⟨_,by simp[binOp,Op.shift,show ¬b<0 by omega];rfl,fun F=>by first|exact .int _ _|exact .bool _⟩
theorem NI(P:Program)(w:World)(op:BinOp)(t:TypeId)(a b:ByteArray)(c d)(h:strBin op a.data.toList b.data.toList=some (c,d))(hc:c=true):∃v,(binOp op t (.string a) (.string b)).run P w=.ok v w∧∀F,aK w F d v:=by
 have ha:a.size=a.data.toList.length:=by rw[Array.length_toList];rfl
 have hb:b.size=b.data.toList.length:=by rw[Array.length_toList];rfl
 cases op<;>simp only[strBin,Option.some.injEq,Prod.mk.injEq,reduceCtorEq]at h<;>(try exact h.elim)<;>obtain⟨rfl,rfl⟩:=h
 case add=>
  simp only[decide_eq_true_eq]at hc;have hl:¬(9223372036854775807<((a.size:Int)+(b.size:Int))):=by omega
  refine⟨.string (a++b),?_,fun F=>.str _ _ (by simp)⟩;have vj:IntKind.i64.max=9223372036854775807:=by decide
  have:¬(((a.size+b.size:Nat):Int)>IntKind.i64.max):=by rw[vj];push_cast;omega
  simp only[binOp,Op.stringOp,this,if_false,Sem.run_pure]
 all_goals
  refine⟨_,by simp only[binOp,Op.stringOp,ByteArray.toList_eq,Sem.run_pure],fun F=>.bool _⟩
theorem NJ{P:Program}{w:World}{F:Nat→Prop}{x y:D}{a b:Value}{r:Bool}{t:TypeId}(d:Nat)(h:eqFlat (tk P t) x y=some r)(hx:aK w F x a)(hy:aK w F y b):
 (Op.equalIn (d+1) t a b).run P w=.ok r w:=by
 unfold eqFlat at h;split at h
 ·rename_i k' k n k2 m nr;split at h
  ·rename_i he;subst he;simp at h;subst h;cases hx;cases hy;exact run_equalIn_int w d t k _ n m (uj nr)
  ·cases h
 ·rename_i n m nr;simp at h;subst h;cases hx;cases hy;exact run_equalIn_bool' w d t n m (C0 nr)
 ·rename_i n m nr;simp at h;subst h;cases hx with|str n _ hn=>cases hy with|str m _ hm=>
  subst hn;subst hm;rw[run_equalIn_string w d t n m (mI nr),ByteArray.toList_eq,ByteArray.toList_eq]
 ·cases h
theorem rG{P:Program}{w:World}{t:TypeId}{cs:Array Value}{off:Nat}{v:Value}(h:(tk P t).agg=false)(ho:tk P t≠.other)(hv:cs[off]?=some v):(part t cs off).run P w=.ok v w:=by
 simp[part,pP ho,h,hv]
theorem py:∀{ks:List TK}{xs ys:List D}{r:Bool},eqFlats ks xs ys=some r→xs.length=ks.length∧ys.length=ks.length
 |[],[],[],_,_=>⟨rfl,rfl⟩
 |k::ks,x::xs,y::ys,r,h=>by
  simp only[eqFlats]at h;split at h
  ·rename_i h2;obtain⟨a,b⟩:=py h2;simp[a,b]
  ·cases h
 |[],[],_::_,_,h=>by simp[eqFlats]at h
 |[],_::_,_,_,h=>by simp[eqFlats]at h
 |_::_,[],_,_,h=>by simp[eqFlats]at h
 |_::_,_::_,[],_,h=>by simp[eqFlats]at h
theorem zG:∀{a b:List TK}{xs ys:List D}{r:Bool},eqFlats (a++b) xs ys=some r→∃p q,eqFlats a (xs.take a.length) (ys.take a.length)=some p∧eqFlats b (xs.drop a.length) (ys.drop a.length)=some q∧r=(p&&q)
 |[],b,xs,ys,r,h=>⟨true,r,by simp[eqFlats],by simpa using h,by simp⟩
 |k::a,b,x::xs,y::ys,r,h=>by
  simp only[List.cons_append,eqFlats]at h;split at h
  ·rename_i u v h1 h2;obtain⟨p,q,e1,e2,e3⟩:=zG h2;cases h;refine⟨u&&p,q,?_,by simpa using e2,by rw[e3,Bool.and_assoc]⟩;simp only[List.length_cons,List.take_succ_cons,eqFlats,h1,e1]
  ·cases h
 |_::_,_,[],_,_,h=>by simp[eqFlats]at h
 |_::_,_,_::_,[],_,h=>by simp[eqFlats]at h
theorem vk{P:Program}{w:World}{F:Nat→Prop}{rec:TypeId→Option (List TK)}{dd:Nat}{xa ya:Array Value}
 (ih:∀(t:TypeId)(ks:List TK),rec t=some ks→∀(o:Nat)(xs ys:List D)(r:Bool),eqFlats ks xs ys=some r→(∀(i:Nat) c v,xs[i]?=some c→xa[o+i]?=some v→aK w F c v)→(∀(i:Nat) c v,ys[i]?=some c→ya[o+i]?=some v→aK w F c v)→
  o+xs.length≤xa.size→o+ys.length≤ya.size→∃a b,(part t xa o).run P w=.ok a w∧(part t ya o).run P w=.ok b w∧(Op.equalIn dd t a b).run P w=.ok r w):
 ∀(fs:List Field)(o:Nat)(ks:List TK),xj rec fs o=some ks→∀(xs ys:List D)(r:Bool),eqFlats ks xs ys=some r→(∀(i:Nat) c v,xs[i]?=some c→xa[o+i]?=some v→aK w F c v)→(∀(i:Nat) c v,ys[i]?=some c→ya[o+i]?=some v→aK w F c v)→
  o+xs.length≤xa.size→o+ys.length≤ya.size→(Op.eqFields dd xa ya fs).run P w=.ok r w
 |[],o,ks,hk,xs,ys,r,h,_,_,_,_=>by
  simp only[xj,Option.some.injEq]at hk;subst hk;cases xs<;>cases ys<;>simp[eqFlats]at h;subst h;simp[Op.eqFields]
 |f::fs,o,ks,hk,xs,ys,r,h,hx,hy,DK,hly=>by
  simp only[xj]at hk;split at hk
  ·rename_i hf;obtain⟨bE,F0⟩:=hf;split at hk
   ·rename_i k1 h1;split at hk
    ·rename_i k2 h2;cases hk;obtain⟨p,q,e1,e2,rfl⟩:=zG h;obtain⟨l1,l2⟩:=py h;simp only[List.length_append]at l1 l2;obtain⟨a,b,g1,g2,g3⟩:=ih f.type k1 h1 o _ _ p e1 (fun i c v hc hv=>hx i c v (by rw[List.getElem?_take]at hc;split at hc;exact hc;cases hc) hv) (fun i c v hc hv=>hy i c v (by rw[List.getElem?_take]at hc;split at hc;exact hc;cases hc) hv) (by simp;omega) (by simp;omega);have g4:=vk ih fs (o+k1.length) k2 h2 _ _ q e2 (fun i c v hc hv=>hx (k1.length+i) c v (by rw[List.getElem?_drop]at hc;exact hc) (by rw[←Nat.add_assoc];exact hv)) (fun i c v hc hv=>hy (k1.length+i) c v (by rw[List.getElem?_drop]at hc;exact hc) (by rw[←Nat.add_assoc];exact hv)) (by simp;omega) (by simp;omega);rw[←F0]at g1 g2;simp only[Op.eqFields,bE,ne_eq,not_false_eq_true,if_true,Sem.run_bind,g1,g2,g3,Result.andThen_ok,Sem.run_ite,Sem.run_pure,g4];cases p<;>simp
    ·cases hk
   ·cases hk
  ·cases hk
theorem F2{P:Program}{w:World}{F:Nat→Prop}(d:Nat):∀(n:Nat)(xa ya:Array Value)(t:TypeId)(ks:List TK),Bq P n t=some ks→∀(o:Nat)(xs ys:List D)(r:Bool),eqFlats ks xs ys=some r→
 (∀(i:Nat) c v,xs[i]?=some c→xa[o+i]?=some v→aK w F c v)→(∀(i:Nat) c v,ys[i]?=some c→ya[o+i]?=some v→aK w F c v)→o+xs.length≤xa.size→o+ys.length≤ya.size→
 ∃a b,(part t xa o).run P w=.ok a w∧(part t ya o).run P w=.ok b w∧(Op.equalIn (d+n) t a b).run P w=.ok r w
 |0,_,_,_,_,hk,_,_,_,_,_,_,_,_,_=>by cases hk
 |n+1,xa,ya,t,ks,hk,o,xs,ys,r,h,hx,hy,DK,hly=>by
  have one:∀k:TK,tk P t=k→k.agg=false→k≠.other→ks=[k]→∃a b,(part t xa o).run P w=.ok a w∧(part t ya o).run P w=.ok b w∧(Op.equalIn (d+(n+1)) t a b).run P w=.ok r w:=by
   rintro k gn cn hk3 rfl;obtain⟨l1,l2⟩:=py h;match xs,ys,l1,l2 with
   |[x],[y],_,_=>
    simp only[eqFlats]at h;split at h
    ·rename_i u v h1 h2;cases h;have hv:v=true:=by simpa using h2.symm
     subst hv;simp only[Bool.and_true];simp only[List.length_cons,List.length_nil]at DK hly;have e1:=rG (P:=P) (w:=w) (t:=t) (by rw[gn];exact cn) (by rw[gn];exact hk3) (show xa[o]?=some xa[o] by simp[show o<xa.size by omega]);have e2:=rG (P:=P) (w:=w) (t:=t) (by rw[gn];exact cn) (by rw[gn];exact hk3) (show ya[o]?=some ya[o] by simp[show o<ya.size by omega]);exact⟨_,_,e1,e2,NJ (d+n) (by rw[gn];exact h1) (hx 0 x _ rfl (by simp[show o<xa.size by omega])) (hy 0 y _ rfl (by simp[show o<ya.size by omega]))⟩
    ·cases h
  unfold Bq at hk;split at hk
  ·rename_i k gn;exact one _ gn rfl (by simp) (by cases hk;rfl)
  ·rename_i gn;exact one _ gn rfl (by simp) (by cases hk;rfl)
  ·rename_i gn;exact one _ gn rfl (by simp) (by cases hk;rfl)
  ·rename_i gn;split at hk
   ·rename_i fs hu;split at hk
    ·rename_i hsi;split at hk
     ·rename_i Qr pV;split at hk
      ·rename_i bQ;cases hk;obtain⟨l1,l2⟩:=py h;have hp:∀cs:Array Value,(part t cs o).run P w=.ok (.agg (cs.extract o (o+ks.length))) w:=by
        intro cs;have ha:=pP (P:=P) (t:=t) (w:=w) (by rw[gn];simp);simp[part,ha,gn,TK.agg,run_sizeOf bQ]
       refine⟨_,_,hp xa,hp ya,?_⟩;have hf:P.fieldsOf t=fs:=by simp[Program.fieldsOf,hu]
       show (Op.equalIn (d+n+1) t _ _).run P w=_;rw[run_equalIn_struct w (d+n) t _ _ (by rw[hf];exact hu) hsi,hf];have hex:∀(cs:Array Value)(i:Nat)(v:Value),i<ks.length→(cs.extract o (o+ks.length))[0+i]?=some v→cs[o+i]?=some v:=by
        intro cs i v hi hv;rw[Nat.zero_add,Array.getElem?_extract]at hv;split at hv
        ·exact hv
        ·cases hv
       refine vk (F:=F) (fun t' Qr aN o' Br FP r' h' nu nO ky Qs=>F2 d n _ _ t' Qr aN o' Br FP r' h' nu nO ky Qs) fs.toList 0 ks pV xs ys r h (fun i c v hc hv=>?_) (fun i c v hc hv=>?_) ?_ ?_
       ·have hi:=(List.getElem?_eq_some_iff.1 hc).1;exact hx i c v hc (hex xa i v (by omega) hv)
       ·have hi:=(List.getElem?_eq_some_iff.1 hc).1;exact hy i c v hc (hex ya i v (by omega) hv)
       ·simp;omega
       ·simp;omega
      ·cases hk
     ·cases hk
    ·cases hk
   ·cases hk
  ·cases hk
theorem JC(P:Program)(S:St)(o:Oper)(op:BinOp)(t t':TypeId)(x y:Operand)(ho:o.op=.binOp op t x y t')(hx:(S.opd x).1=true)(hy:(S.opd y).1=true):aH P S o (binR P op t (S.opd x).2 (S.opd y).2):=by
 have bL:∀(a:Act)(w:World)(v:Value),(∀c,a.eval x≠.agg c)→a.eval x≠.nilIface→(binOp op t (a.eval x) (a.eval y)).run P w=.ok v w→(execOp a.eval o).run P w=.ok (.value v) w:=by
  intro a w v h1 h2 h;simp[execOp,ho,FZ P w op t x y _ (a.eval y) ⟨h1,h2⟩,h]
 unfold binR;split
 ·rename_i k n k' m bI F3;have bU:∀{φ G a w},Rel φ G S a w→a.eval x=.int k n∧a.eval y=.int k' m:=fun hr=>by
   have h1:=hr.opd x hx;have h2:=hr.opd y hy;rw[bI]at h1;rw[F3]at h2;exact⟨jo h1,jo h2⟩
  split
  ·refine aH.pure fun hc φ G a w hr=>?_;obtain⟨v,h1,h2⟩:=xk P w .shl t k k' n m _ _ rfl (decide_eq_true hc);exact⟨v,bL a w v (by simp[(bU hr).1]) (by simp[(bU hr).1]) (by rw[(bU hr).1,(bU hr).2];exact h1),.d _ _ (h2 _)⟩
  ·refine aH.pure fun hc φ G a w hr=>?_;obtain⟨v,h1,h2⟩:=xk P w .shr t k k' n m _ _ rfl (decide_eq_true hc);exact⟨v,bL a w v (by simp[(bU hr).1]) (by simp[(bU hr).1]) (by rw[(bU hr).1,(bU hr).2];exact h1),.d _ _ (h2 _)⟩
  ·split
   ·rename_i c d h;refine aH.pure ?_;rintro ⟨rfl,hc⟩ φ G a w hr;obtain⟨v,h1,h2⟩:=NH P w op t k n m c d h hc;exact⟨v,bL a w v (by simp[(bU hr).1]) (by simp[(bU hr).1]) (by rw[(bU hr).1,(bU hr).2];exact h1),.d _ _ (h2 _)⟩
   ·trivial
 ·rename_i s u bI F3;split
  ·rename_i c d h;refine aH.px fun hc φ G a w hr=>?_;have h1:=hr.opd x hx;have h2:=hr.opd y hy;rw[bI]at h1;rw[F3]at h2;obtain⟨b1,e1,rfl⟩:=rE h1;obtain⟨b2,e2,rfl⟩:=rE h2;obtain⟨v,h3,h4⟩:=NI P w op t b1 b2 c d h hc;exact⟨v,bL a w v (by simp[e1]) (by simp[e1]) (by rw[e1,e2];exact h3),.d _ _ (h4 _)⟩
  ·trivial
 ·rename_i n m bI F3;have bU:∀{φ G a w},Rel φ G S a w→a.eval x=.bool n∧a.eval y=.bool m:=fun hr=>by
   have h1:=hr.opd x hx;have h2:=hr.opd y hy;rw[bI]at h1;rw[F3]at h2;exact⟨rh h1,rh h2⟩
  split
  ·refine aH.pure fun hc φ G a w hr=>⟨.bool (n == m),bL a w _ (by simp[(bU hr).1]) (by simp[(bU hr).1]) ?_,.d _ _ (.bool _)⟩;rw[(bU hr).1,(bU hr).2];simp[binOp,Op.equal,Op.maxDepth,run_equalIn_bool' w 9999 t n m (C0 hc)]
  ·refine aH.pure fun hc φ G a w hr=>⟨.bool (n != m),bL a w _ (by simp[(bU hr).1]) (by simp[(bU hr).1]) ?_,.d _ _ (.bool _)⟩;rw[(bU hr).1,(bU hr).2];simp[binOp,Op.equal,Op.maxDepth,run_equalIn_bool' w 9999 t n m (C0 hc),bne]
  ·trivial
 ·rename_i xs ys bI F3;split
  ·rename_i ks gT;split
   ·rename_i r Ql;have key:∀{φ G a w},Rel φ G S a w→∃xa ya,a.eval x=.agg xa∧a.eval y=.agg ya∧(Op.equal t (.agg xa) (.agg ya)).run P w=.ok r w∧(eqGuard op t x y (.agg xa) (.agg ya)).run P w=.ok () w:=by
     intro φ G a w hr;have h1:=hr.opd x hx;have h2:=hr.opd y hy;rw[bI]at h1;rw[F3]at h2;generalize a.eval x=xv at h1;generalize a.eval y=yv at h2;cases h1 with|d _ _ h1=>
     cases h2 with|d _ _ h2=>
     cases h1 with|agg _ xa DK wC oC=>
     cases h2 with|agg _ ya hly hfy kN=>
     unfold cj at gT;split at gT
     ·rename_i fs hu;split at gT
      ·rename_i FL;have hf:P.fieldsOf t=fs:=by simp[Program.fieldsOf,hu]
       have nr:tk P t=.struct:=by simp[tk,hu]
       unfold Bq at gT;simp only[nr,hu]at gT;split at gT
       ·rename_i hsi;split at gT
        ·rename_i Qr pV;split at gT
         ·cases gT;refine⟨xa,ya,rfl,rfl,?_,?_⟩
          ·unfold Op.equal Op.maxDepth;rw[run_equalIn_struct w 9999 t xa ya (by rw[hf];exact hu) hsi,hf];exact vk (F:=Fo G φ S.mem) (fun t' Qr aN o' Br FP r' h' nu nO ky Qs=>F2 9992 7 _ _ t' Qr aN o' Br FP r' h' nu nO ky Qs) fs.toList 0 ks pV xs ys r Ql (fun i c v hc hv=>oC i c v hc (by simpa using hv)) (fun i c v hc hv=>kN i c v hc (by simpa using hv)) (by omega) (by omega)
          ·cases op<;>simp[eqGuard,FL]
         ·cases gT
        ·cases gT
       ·cases gT
      ·cases gT
     ·cases gT
    split
    ·refine aH.pure fun _ φ G a w hr=>?_;obtain⟨xa,ya,e1,e2,h1,h2⟩:=key hr;exact⟨.bool r,by simp[execOp,ho,e1,e2,h2,binOp,h1],.d _ _ (.bool _)⟩
    ·refine aH.pure fun _ φ G a w hr=>?_;obtain⟨xa,ya,e1,e2,h1,h2⟩:=key hr;exact⟨.bool (!r),by simp[execOp,ho,e1,e2,h2,binOp,h1],.d _ _ (.bool _)⟩
    ·trivial
   ·trivial
  ·trivial
 ·trivial
def nilR(P:Program)(m:Mem)(neg:Bool)(t:TypeId)(x:AV):Value→di
 | .slice none 0 0=>match tk P t with
  | .slice _=>match x with
   | .d (.list (_::_))=>.val true (.d (.bool neg))
   | .lit (.slice none 0 0)=>.val true (.d (.bool (!neg)))
   | .nn=>.val true (.d (.bool neg))
   | .vec k aj _ len=>match Mem.get m k with
    |some ⟨_,v,.vec _ _⟩=>.val (v=aj∧0<len) (.d (.bool neg))
    |_=>.no
   |_=>.no
  |_=>.no
 | .pointer none=>match tk P t with
  | .ptr _=>match x with
   | .lit (.pointer none)=>.val true (.d (.bool (!neg)))
   | .ptr k aj _=>match Mem.get m k with
    |some ⟨_,v,_⟩=>.val (v=aj) (.d (.bool neg))
    |_=>.no
   |_=>.no
  |_=>.no
 | .nilIface=>match tk P t with
  | .iface=>match x with
   | .gJ _ _=>.val true (.d (.bool neg))
   | .err=>.val true (.d (.bool neg))
   | .lit .nilIface=>.val true (.d (.bool (!neg)))
   |_=>.no
  |_=>.no
 |_=>.no
theorem NK{φ w F d ds v}(h:aB φ w F (.d (.list (d::ds))) v):∃b off cap,v=.slice (some ⟨b,off,none⟩) (ds.length+1) cap:=by
 cases h with|d _ _ h=>
 cases h with|list _ b off cap sz vs=>exact⟨b,off,cap,rfl⟩
theorem aaO{P:Program}{t e:TypeId}(h:tk P t=.ptr e):P.underlying t=some (.pointer e):=by
 unfold tk at h;split at h<;>simp_all
theorem TX{P:Program}{t:TypeId}(h:tk P t=.iface):∃ms,P.underlying t=some (.interface ms):=by
 unfold tk at h;split at h<;>simp_all
theorem pz{P:Program}(w:World)(d:Nat){t e:TypeId}(a:Option Addr)(n c:Nat)(h:P.underlying t=some (.slice e)):
 (Op.equalIn (d+1) t (.slice a n c) (.slice none 0 0)).run P w=.ok a.isNone w:=by
 cases a<;>simp[Op.equalIn,run_underlying h]
theorem DL{P:Program}(w:World)(d:Nat){t e:TypeId}(a:Option Addr)(h:P.underlying t=some (.pointer e)):
 (Op.equalIn (d+1) t (.pointer a) (.pointer none)).run P w=.ok a.isNone w:=by
 cases a<;>simp[Op.equalIn,run_underlying h]
theorem zH{P:Program}(w:World)(d:Nat){t:TypeId}{ms}(tx:TypeId)(v:Value)(h:P.underlying t=some (.interface ms)):
 (Op.equalIn (d+1) t (.iface tx v) .nilIface).run P w=.ok false w:=by
 simp[Op.equalIn,run_underlying h]
theorem F4{P:Program}(w:World)(d:Nat){t:TypeId}{ms}(h:P.underlying t=some (.interface ms)):
 (Op.equalIn (d+1) t .nilIface .nilIface).run P w=.ok true w:=by
 simp[Op.equalIn,run_underlying h]
theorem Zh{P:Program}{o:Oper}{neg:Bool}{t t':TypeId}{x:Operand}{v:Value}(ho:o.op=.binOp (if neg then .neq else .eql) t x (.const v) t'){a:Act}{w:World}{b:Bool}
 (h1:∀c,a.eval x≠.agg c) (hvn:v=.slice none 0 0∨v=.pointer none∨v=.nilIface) (xl:(∀k n,a.eval x≠.int k n)∧(∀k n,a.eval x≠.float k n)∧(∀k n m,a.eval x≠.complex k n m)∧(∀s,a.eval x≠.string s))
 (h:(Op.equalIn 10000 t (a.eval x) v).run P w=.ok b w):(execOp a.eval o).run P w=.ok (.value (.bool (if neg then !b else b))) w:=by
 have e:a.eval (.const v)=v:=rfl;have hg:(eqGuard (if neg then .neq else .eql) t x (.const v) (a.eval x) v).run P w=.ok () w:=by
  unfold eqGuard;generalize a.eval x=u at h1⊢;rcases hvn with rfl|rfl|rfl<;>cases u<;>cases neg<;>simp
 have hb:(binOp (if neg then .neq else .eql) t (a.eval x) v).run P w=.ok (.bool (if neg then !b else b)) w:=by
  generalize a.eval x=u at h xl⊢;obtain⟨g1,g2,g3,g4⟩:=xl;rcases hvn with rfl|rfl|rfl<;>cases u<;>cases neg<;>simp_all [binOp,Op.equal,Op.maxDepth]
 simp only[execOp,ho,e,Sem.run_bind,hg,Result.andThen_ok,hb,Sem.run_pure]
theorem JD(P:Program)(S:St)(o:Oper)(neg:Bool)(t t':TypeId)(x:Operand)(v:Value)(ho:o.op=.binOp (if neg then .neq else .eql) t x (.const v) t')(hx:(S.opd x).1=true):aH P S o (nilR P S.mem neg t (S.opd x).2 v):=by
 have go:∀{φ G a w}{b:Bool},Rel φ G S a w→(∀c,a.eval x≠.agg c)→(v=.slice none 0 0∨v=.pointer none∨v=.nilIface)→((∀k n,a.eval x≠.int k n)∧(∀k n,a.eval x≠.float k n)∧(∀k n m,a.eval x≠.complex k n m)∧(∀s,a.eval x≠.string s))→
  (Op.equalIn 10000 t (a.eval x) v).run P w=.ok b w→∃v',(execOp a.eval o).run P w=.ok (.value v') w∧aB φ w (Fo G φ S.mem) (.d (.bool (if neg then !b else b))) v':=by
  intro φ G a w b hr h1 h2 h3 h4;exact⟨_,Zh ho h1 h2 h3 h4,.d _ _ (.bool _)⟩
 have eb:∀{b:Bool},(if neg=true then !b else b)=(if neg=true then !b else b):=rfl;unfold nilR;split
 ·split
  ·rename_i e ht;have uk:=fG ht;split
   ·rename_i d ds bI;refine aH.px fun _ φ G a w hr=>?_;have hv:=hr.opd x hx;rw[bI]at hv;obtain⟨b,off,cap,bU⟩:=NK hv;have:=go (b:=false) hr (by simp[bU]) (.inl rfl) (by simp[bU]) (by rw[bU];exact pz w 9999 _ _ _ uk);cases neg<;>simpa using this
   ·rename_i bI;refine aH.px fun _ φ G a w hr=>?_;have hv:=hr.opd x hx;rw[bI]at hv;generalize bU:a.eval x=u at hv;cases hv;have:=go (b:=true) hr (by simp[bU]) (.inl rfl) (by simp[bU]) (by rw[bU];exact pz w 9999 _ _ _ uk);cases neg<;>simpa using this
   ·rename_i bI;refine aH.px fun _ φ G a w hr=>?_;have hv:=hr.opd x hx;rw[bI]at hv;generalize bU:a.eval x=u at hv;cases hv;have:=go (b:=false) hr (by simp[bU]) (.inl rfl) (by simp[bU]) (by rw[bU];exact pz w 9999 _ _ _ uk);cases neg<;>simpa using this
   ·rename_i k aj off len bI;split
    ·rename_i key v' sz rows hg;refine aH.pure ?_;rintro ⟨rfl,hlen⟩ φ G a w hr;have hv:=hr.opd x hx;rw[bI]at hv;obtain⟨hm,hk,L,hL,aA,b7⟩:=hr.mem.get hg;generalize bU:a.eval x=u at hv;cases hv with
     |vec _ _ _ _ _ L' bO _ h _=>
      rw[hL]at bO;cases bO;obtain⟨ao,cap,rfl,fU,dz⟩:=h aA.symm;obtain⟨rfl,_⟩:=dz (by omega);have:=go (b:=false) hr (by simp[bU]) (.inl rfl) (by simp[bU]) (by rw[bU];exact pz w 9999 _ _ _ uk);cases neg<;>simpa using this
    ·trivial
   ·trivial
  ·trivial
 ·split
  ·rename_i e ht;have uk:=aaO ht;split
   ·rename_i bI;refine aH.px fun _ φ G a w hr=>?_;have hv:=hr.opd x hx;rw[bI]at hv;generalize bU:a.eval x=u at hv;cases hv;have:=go (b:=true) hr (by simp[bU]) (.inr (.inl rfl)) (by simp[bU]) (by rw[bU];exact DL w 9999 _ uk);cases neg<;>simpa using this
   ·rename_i k aj off bI;split
    ·rename_i key v' c hg;refine aH.pure ?_;rintro rfl φ G a w hr;have hv:=hr.opd x hx;rw[bI]at hv;obtain⟨hm,hk,L,hL,aA,b7⟩:=hr.mem.get hg;have bU:=hv.pQ hL aA;have:=go (b:=false) hr (by simp[bU]) (.inr (.inl rfl)) (by simp[bU]) (by rw[bU];exact DL w 9999 _ uk);cases neg<;>simpa using this
    ·trivial
   ·trivial
  ·trivial
 ·split
  ·rename_i ht;obtain⟨ms,uk⟩:=TX ht;split
   ·rename_i ti xi bI;refine aH.px fun _ φ G a w hr=>?_;have hv:=hr.opd x hx;rw[bI]at hv;generalize bU:a.eval x=u at hv;cases hv;have:=go (b:=false) hr (by simp[bU]) (.inr (.inr rfl)) (by simp[bU]) (by rw[bU];exact zH w 9999 _ _ uk);cases neg<;>simpa using this
   ·rename_i bI;refine aH.px fun _ φ G a w hr=>?_;have hv:=hr.opd x hx;rw[bI]at hv;generalize bU:a.eval x=u at hv;cases hv;have:=go (b:=false) hr (by simp[bU]) (.inr (.inr rfl)) (by simp[bU]) (by rw[bU];exact zH w 9999 _ _ uk);cases neg<;>simpa using this
   ·rename_i bI;refine aH.px fun _ φ G a w hr=>?_;have hv:=hr.opd x hx;rw[bI]at hv;generalize bU:a.eval x=u at hv;cases hv;have:=go (b:=true) hr (by simp[bU]) (.inr (.inr rfl)) (by simp[bU]) (by rw[bU];exact F4 w 9999 uk);cases neg<;>simpa using this
   ·trivial
  ·trivial
 ·trivial
def iJ(s:List UInt8)(i:Nat):UInt8:=s[i]?.getD 0
def indexVR(P:Program)(t:TypeId)(x i:AV):di:=
 match i with
 | .d (.int _ n)=>match x with
  | .d (.str s)=>.val (tk P t=.str∧0≤n∧n.toNat<s.length) (.d (.int .u8 (iJ s n.toNat).toNat))
  | .d (.agg cs)=>match tk P t with
   | .arr len e=>match (tk P e).agg,fe P e with
    |false,some 1=>.val (0≤n∧n.toNat<len∧len≤cs.length∧tk P e≠.other) (.d (D.at cs n.toNat))
    |true,some sz=>.val (0≤n∧n.toNat<len∧len*sz≤cs.length) (.d (.agg ((cs.drop (n.toNat*sz)).take sz)))
    |_,_=>.no
   |_=>.no
  |_=>.no
 |_=>.no
theorem Qt(b:ByteArray)(i:Nat):b[i]?=b.data.toList[i]?:=by
 by_cases h:i<b.size
 ·have h':i<b.data.size:=h;rw[getElem?_pos b i h,Array.getElem?_toList,getElem?_pos b.data i h'];rfl
 ·have h':¬i<b.data.size:=h;rw[getElem?_neg b i h,Array.getElem?_toList,getElem?_neg b.data i h']
theorem F5{P:Program}{w:World}{t:TypeId}{b:ByteArray}{k:IntKind}{n:Int}(ht:tk P t=.str)(h0:0≤n)(hl:n.toNat<b.data.toList.length):
 (Instr.index t (.string b) (.int k n)).run P w=.ok (.int .u8 (iJ b.data.toList n.toNat).toNat) w:=by
 have e:b[n.toNat]?=some (iJ b.data.toList n.toNat):=by rw[Qt];simp only[iJ];rw[List.getElem?_eq_getElem hl];rfl
 simp only[Instr.index,asIntOf,Sem.run_bind,Sem.run_pure,Result.andThen_ok,run_underlying (mI ht),h0,if_true,e]
theorem DM{P:Program}{w:World}{t:TypeId}{cs:Array Value}{off n:Nat}(h:(tk P t).agg=true)(hs:fe P t=some n):(part t cs off).run P w=.ok (.agg (cs.extract off (off+n))) w:=by
 have ho:tk P t≠.other:=by intro h';rw[h']at h;cases h
 simp[part,pP ho,h,run_sizeOf hs]
theorem wD{w F}{cs:List D}{a:Array Value}(h:aK w F (.agg cs) (.agg a))(o n:Nat)(hle:o+n≤cs.length):aK w F (.agg ((cs.drop o).take n)) (.agg (a.extract o (o+n))):=by
 have hc:=h.cells;cases h with|agg _ _ hl hf hr=>
 have h2:=aK.nj (w:=w) (F:=F) (cs:=(cs.drop o).take n) (vs:=(a.toList.drop o).take n) (by simp;omega)
  (fun v hv=>hc.2.1 v (by simpa [Value.cells]using List.mem_of_mem_drop (List.mem_of_mem_take hv)))
  (fun i c v h1 h2=>by
   rw[List.getElem?_take]at h1 h2;split at h1
   ·rename_i hi;simp only[hi,if_true]at h2;exact hr (o+i) c v (by simpa using h1) (by simpa using h2)
   ·cases h1)
 have e:((a.toList.drop o).take n).toArray=a.extract o (o+n):=by
  apply Array.ext';simp
 rwa [e]at h2
theorem Qu(P:Program)(S:St)(o:Oper)(t:TypeId)(x i:Operand)(ho:o.op=.index t x i)(hx:(S.opd x).1=true)(hi:(S.opd i).1=true):aH P S o (indexVR P t (S.opd x).2 (S.opd i).2):=by
 unfold indexVR;split
 ·rename_i k n Qq;split
  ·rename_i s bI;refine aH.pure ?_;rintro ⟨ht,h0,hl⟩ φ G a w hr;have h1:=hr.opd x hx;have h2:=hr.opd i hi;rw[bI]at h1;rw[Qq]at h2;obtain⟨b,e1,rfl⟩:=rE h1;exact⟨_,by simp only[execOp,ho,e1,jo h2,Sem.run_bind,F5 ht h0 hl];rfl,.d _ _ (.int _ _)⟩
  ·rename_i cs bI;split
   ·rename_i len e ga;split
    ·rename_i pW hs;refine aH.pure ?_;rintro ⟨h0,hl,hle,bE⟩ φ G a w hr;have h1:=hr.opd x hx;have h2:=hr.opd i hi;rw[bI]at h1;rw[Qq]at h2;generalize bY:a.eval x=av at h1;cases h1 with|d _ _ h1=>
     cases h1 with|agg _ xa DK wC oC=>
     have hn:n<(len:Int):=by omega
     have xl:n.toNat<xa.size:=by omega
     refine⟨xa[n.toNat],?_,.d _ _ (oC n.toNat _ _ (ji (by omega)) (by simp[xl]))⟩;have hp:=rG (P:=P) (w:=w) (t:=e) (cs:=xa) (off:=n.toNat*1) pW bE (v:=xa[n.toNat]) (by simp[xl]);simp only[Nat.mul_one]at hp;simp[execOp,ho,bY,jo h2,Instr.index,asIntOf,run_underlying (rF ga),h0,hn,run_sizeOf hs,hp]
    ·rename_i sz pW hs;refine aH.pure ?_;rintro ⟨h0,hl,hle⟩ φ G a w hr;have h1:=hr.opd x hx;have h2:=hr.opd i hi;rw[bI]at h1;rw[Qq]at h2;generalize bY:a.eval x=av at h1;cases h1 with|d _ _ h1=>
     have qA:=h1;cases h1 with|agg _ xa DK wC oC=>
     have hn:n<(len:Int):=by omega
     have TY:n.toNat*sz+sz≤cs.length:=by
      have:(n.toNat+1)*sz≤len*sz:=Nat.mul_le_mul_right _ hl;rw[Nat.add_mul]at this;omega
     refine⟨_,?_,.d _ _ (wD qA (n.toNat*sz) sz TY)⟩;have hp:=DM (P:=P) (w:=w) (t:=e) (cs:=xa) (off:=n.toNat*sz) pW hs;simp[execOp,ho,bY,jo h2,Instr.index,asIntOf,run_underlying (rF ga),h0,hn,run_sizeOf hs,hp]
    ·trivial
   ·trivial
  ·trivial
 ·trivial
def bound(m:Option AV)(NL:Int):Option Int:=
 match m with
 |none=>some NL
 |some (.d (.int _ n))=>some n
 |some _=>none
def sliceR(P:Program)(m:Mem)(t:TypeId)(x:AV)(lo hi:Option AV):di:=
 match x with
 | .d (.str s)=>match bound lo 0,bound hi s.length with
  |some l,some h=>.val (tk P t=.str∧0≤l∧l≤h∧h.toNat≤s.length) (.d (.str ((s.take h.toNat).drop l.toNat)))
  |_,_=>.no
 | .d (.list xs)=>match tk P t with
  | .slice e=>match fe P e,bound lo 0,bound hi xs.length with
   |some sz,some l,some h=>.val (0≤l∧l≤h∧h.toNat≤xs.length∧(∀d∈xs,d.size=sz)) (.d (.list ((xs.take h.toNat).drop l.toNat)))
   |_,_,_=>.no
  |_=>.no
 | .vec k aj off len=>match tk P t,Mem.get m k with
  | .slice e,some ⟨_,v,.vec cJ _⟩=>match fe P e,bound lo 0,bound hi len with
   |some sz,some l,some h=>.val (v=aj∧cJ=sz∧0≤l∧l≤h∧h.toNat≤len) (.vec k aj (off+l.toNat) (h.toNat-l.toNat))
   |_,_,_=>.no
  | .slice e,some ⟨_,v,.vv _ _⟩=>match fe P e,bound lo 0,bound hi len with
   |some sz,some l,some h=>.val (v=aj∧sz=1∧0≤l∧l≤h∧h.toNat≤len) (.vec k aj (off+l.toNat) (h.toNat-l.toNat))
   |_,_,_=>.no
  |_,_=>.no
 | .cD k aj i j=>match tk P t,Mem.get m k with
  | .arr n e,some ⟨_,v,.vec cJ rows⟩=>match fe P e,bound lo 0,bound hi n with
   |some sz,some l,some h=>.val (v=aj∧cJ=sz∧i=0∧j=0∧n≤rows.length∧0≤l∧l≤h∧h.toNat≤n) (.vec k aj l.toNat (h.toNat-l.toNat))
   |_,_,_=>.no
  |_,_=>.no
 | .ptr k aj off=>match tk P t,Mem.get m k with
  | .arr n e,some ⟨_,v,.box cs⟩=>match fe P e,bound lo 0,bound hi n with
   |some sz,some l,some h=>.val (v=aj∧sz=1∧off+n≤cs.length∧0≤l∧l≤h∧h.toNat≤n) (.vec k aj (off+l.toNat) (h.toNat-l.toNat))
   |_,_,_=>.no
  |_,_=>.no
 |_=>.no
theorem iw{P:Program}{w:World}{isS:Bool}{len cap:Nat}{lo hi:Option Value}{l h:Int}
 (cP:(lo=none∧l=0)∨∃k,lo=some (.int k l)) (nw:(hi=none∧h=len)∨∃k,hi=some (.int k h)) (h0:0≤l) (hle:l≤h) (dg:h.toNat≤cap):
 (Instr.sliceBounds isS len cap lo hi none).run P w=.ok (l.toNat,h.toNat,cap) w:=by
 have h1:h≤(cap:Int):=by omega
 have h2:0≤h:=by omega
 have h3:l≤(h.toNat:Int):=by omega
 rcases cP with ⟨rfl,rfl⟩|⟨k,rfl⟩<;>rcases nw with ⟨rfl,rfl⟩|⟨k',rfl⟩<;>
  simp_all [Instr.sliceBounds,Instr.sliceBound,asIntOf]
theorem gL{S:St}{φ G a w}(hr:Rel φ G S a w){x:Option Operand}{NL n:Int}(hx:∀y,x=some y→(S.opd y).1=true)(h:bound (x.map fun y=>(S.opd y).2) NL=some n):
 (x.map a.eval=none∧n=NL)∨∃k,x.map a.eval=some (.int k n):=by
 cases x with
 |none=>simp[bound]at h;exact .inl ⟨rfl,h.symm⟩
 |some y=>
  right;simp only[Option.map_some]at h⊢;unfold bound at h;split at h
  ·rename_i heq;cases heq
  ·rename_i k m heq;simp at h heq;subst h;have:=hr.opd y (hx y rfl);rw[heq]at this;exact⟨k,by rw[jo this]⟩
  ·cases h
theorem NM{w F xs v sz}(h:aK w F (.list xs) v)(hs:∀d∈xs,d.size=sz){l hh:Nat}(hle:l≤hh)(hlen:hh≤xs.length):
 ∃ao cap,v=.slice ao xs.length cap∧xs.length≤cap∧(ao=none→cap=0)∧∀xd Qv,(Qv=none→xd=0)→hh-l≤xd→(Qv=ao.map (·.add (l*sz))∨(hh-l=0))→aK w F (.list ((xs.take hh).drop l)) (.slice Qv (hh-l) xd):=by
 have hl:((xs.take hh).drop l).length=hh-l:=by simp;omega
 generalize hx:D.list xs=x at h;cases h with
 |nil a c fg=>
  simp at hx;subst hx;refine⟨a,c,rfl,by simp,fg,fun xd Qv sy _ _=>?_⟩;have h1:hh-l=0:=by simp at hlen;omega
  rw[h1];simp;exact .nil _ _ sy
 |list ys b off cap cJ vs dg hb hF bQ hv hc=>
  simp at hx;subst hx;refine⟨_,cap,rfl,dg,by simp,fun xd Qv sy dL Wf=>?_⟩;by_cases hz:hh-l=0
  ·have e:(xs.take hh).drop l=[]:=List.eq_nil_of_length_eq_zero (by omega);rw[e,hz];exact .nil _ _ sy
  ·have Wf:=Wf.resolve_right hz;have hss:cJ=sz:=by
    have fE:0<xs.length:=by omega
    rw[←bQ xs[0] (List.getElem_mem fE),hs xs[0] (List.getElem_mem fE)]
   subst hss;simp only[Option.map_some,ff]at Wf;rw[Wf,←hl];refine .list _ b (off+l*cJ) xd cJ (fun i=>vs (l+i)) (by rw[hl];exact dL) hb hF (fun d hd=>bQ d (List.mem_of_mem_take (List.mem_of_mem_drop hd))) (fun i d hd=>?_) (fun i j c hi hj=>?_)
   ·rw[List.getElem?_drop,List.getElem?_take]at hd;split at hd
    ·exact hv _ d hd
    ·cases hd
   ·have:=hc (l+i) j c (by rw[hl]at hi;omega) hj;rw[Nat.add_mul,←Nat.add_assoc]at this;exact this
 |_=>simp at hx
theorem TZ(P:Program)(S:St)(o:Oper)(t:TypeId)(x:Operand)(lo hi:Option Operand)(ho:o.op=.slice t x lo hi none)(hx:(S.opd x).1=true)(cP:∀y,lo=some y→(S.opd y).1=true)(nw:∀y,hi=some y→(S.opd y).1=true):
 aH P S o (sliceR P S.mem t (S.opd x).2 (lo.map fun y=>(S.opd y).2) (hi.map fun y=>(S.opd y).2)):=by
 unfold sliceR;split
 ·rename_i s bI;split
  ·rename_i l h hl hh;refine aH.pure ?_;rintro ⟨ht,h0,hle,dg⟩ φ G a w hr;have h1:=hr.opd x hx;rw[bI]at h1;obtain⟨b,e1,rfl⟩:=rE h1;have oJ:b.size=b.data.toList.length:=by rw[Array.length_toList];rfl
   have xn:=iw (P:=P) (w:=w) (isS:=false) (len:=b.size) (cap:=b.size) (gL hr cP hl) (by have:=gL hr nw hh;rw[←oJ]at this;exact this) h0 hle (by rw[oJ];exact dg);refine⟨.string (b.extract l.toNat h.toNat),?_,.d _ _ (.str _ _ ?_)⟩
   ·simp[execOp,ho,e1,Instr.sliceAt,Instr.slice,run_underlying (mI ht),xn]
   ·simp[ByteArray.data_extract,List.drop_take]
  ·trivial
 ·rename_i xs bI;split
  ·rename_i e ga;split
   ·rename_i sz l h hs hl hh;refine aH.pure ?_;rintro ⟨h0,hle,dg,bQ⟩ φ G a w hr;have h1:=hr.opd x hx;rw[bI]at h1;generalize bY:a.eval x=av at h1;cases h1 with|d _ _ h1=>
    obtain⟨ao,cap,rfl,hxc,fg,lq⟩:=NM h1 bQ (l:=l.toNat) (hh:=h.toNat) (by omega) dg;have hc:h.toNat≤cap:=by omega
    have xn:=iw (P:=P) (w:=w) (isS:=true) (len:=xs.length) (cap:=cap) (gL hr cP hl) (gL hr nw hh) h0 hle hc;refine⟨.slice (if cap=l.toNat then ao else ao.map (·.add (l.toNat*sz))) (h.toNat-l.toNat) (cap-l.toNat),?_,.d _ _ (lq _ _ (fun hn=>?_) (by omega) ?_)⟩
    ·simp[execOp,ho,bY,Instr.sliceAt,Instr.slice,run_underlying (fG ga),xn,run_sizeOf hs]
    ·have:ao=none:=by split at hn<;>simp_all
     have:=fg this;omega
    ·by_cases aO:cap=l.toNat
     ·exact .inr (by omega)
     ·exact .inl (by simp[aO])
   ·trivial
  ·trivial
 ·rename_i k aj off len bI;split
  ·rename_i e key v cJ rows ga hg;split
   ·rename_i sz l h hs hl hh;refine aH.pure ?_;rintro ⟨rfl,rfl,h0,hle,dg⟩ φ G a w hr;have h1:=hr.opd x hx;rw[bI]at h1;obtain⟨hm,hk,L,hL,aA,b7⟩:=hr.mem.get hg;simp only at aA;generalize bY:a.eval x=av at h1;cases h1 with
    |vec _ _ _ _ _ L' bO _ xo _=>
     rw[hL]at bO;cases bO;obtain⟨ao,cap,rfl,fU,dz⟩:=xo aA.symm;clear xo;have xn:=iw (P:=P) (w:=w) (isS:=true) (len:=len) (cap:=cap) (gL hr cP hl) (gL hr nw hh) h0 hle (by omega);refine⟨.slice (if cap=l.toNat then ao else ao.map (·.add (l.toNat*cJ))) (h.toNat-l.toNat) (cap-l.toNat),?_,?_⟩
     ·simp[execOp,ho,bY,Instr.sliceAt,Instr.slice,run_underlying (fG ga),xn,run_sizeOf hs]
     ·refine .vec k v _ _ _ L hL (by omega) (fun _=>⟨_,_,rfl,by omega,fun hc=>?_⟩) rfl;obtain⟨rfl,mG⟩:=dz (by omega);refine⟨?_,by omega⟩;rw[if_neg (by omega)];simp only[Option.map_some,ff,b7.1,Nat.add_mul,Nat.add_assoc]
   ·trivial
  ·rename_i e key v rows y ga hg;split
   ·rename_i sz l h hs hl hh;refine aH.pure ?_;rintro ⟨rfl,rfl,h0,hle,dg⟩ φ G a w hr;have h1:=hr.opd x hx;rw[bI]at h1;obtain⟨hm,hk,L,hL,aA,b7⟩:=hr.mem.get hg;simp only at aA;generalize bY:a.eval x=av at h1;cases h1 with
    |vec _ _ _ _ _ L' bO _ xo _=>
     rw[hL]at bO;cases bO;obtain⟨ao,cap,rfl,fU,dz⟩:=xo aA.symm;clear xo;have xn:=iw (P:=P) (w:=w) (isS:=true) (len:=len) (cap:=cap) (gL hr cP hl) (gL hr nw hh) h0 hle (by omega);refine⟨.slice (if cap=l.toNat then ao else ao.map (·.add (l.toNat*1))) (h.toNat-l.toNat) (cap-l.toNat),?_,?_⟩
     ·simp[execOp,ho,bY,Instr.sliceAt,Instr.slice,run_underlying (fG ga),xn,run_sizeOf hs]
     ·refine .vec k v _ _ _ L hL (by omega) (fun _=>⟨_,_,rfl,by omega,fun hc=>?_⟩) rfl;obtain⟨rfl,mG⟩:=dz (by omega);refine⟨?_,by omega⟩;rw[if_neg (by omega)];simp only[Option.map_some,ff,b7.1.1,Nat.add_mul,Nat.add_assoc]
   ·trivial
  ·trivial
 ·rename_i k aj i j bI;split
  ·rename_i n e key v cJ rows ga hg;split
   ·rename_i sz l h hs hl hh;refine aH.pure ?_;rintro ⟨rfl,rfl,rfl,rfl,hn,h0,hle,dg⟩ φ G a w hr;have h1:=hr.opd x hx;rw[bI]at h1;obtain⟨hm,hk,L,hL,aA,b7⟩:=hr.mem.get hg;simp only at aA;have e1:=h1.j6 hL aA;have xn:=iw (P:=P) (w:=w) (isS:=false) (len:=n) (cap:=n) (gL hr cP hl) (gL hr nw hh) h0 hle dg;refine⟨.slice (some (if n=l.toNat then ⟨L.du,L.base,none⟩else ⟨L.du,L.base+l.toNat*cJ,none⟩)) (h.toNat-l.toNat) (n-l.toNat),?_,?_⟩
    ·simp[execOp,ho,e1,Instr.sliceAt,Instr.sureAddr,run_underlying (rF ga),xn,run_sizeOf hs,ff]
    ·refine .vec k v _ _ _ L hL (by omega) (fun _=>⟨_,_,rfl,by omega,fun hc=>⟨?_,by have:=b7.2.1;omega⟩⟩) rfl;rw[if_neg (by omega),b7.1]
   ·trivial
  ·trivial
 ·rename_i k aj off bI;split
  ·rename_i n e key v cs ga hg;split
   ·rename_i sz l h hs hl hh;refine aH.pure ?_;rintro ⟨rfl,rfl,hn,h0,hle,dg⟩ φ G a w hr;have h1:=hr.opd x hx;rw[bI]at h1;obtain⟨hm,hk,L,hL,aA,⟨z1,z2,z3⟩,_⟩:=hr.mem.get hg;simp only at aA;have e1:=h1.pQ hL aA;have xn:=iw (P:=P) (w:=w) (isS:=false) (len:=n) (cap:=n) (gL hr cP hl) (gL hr nw hh) h0 hle dg;refine⟨.slice (some (if n=l.toNat then ⟨L.du,off,none⟩else ⟨L.du,off+l.toNat,none⟩)) (h.toNat-l.toNat) (n-l.toNat),?_,?_⟩
    ·simp[execOp,ho,e1,Instr.sliceAt,Instr.sureAddr,run_underlying (rF ga),xn,run_sizeOf hs,ff]
    ·refine .vec k v _ _ _ L hL (by omega) (fun _=>⟨_,_,rfl,by omega,fun hc=>⟨?_,by omega⟩⟩) rfl;rw[if_neg (by omega),z1,z2];simp
   ·trivial
  ·trivial
 ·trivial
def pickD(t:Bool)(x y:D):D:=
 match x,y with
 | .bool a,.bool b=>.bool (bif t then a else b)
 |x,y=>bif t then x else y
def pickAV(t:Bool)(x y:AV):AV:=
 match x,y with
 | .d x,.d y=>.d (pickD t x y)
 |x,y=>bif t then x else y
def pickR(c a b:Bool×AV):di:=
 match c.2 with
 | .d (.bool t)=>.val (c.1=true∧(t=true→a.1=true)∧(t=false→b.1=true)) (pickAV t a.2 b.2)
 |_=>.no
theorem Zi(P:Program)(S:St)(o:Oper)(c x y:Operand)(ho:o.op=.pick c x y):aH P S o (pickR (S.opd c) (S.opd x) (S.opd y)):=by
 unfold pickR;split
 ·rename_i t hc;refine aH.pure ?_;rintro ⟨h1,h2,h3⟩ φ G a w hr;have mH:=hr.opd c h1;rw[hc]at mH;have e:=rh mH;cases t
  ·have hy:=hr.opd y (h3 rfl);refine⟨a.eval y,by simp[execOp,ho,e,asBool],?_⟩;have e2:pickAV false (S.opd x).2 (S.opd y).2=(S.opd y).2:=by
    unfold pickAV;split
    ·rename_i u v h5 h6;rw[h6];congr 1;unfold pickD;split<;>rfl
    ·rfl
   rw[e2];exact hy
  ·have hx:=hr.opd x (h2 rfl);refine⟨a.eval x,by simp[execOp,ho,e,asBool],?_⟩;have e2:pickAV true (S.opd x).2 (S.opd y).2=(S.opd x).2:=by
    unfold pickAV;split
    ·rename_i u v h5 h6;rw[h5];congr 1;unfold pickD;split<;>rfl
    ·rfl
   rw[e2];exact hx
 ·trivial
theorem Zj(P:Program)(S:St)(o:Oper)(x:Operand)(ho:o.op=.move x∨o.op=.assign x)(hx:(S.opd x).1=true):aH P S o (.val True (S.opd x).2):=by
 refine aH.pure fun _ φ G a w hr=>⟨a.eval x,?_,hr.opd x hx⟩;rcases ho with ho|ho<;>simp[execOp,ho]
def unR(op:UnOp)(x:AV):di:=
 match op,x with
 | .not,.d (.bool b)=>.val True (.d (.bool (!b)))
 | .neg,.d (.int k n)=>.val True (.d (.int k (k.wrap (0-n))))
 | .xor,.d (.int k n)=>.val True (.d (.int k (k.wrap (BitVec.ofInt k.bits (if k.signed then-1 else k.max) ^^^ BitVec.ofInt k.bits n).toNat)))
 |_,_=>.no
theorem afF(P:Program)(S:St)(o:Oper)(op:UnOp)(t:TypeId)(x:Operand)(ho:o.op=.unOp op t x)(hx:(S.opd x).1=true):aH P S o (unR op (S.opd x).2):=by
 unfold unR;split
 ·rename_i b bI;refine aH.pure fun _ φ G a w hr=>?_;have h1:=hr.opd x hx;rw[bI]at h1;exact⟨.bool (!b),by simp[execOp,ho,rh h1,Op.unary],.d _ _ (.bool _)⟩
 ·rename_i k n bI;refine aH.pure fun _ φ G a w hr=>?_;have h1:=hr.opd x hx;rw[bI]at h1;exact⟨.int k (k.wrap (0-n)),by simp only[execOp,ho,jo h1,Op.unary,Op.intArith,Sem.run_bind,Sem.run_pure,Result.andThen_ok],.d _ _ (.int _ _)⟩
 ·rename_i k n bI;refine aH.pure fun _ φ G a w hr=>?_;have h1:=hr.opd x hx;rw[bI]at h1;exact⟨_,by simp only[execOp,ho,jo h1,Op.unary,Op.intBits,Sem.run_bind,Sem.run_pure,Result.andThen_ok],.d _ _ (.int _ _)⟩
 ·trivial
def extractR(i:Nat)(x:AV):di:=
 match x with
 | .aU vs=>match vs[i]? with
  |some v=>.val True v
  |none=>.no
 |_=>.no
theorem NN(P:Program)(S:St)(o:Oper)(x:Operand)(i:Nat)(ho:o.op=.extract x i)(hx:(S.opd x).1=true):aH P S o (extractR i (S.opd x).2):=by
 unfold extractR;split
 ·rename_i vs bI;split
  ·rename_i v hv;refine aH.pure fun _ φ G a w hr=>?_;have h1:=hr.opd x hx;rw[bI]at h1;generalize bY:a.eval x=av at h1;cases h1 with|aU _ xa hl hc=>
   have hi:i<xa.size:=by rw[←hl];exact (List.getElem?_eq_some_iff.1 hv).1
   exact⟨xa[i],by simp[execOp,ho,bY,Instr.extract,hi],hc i v _ hv (by simp[hi])⟩
  ·trivial
 ·trivial
def makeFuncR(f:Fn)(first cap:List AV):di:=
 match f,first with
 | .func f,[]=>.val (f<bnB) (.fn f cap)
 | .func f,x::r=>match cap with
  |[]=>.val True (.fn (f+bnB) (x::r))
  |_=>.no
 |_,_=>.no
theorem I3(P:Program)(S:St)(o:Oper)(f:Fn)(first cap:Array Operand)(ho:o.op=.makeFunc f first cap)(hf:∀x∈first.toList,(S.opd x).1=true)(hc:∀x∈cap.toList,(S.opd x).1=true):aH P S o (makeFuncR f (first.toList.map fun x=>(S.opd x).2) (cap.toList.map fun x=>(S.opd x).2)):=by
 have key:∀(l:Array Operand),(∀x∈l.toList,(S.opd x).1=true)→∀φ G a w,Rel φ G S a w→∀(i:Nat)(c:AV)(v:Value),(l.toList.map fun x=>(S.opd x).2)[i]?=some c→(l.map a.eval)[i]?=some v→aB φ w (Fo G φ S.mem) c v:=by
  intro l hl φ G a w hr i c v h1 h2;simp only[List.getElem?_map,Array.getElem?_toList,Option.map_eq_some_iff]at h1;simp only[Array.getElem?_map,Option.map_eq_some_iff]at h2;obtain⟨x,hx,rfl⟩:=h1;obtain⟨y,hy,rfl⟩:=h2;rw[hx]at hy;cases hy;exact hr.opd x (hl x (by simpa using Array.mem_of_getElem? hx))
 generalize pV:(first.toList.map fun x=>(S.opd x).2)=fs;generalize kO:(cap.toList.map fun x=>(S.opd x).2)=cs;unfold makeFuncR;split
 ·rename_i f;refine aH.pure fun bn φ G a w hr=>?_;have wE:first=#[]:=by cases first;simp_all
  refine⟨.func (.func f) #[] (cap.map a.eval),by simp[execOp,ho,Instr.makeFunc,wE],.fn f _ _ bn (by simp[←kO]) (fun i c v h1 h2=>?_)⟩;rw[←kO]at h1;exact key cap hc φ G a w hr i c v h1 h2
 ·rename_i f x r;split
  ·refine aH.pure fun _ φ G a w hr=>?_;have hce:cap=#[]:=by cases cap;simp_all
   refine⟨.func (.func f) (first.map a.eval) #[],by simp[execOp,ho,Instr.makeFunc,hce],.qx f _ _ (by rw[←pV];simp) (fun i c v h1 h2=>?_)⟩;rw[←pV]at h1;exact key first hf φ G a w hr i c v h1 h2
  ·trivial
 ·trivial
def makeIfaceR(P:Program)(t:TypeId)(x:AV):di:=
 match x.norm with
 | .d d=>.val (tk P t≠.iface∧tk P t≠.other) (.gJ t d)
 |_=>.no
theorem Ah{P:Program}{t:TypeId}(h:tk P t≠.other):∃d,P.underlying t=some d:=by
 unfold tk at h;cases hu:P.underlying t with
 |none=>simp[hu]at h
 |some d=>exact⟨d,rfl⟩
theorem F6(P:Program)(S:St)(o:Oper)(t:TypeId)(x:Operand)(ho:o.op=.makeInterface t x)(hx:(S.opd x).1=true):aH P S o (makeIfaceR P t (S.opd x).2):=by
 unfold makeIfaceR;split
 ·rename_i d bI;refine aH.pure ?_;rintro ⟨h1,h2⟩ φ G a w hr;have h3:=(hr.opd x hx).norm;rw[bI]at h3;obtain⟨td,hu⟩:=Ah h2;refine⟨.iface t (a.eval x),?_,?_⟩
  ·have bE:∀ms,td≠.interface ms:=by rintro ms rfl;simp[tk,hu]at h1
   simp only[execOp,ho,Instr.makeInterface,Sem.run_bind,run_underlying hu,Result.andThen_ok];cases td<;>first|rfl|exact absurd rfl (bE _)
  ·cases h3 with|d _ _ h=>exact .gJ t d _ h
 ·trivial
def lenRm(P:Program)(m:Mem)(t:TypeId)(x:AV):di:=
 match x with
 | .d (.str s)=>.val (tk P t=.str) (.d (.int .i64 s.length))
 | .d (.list xs)=>match tk P t with
  | .slice _=>.val True (.d (.int .i64 xs.length))
  |_=>.no
 | .vec k aj _ len=>match tk P t,Mem.get m k with
  | .slice _,some ⟨_,v,_⟩=>.val (v=aj) (.d (.int .i64 len))
  |_,_=>.no
 | .lit (.slice none 0 0)=>match tk P t with
  | .slice _=>.val True (.d (.int .i64 0))
  |_=>.no
 | .nn=>match tk P t with
  | .slice _=>.val True (.d (.int .i64 0))
  |_=>.no
 |_=>match tk P t with
  | .arr n _=>.val True (.d (.int .i64 n))
  |_=>.no
theorem run_len_slice{P:Program}{w:World}{t ty e:TypeId}{ao len cap}(h:tk P t=.slice e):(Builtin.len_ #[t] ty #[.slice ao len cap]).run P w=.ok (.int .i64 len) w:=by
 simp[Builtin.len_,run_underlying (fG h),goInt]
theorem aaP(P:Program)(S:St)(o:Oper)(x:Operand)(t:TypeId)(ho:o.op=.call {callee:=.builtin .len,args:=#[x],argTypes:=#[t]})(hx:(S.opd x).1=true):aH P S o (lenRm P S.mem t (S.opd x).2):=by
 have bL:∀(a:Act)(w:World)(v:Value),(Builtin.len_ #[t] o.type #[a.eval x]).run P w=.ok v w→(execOp a.eval o).run P w=.ok (.value v) w:=by
  intro a w v h;simp[execOp,ho,resolve,invoke,builtin,h]
 unfold lenRm;split
 ·rename_i s bI;refine aH.pure fun ht φ G a w hr=>?_;have h1:=hr.opd x hx;rw[bI]at h1;obtain⟨b,e1,rfl⟩:=rE h1;have oJ:b.size=b.data.toList.length:=by rw[Array.length_toList];rfl
  refine⟨.int .i64 b.data.toList.length,bL a w _ ?_,.d _ _ (.int _ _)⟩;simp only[Builtin.len_,e1,List.getElem?_toArray,List.getElem?_cons_zero,Sem.run_bind,run_underlying (mI ht),Result.andThen_ok,Sem.run_pure,goInt,←oJ]
 ·rename_i xs bI;split
  ·rename_i e ga;refine aH.pure fun _ φ G a w hr=>?_;have h1:=hr.opd x hx;rw[bI]at h1;generalize bY:a.eval x=av at h1;cases h1 with|d _ _ h=>
   have hl:∃ao cap,av=.slice ao xs.length cap:=by cases h<;>exact⟨_,_,rfl⟩
   obtain⟨ao,cap,rfl⟩:=hl;exact⟨_,bL a w _ (by rw[bY];exact run_len_slice ga),.d _ _ (.int _ _)⟩
  ·trivial
 ·rename_i k aj off len bI;split
  ·rename_i e key v cont ga hg;refine aH.pure ?_;rintro rfl φ G a w hr;have h1:=hr.opd x hx;rw[bI]at h1;obtain⟨hm,hk,L,hL,aA,b7⟩:=hr.mem.get hg;simp only at aA;generalize bY:a.eval x=av at h1;cases h1 with
   |vec _ _ _ _ _ L' bO _ xo _=>
    rw[hL]at bO;cases bO;obtain⟨ao,cap,rfl,fU,dz⟩:=xo aA.symm;exact⟨_,bL a w _ (by rw[bY];exact run_len_slice ga),.d _ _ (.int _ _)⟩
  ·trivial
 ·rename_i bI;split
  ·rename_i e ga;refine aH.pure fun _ φ G a w hr=>?_;have h1:=hr.opd x hx;rw[bI]at h1;generalize bY:a.eval x=av at h1;cases h1;exact⟨_,bL a w _ (by rw[bY];exact run_len_slice ga),.d _ _ (.int _ _)⟩
  ·trivial
 ·rename_i bI;split
  ·rename_i e ga;refine aH.pure fun _ φ G a w hr=>?_;have h1:=hr.opd x hx;rw[bI]at h1;generalize bY:a.eval x=av at h1;cases h1;exact⟨_,bL a w _ (by rw[bY];exact run_len_slice ga),.d _ _ (.int _ _)⟩
  ·trivial
 ·split
  ·rename_i n e ga;refine aH.pure fun _ φ G a w hr=>?_;refine⟨.int .i64 n,bL a w _ ?_,.d _ _ (.int _ _)⟩;simp[Builtin.len_,run_underlying (rF ga),goInt]
  ·trivial
def foldMax(isMax:Bool):AV→List AV→Option D
 | .d (.int k a),[]=>some (.int k a)
 | .d (.int k a),y::r=>match y with
  | .d (.int _ b)=>foldMax isMax (.d (.int k (if isMax then (if b>a then b else a)else (if b<a then b else a)))) r
  |_=>none
 |_,_=>none
def maxR(isMax:Bool)(xs:List AV):di:=
 match xs with
 |x::r=>match foldMax isMax x r with
  |some d=>.val True (.d d)
  |none=>.no
 |[]=>.no
theorem I4{P:Program}{φ w F}(isMax:Bool):∀(xs:List AV)(x:AV)(vs:List Value)(v:Value)(d:D),foldMax isMax x xs=some d→aB φ w F x v→xs.length=vs.length→
 (∀(i:Nat) c u,xs[i]?=some c→vs[i]?=some u→aB φ w F c u)→
 ∃u,(vs.foldlM (if isMax then Builtin.max2 else Builtin.min2) v).run P w=.ok u w∧aK w F d u:=by
 intro xs;induction xs with
 |nil=>
  intro x vs v d h hx hl hc;have:vs=[]:=List.eq_nil_of_length_eq_zero (by simpa using hl.symm);subst this;unfold foldMax at h;split at h<;>simp_all;subst h;rw[jo hx];exact .int _ _
 |cons y ys ih=>
  intro x vs v d h hx hl hc;cases vs with
  |nil=>simp at hl
  |cons u us=>
   unfold foldMax at h;split at h
   ·simp_all
   ·rename_i k a y' r heq;simp at heq;obtain⟨rfl,rfl⟩:=heq;split at h
    ·rename_i k2 b;have e1:=jo hx;have e2:=jo (hc 0 (.d (.int k2 b)) u (by simp) (by simp));subst e1;subst e2;have dL:∀(i:Nat) c u,ys[i]?=some c→us[i]?=some u→aB φ w F c u:=fun i c u h1 h2=>hc (i+1) c u (by simpa using h1) (by simpa using h2);cases isMax
     ·obtain⟨u',h1,h2⟩:=ih _ us (.int k (if b<a then b else a)) d h (.d _ _ (.int _ _)) (by simpa using hl) dL;refine⟨u',?_,h2⟩;simp only[Bool.false_eq_true,if_false]at h1⊢;simp only[List.foldlM_cons,Builtin.min2,pure_bind];exact h1
     ·obtain⟨u',h1,h2⟩:=ih _ us (.int k (if b>a then b else a)) d h (.d _ _ (.int _ _)) (by simpa using hl) dL;refine⟨u',?_,h2⟩;simp only[if_true]at h1⊢;simp only[List.foldlM_cons,Builtin.max2,pure_bind];exact h1
    ·cases h
   ·cases h
theorem Qw(P:Program)(S:St)(o:Oper)(isMax:Bool)(args:Array Operand)(ts:Array TypeId)(ho:o.op=.call {callee:=.builtin (if isMax then .max else .min),args,argTypes:=ts})(hx:∀x∈args.toList,(S.opd x).1=true):aH P S o (maxR isMax (args.toList.map fun x=>(S.opd x).2)):=by
 unfold maxR;split
 ·rename_i x r heq;split
  ·rename_i d hd;refine aH.pure fun _ φ G a w hr=>?_;obtain⟨l,hl⟩:∃l,args.toList=l:=⟨_,rfl⟩;rw[hl]at heq hx;cases l with
   |nil=>simp at heq
   |cons y ys=>
    simp at heq;obtain⟨rfl,rfl⟩:=heq;obtain⟨u,h1,h2⟩:=I4 (P:=P) (φ:=φ) (w:=w) (F:=Fo G φ S.mem) isMax _ _ (ys.map a.eval) (a.eval y) d hd (hr.opd y (hx y (by simp))) (by simp) (fun i c u h1 h2=>by
     simp only[List.getElem?_map,Option.map_eq_some_iff]at h1 h2;obtain⟨p,hp,rfl⟩:=h1;obtain⟨q,hq,rfl⟩:=h2;rw[hp]at hq;cases hq;exact hr.opd p (hx p (by simp[List.mem_of_getElem? hp])))
    refine⟨u,?_,.d _ _ h2⟩;have xp:(args.map a.eval).toList=a.eval y::ys.map a.eval:=by simp[hl]
    cases isMax
    ·simp only[Bool.false_eq_true,if_false]at h1 ho;simp[execOp,ho,resolve,invoke,builtin,Builtin.min_,hl,h1]
    ·simp only[if_true]at h1 ho;simp[execOp,ho,resolve,invoke,builtin,Builtin.max_,hl,h1]
  ·trivial
 ·trivial
theorem DN(off:Nat):∀(l:List Value)(k:Nat)(cs:Array Value),off+k+l.length≤cs.size→
 ((l.zipIdx k).foldl (fun cs x=>cs.setIfInBounds (off+x.2) x.1) cs).toList=cs.toList.take (off+k)++l++cs.toList.drop (off+k+l.length)
 |[],k,cs,_=>by simp
 |v::l,k,cs,h=>by
  simp only[List.zipIdx_cons,List.foldl_cons,List.length_cons]at h⊢;rw[DN off l (k+1) _ (by simp;omega),Array.toList_setIfInBounds];have:=list_seg_step cs.toList (off+k) v l (by simp;omega);rw[show off+(k+1)=off+k+1 by omega,show off+k+(l.length+1)=off+k+1+l.length by omega];simpa [List.length_cons,Nat.add_assoc,Nat.add_comm 1]using this
theorem F7(cs v:Array Value)(off:Nat)(h:off+v.size≤cs.size):
 (v.zipIdx.foldl (fun cs (x:Value×Nat)=>cs.setIfInBounds (off+x.2) x.1) cs).toList=putCells cs.toList off v.toList:=by
 rw[←Array.foldl_toList,Array.toList_zipIdx,DN off v.toList 0 cs (by simpa using h),dn _ _ _ (by simpa using h)];simp
def fillA(place:Nat→Option (Nat×Nat)):List (Nat×AV)→Bool→List AV→Option (Bool×List AV)
 |[],c,cs=>some (c,cs)
 |(i,x)::r,c,cs=>match place i with
  |some (off,n)=>fillA place r (c∧x.solid=true∧x.cells.length=n∧off+n≤cs.length) (putCells cs off x.cells)
  |none=>none
theorem xq{φ w F}(place:Nat→Option (Nat×Nat)):∀(ps:List (Nat×AV))(c0 c:Bool)(cs ll:List AV)(vs:List (Nat×Value))(va:Array Value),
 fillA place ps c0 cs=some (c,ll)→c=true→cs.length=va.size→(∀v∈va,cv v=true)→(∀(i:Nat) x v,cs[i]?=some x→va[i]?=some v→aB φ w F x v)→
 ps.length=vs.length→(∀(i:Nat) p v,ps[i]?=some p→vs[i]?=some v→p.1=v.1∧aB φ w F p.2 v.2)→
 ∃wF,Instr.fill place va vs=some wF∧c0=true∧ll.length=wF.size∧(∀v∈wF,cv v=true)∧∀(i:Nat) x v,ll[i]?=some x→wF[i]?=some v→aB φ w F x v
 |[],c0,c,cs,ll,vs,va,h,hc,hl,h1,hr,dz,hp=>by
  have:vs=[]:=List.eq_nil_of_length_eq_zero (by simpa using dz.symm);subst this;simp only[fillA,Option.some.injEq,Prod.mk.injEq]at h;obtain⟨rfl,rfl⟩:=h;exact⟨va,rfl,hc,hl,h1,hr⟩
 |(i,x)::ps,c0,c,cs,ll,vs,va,h,hc,hl,h1,hr,dz,hp=>by
  cases vs with
  |nil=>simp at dz
  |cons v vs=>
   obtain⟨j,v⟩:=v;obtain⟨ka,bI⟩:=hp 0 (i,x) (j,v) (by simp) (by simp);simp only at ka bI;subst ka;simp only[fillA]at h;split at h
   ·rename_i off n akC
    --zC condition of zC rest holds zC condition of this part
    obtain⟨q,hq⟩:∃q:Bool,q=decide (c0=true∧x.solid=true∧x.cells.length=n∧off+n≤cs.length):=⟨_,rfl⟩;have gO:c=true→q=true:=by
     rw[←hq]at h;clear hq;revert h
     generalize putCells cs off x.cells=cs2;clear hp dz hr h1 hl bI hc;induction ps generalizing q cs2 with
     |nil=>intro h;simp only[fillA,Option.some.injEq,Prod.mk.injEq]at h;obtain⟨rfl,_⟩:=h;exact id
     |cons p ps ih=>
      intro h eQ;simp only[fillA]at h;split at h
      ·exact (of_decide_eq_true (ih _ _ h eQ)).1
      ·cases h
    have Wg:=gO hc;rw[hq]at Wg;replace Wg:=of_decide_eq_true Wg;obtain⟨akD,TP,hlen,hle⟩:=Wg;obtain⟨pR,qy⟩:=bI.solid TP;have m9:off+v.cells.size≤va.size:=by omega
    have jI:=F7 va v.cells off m9;obtain⟨va1,xr⟩:∃va1,va1=v.cells.zipIdx.foldl (fun cs (x:Value×Nat)=>cs.setIfInBounds (off+x.2) x.1) va:=⟨_,rfl⟩;rw[←xr]at jI;have iC:off+v.cells.toList.length≤va.toList.length:=by simpa using m9
    obtain⟨wF,hf,eQ,r1,r2,r3⟩:=xq (φ:=φ) (w:=w) (F:=F) place ps _ c _ ll vs va1 h hc
     (by rw[bN _ _ _ (by omega),←Array.length_toList,jI,bN _ _ _ iC];simpa using hl)
     (fun u hu=>by
      rw[←Array.mem_toList_iff,jI]at hu;rcases j8 iC hu with hu|hu
      ·exact h1 u (by simpa using hu)
      ·exact qy u (by simpa using hu))
     (fun i y u hy hu=>by
      rw[←Array.getElem?_toList,jI]at hu;exact rr (R:=fun x v=>aB φ w F x v) (by simpa using hl) (by simpa using pR.symm) (by omega) (fun i c v h h'=>hr i c v h (by simpa using h')) (fun i c v h h'=>bI.cells qy pR i c v h (by simpa using h')) i y u hy hu)
     (by simpa using dz) (fun i p v h h'=>hp (i+1) p v (by simpa using h) (by simpa using h'))
    refine⟨wF,?_,akD,r1,r2,r3⟩;simp only[Instr.fill,akC];rw[if_neg (by simp;omega)];rw[←hf,xr]
   ·cases h
def bu(P:Program)(t:TypeId):Option (List (Nat×Nat)):=
 match P.underlying t with
 |some (.struct fs)=>fs.toList.mapM fun f=>(P.info? f.type).map fun i=>(f.offset,i.size)
 |_=>none
theorem zI{P:Program}{w:World}:∀(fs:List Field)(l:List (Nat×Nat)),(fs.mapM fun f=>(P.info? f.type).map fun i=>(f.offset,i.size))=some l→
 (fs.mapM fun f=>(do pure (f.offset,←sizeOf f.type):Sem (Nat×Nat))).run P w=.ok l w
 |[],l,h=>by simp at h;subst h;simp
 |f::fs,l,h=>by
  simp only[List.mapM_cons]at h⊢;cases hi:P.info? f.type with
  |none=>simp[hi]at h
  |some i=>
   simp only[hi,Option.map_some,Option.pure_def,Option.bind_eq_bind,Option.bind_some]at h;cases hm:(fs.mapM fun f=>(P.info? f.type).map fun i=>(f.offset,i.size))with
   |none=>simp[hm]at h
   |some l'=>
    simp[hm]at h;subst h;have hs:(sizeOf f.type).run P w=.ok i.size w:=run_sizeOf (by simp[fe,hi]);have ih:=zI (P:=P) (w:=w) fs l' hm;simp only[Sem.run_bind,hs,Result.andThen_ok,Sem.run_pure,ih]
def buildR(P:Program)(t:TypeId)(ps:List (Nat×AV)):di:=
 match sw P t with
 |some zs=>match bu P t with
  |some l=>match fillA (fun i=>l[i]?) ps true zs with
   |some (c,cs)=>.val c (mkAgg cs)
   |none=>.no
  |none=>match tk P t with
   | .arr _ e=>match fe P e with
    |some sz=>match fillA (fun i=>some (i*sz,sz)) ps true zs with
     |some (c,cs)=>.val c (mkAgg cs)
     |none=>.no
    |none=>.no
   |_=>.no
 |none=>.no
theorem T0(P:Program)(S:St)(o:Oper)(t:TypeId)(ps:Array (Nat×Operand))(ho:o.op=.build t ps)(hx:∀x∈ps.toList,(S.opd x.2).1=true):
 aH P S o (buildR P t (ps.toList.map fun x=>(x.1,(S.opd x.2).2))):=by
 have parts:∀{φ G a w},Rel φ G S a w→∀(i:Nat)(p:Nat×AV)(v:Nat×Value),(ps.toList.map fun x=>(x.1,(S.opd x.2).2))[i]?=some p→(ps.toList.map fun x=>(x.1,a.eval x.2))[i]?=some v→p.1=v.1∧aB φ w (Fo G φ S.mem) p.2 v.2:=by
  intro φ G a w hr i p v h1 h2;simp only[List.getElem?_map,Option.map_eq_some_iff]at h1 h2;obtain⟨x,F8,rfl⟩:=h1;obtain⟨y,DO,rfl⟩:=h2;rw[F8]at DO;cases DO;exact⟨rfl,hr.opd _ (hx x (List.mem_of_getElem? F8))⟩
 unfold buildR;split
 ·rename_i zs hz;split
  ·rename_i l hl;split
   ·rename_i c cs hf;refine aH.px fun hc φ G a w hr=>?_;obtain⟨z,bL,bQ,h1,eh⟩:=nk hz w;obtain⟨wF,h2,_,h3,h4,h5⟩:=xq (φ:=φ) (w:=w) (F:=Fo G φ S.mem) _ _ _ _ _ _ (ps.toList.map fun x=>(x.1,a.eval x.2)) z.cells hf hc bQ.symm h1 (fun i x v h h'=>eh _ _ _ i x v h h') (by simp) (parts hr);unfold bu at hl;split at hl
    ·rename_i fs hu;have hm:=zI (P:=P) (w:=w) fs.toList l hl;refine⟨.agg wF,?_,?_⟩
     ·have hmA:(fs.mapM fun f=>(do pure (f.offset,←sizeOf f.type):Sem (Nat×Nat))).run P w=.ok l.toArray w:=by
       rw[Array.mapM_eq_mapM_toList];simp only[Sem.run_map,hm,Result.andThen_ok]
      simp only[execOp,ho,Instr.build,Sem.run_bind,bL,Result.andThen_ok,run_underlying hu,hmA];have e:(fun (i:Nat)=>l.toArray[i]?)=fun (i:Nat)=>l[i]?:=by funext i;simp
      have e2:(Array.map (fun x=>(x.1,a.eval x.2)) ps).toList=ps.toList.map fun x=>(x.1,a.eval x.2):=by simp
      rw[e,e2,h2];rfl
     ·have:=wY (φ:=φ) (w:=w) (F:=Fo G φ S.mem) (cs:=cs) (vs:=wF.toList) (by simpa using h3) (fun v hv=>h4 v (by simpa using hv)) (fun i c v h h'=>h5 i c v h (by simpa using h'));simpa using this
    ·cases hl
   ·trivial
  ·split
   ·rename_i n e ga;split
    ·rename_i sz hs;split
     ·rename_i c cs hf;refine aH.px fun hc φ G a w hr=>?_;obtain⟨z,bL,bQ,h1,eh⟩:=nk hz w;obtain⟨wF,h2,_,h3,h4,h5⟩:=xq (φ:=φ) (w:=w) (F:=Fo G φ S.mem) _ _ _ _ _ _ (ps.toList.map fun x=>(x.1,a.eval x.2)) z.cells hf hc bQ.symm h1 (fun i x v h h'=>eh _ _ _ i x v h h') (by simp) (parts hr);refine⟨.agg wF,?_,?_⟩
      ·simp only[execOp,ho,Instr.build,Sem.run_bind,bL,Result.andThen_ok,run_underlying (rF ga),run_sizeOf hs];have e2:(Array.map (fun x=>(x.1,a.eval x.2)) ps).toList=ps.toList.map fun x=>(x.1,a.eval x.2):=by simp
       rw[e2,h2];rfl
      ·have:=wY (φ:=φ) (w:=w) (F:=Fo G φ S.mem) (cs:=cs) (vs:=wF.toList) (by simpa using h3) (fun v hv=>h4 v (by simpa using hv)) (fun i c v h h'=>h5 i c v h (by simpa using h'));simpa using this
     ·trivial
    ·trivial
   ·trivial
 ·trivial
end Go.Am
end

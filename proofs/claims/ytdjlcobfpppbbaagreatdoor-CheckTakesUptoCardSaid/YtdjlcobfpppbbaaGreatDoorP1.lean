/-
  Texts of one proof, one behind the other.
-/
import Derived.SizedLaws
import Derived.Handed
import Derived.Shelf.Vars
import Derived.WalkKit
import Derived.Laws.Rows
import Derived.Laws.CopyRow
import Derived.Laws.StructEq
set_option linter.all false
section
namespace Go.Am
open Go
inductive D where
 |int (k:IntKind) (n:Int)
 |bool (b:Bool)
 |str (s:List UInt8)
 |list (xs:List D)
 |agg (cs:List D)
 |AI
def D.size:D→Nat
 | .agg cs=>cs.length
 |_=>1
def D.flat:D→Bool
 | .agg _=>false
 |_=>true
def cn:Value→Bool
 | .agg _=>false
 | .tuple _=>false
 |_=>true
theorem dQ {v:Value} (h:cn v=true):v.cells=#[v]:=by cases v<;>simp_all [cn,Value.cells]
inductive aH (w:World) (F:Nat→Prop):D→Value→Prop
 |int (k n):aH w F (.int k n) (.int k n)
 |bool (b):aH w F (.bool b) (.bool b)
 |AI (v:Value) (h:v=.nilIface∨∃t p,v=.iface t p):aH w F .AI v
 |str (b:ByteArray) (s:List UInt8) (h:b.data.toList=s):aH w F (.str s) (.string b)
 |agg (cs:List D) (a:Array Value) (hl:cs.length=a.size)
  (hf:∀d∈cs,d.flat=true) (hc:∀(i:Nat) (d:D) (v:Value),cs[i]?=some d→a[i]?=some v→aH w F d v):aH w F (.agg cs) (.agg a)
 |nil (a:Option Addr) (cap:Nat) (hn:a=none→cap=0):aH w F (.list []) (.slice a 0 cap)
 |list (xs:List D) (b off cap sz:Nat) (vs:Nat→Value) (di:xs.length≤cap) (hb:b<w.heap.size) (hF:¬F b) (bN:∀d∈xs,d.size=sz)
  (hv:∀(i:Nat) (d:D),xs[i]?=some d→aH w F d (vs i))
  (hc:∀(i j:Nat) (c:Value),i<xs.length→(vs i).cells[j]?=some c→w.cell? ⟨b,off+i*sz+j,none⟩=some c):
  aH w F (.list xs) (.slice (some ⟨b,off,none⟩) xs.length cap)
theorem aH.size {w F d v} (h:aH w F d v):v.cells.size=d.size:=by
 cases h
 case AI h=>rcases h with rfl|⟨t,p,rfl⟩<;>rfl
 all_goals simp_all [D.size,Value.cells]
theorem aH.one {w F d v} (h:aH w F d v) (hf:d.flat=true):cn v=true:=by
 cases h
 case AI h=>rcases h with rfl|⟨t,p,rfl⟩<;>rfl
 all_goals simp_all [D.flat,Am.cn]
theorem jL {w w':World} {b o:Nat} (h:w'.heap[b]?=w.heap[b]?):w'.cell? ⟨b,o,none⟩=w.cell? ⟨b,o,none⟩:=by
 simp[World.cell?,h]
theorem aH.mono {w w':World} {F F':Nat→Prop} {d v} (h:aH w F d v)
 (hk:∀b,b<w.heap.size→¬F b→w'.heap[b]?=w.heap[b]?) (hs:w.heap.size≤w'.heap.size) (hF:∀b,b<w.heap.size→F' b→F b):aH w' F' d v:=by
 induction h with
 |int k n=>exact .int k n
 |bool b=>exact .bool b
 |AI v h=>exact .AI v h
 |str b s h=>exact .str b s h
 |agg cs a hl hf _ ih=>exact .agg cs a hl hf ih
 |nil a cap hn=>exact .nil a cap hn
 |list xs b off cap sz vs di hb mq bN _ hc ih=>
  exact .list xs b off cap sz vs di (by omega) (fun h=>mq (hF b hb h)) bN ih (fun i j c hi hj=>by
   rw[jL (hk b hb mq)];exact hc i j c hi hj)
def bnB:Nat:=1000000
inductive AV where
 |aW
 |d (x:D)
 |agg (cs:List AV)
 |ptr (k aj off:Nat)
 |vec (k aj off len:Nat)
 |cG (k aj i j:Nat)
 |dG (x:D) (j:Nat)
 |fn (f:FuncId) (cap:List AV)
 |aU (vs:List AV)
 |gM (t:TypeId) (x:D)
 |lit (v:Value)
 |nn
 |err
structure Loc where
 aj:Nat
 dx:Nat
 sz:Nat
 cap:Nat
 base:Nat
 cM:List (Option Nat):=[]
abbrev bI:=Nat→Option Loc
inductive az (φ:bI) (w:World) (F:Nat→Prop):AV→Value→Prop
 |aW (v):az φ w F .aW v
 |d (x v) (h:aH w F x v):az φ w F (.d x) v
 |agg (cs:List AV) (a:Array Value) (hl:cs.length=a.size) (h1:∀v∈a,cn v=true) (hc:∀(i:Nat) (c:AV) (v:Value),cs[i]?=some c→a[i]?=some v→az φ w F c v):az φ w F (.agg cs) (.agg a)
 |ptr (k aj off:Nat) (v:Value) (L:Loc) (hL:φ k=some L) (hv:aj≤L.aj) (h:aj=L.aj→v=.pointer (some ⟨L.dx,off,none⟩)) (h1:cn v=true):az φ w F (.ptr k aj off) v
 |vec (k aj off len:Nat) (v:Value) (L:Loc) (hL:φ k=some L) (hv:aj≤L.aj)
  (h:aj=L.aj→∃a cap,v=.slice a len cap∧len≤cap∧(cap>0→a=some ⟨L.dx,L.base+off*L.sz,none⟩∧off+cap≤L.cap)) (h1:cn v=true):az φ w F (.vec k aj off len) v
 |cG (k aj i j:Nat) (v:Value) (L:Loc) (hL:φ k=some L) (hv:aj≤L.aj) (h:aj=L.aj→v=.pointer (some ⟨L.dx,L.base+i*L.sz+j,none⟩)) (h1:cn v=true):az φ w F (.cG k aj i j) v
 |dG (x:D) (j:Nat) (b off:Nat) (x':Value) (hb:b<w.heap.size) (hF:¬F b) (hx:aH w F x x')
  (hc:∀(i:Nat) (c:Value),x'.cells[i]?=some c→w.cell? ⟨b,off+i,none⟩=some c):az φ w F (.dG x j) (.pointer (some ⟨b,off+j,none⟩))
 |fn (f:FuncId) (cap:List AV) (a:Array Value) (hf:f<bnB) (hl:cap.length=a.size) (hc:∀(i:Nat) (c:AV) (v:Value),cap[i]?=some c→a[i]?=some v→az φ w F c v):az φ w F (.fn f cap) (.func (.func f) #[] a)
 |qu (f:FuncId) (cap:List AV) (a:Array Value) (hl:cap.length=a.size) (hc:∀(i:Nat) (c:AV) (v:Value),cap[i]?=some c→a[i]?=some v→az φ w F c v):az φ w F (.fn (f+bnB) cap) (.func (.func f) a #[])
 |aU (vs:List AV) (a:Array Value) (hl:vs.length=a.size) (hc:∀(i:Nat) (c:AV) (v:Value),vs[i]?=some c→a[i]?=some v→az φ w F c v):az φ w F (.aU vs) (.tuple a)
 |gM (t:TypeId) (x:D) (v:Value) (h:aH w F x v):az φ w F (.gM t x) (.iface t v)
 |lit (v) (h1:cn v=true):az φ w F (.lit v) v
 |nn (a:Addr) (cap:Nat):az φ w F .nn (.slice (some a) 0 cap)
 |err (t:TypeId) (v:Value):az φ w F .err (.iface t v)
def bI.le (φ φ':bI):Prop:=∀k L,φ k=some L→∃L',φ' k=some L'∧L.aj≤L'.aj∧(L'.aj=L.aj→L'={L with cM:=L'.cM})
theorem bI.le_refl (φ:bI):φ.le φ:=fun _ L h=>⟨L,h,Nat.le_refl _,fun _=>rfl⟩
theorem bI.le_trans {φ φ' mr:bI} (h:φ.le φ') (h':φ'.le mr):φ.le mr:=by
 intro k L hL;obtain⟨L1,h1,Ub,yM⟩:=h k L hL;obtain⟨L2,h2,rj,vJ⟩:=h' k L1 h1;refine⟨L2,h2,by omega,fun e=>?_⟩;have e1:L1.aj=L.aj:=by omega
 have h3:=yM e1;rw[h3]at vJ;exact vJ (by rw[e])
theorem az.mono {φ φ':bI} {w w':World} {F F':Nat→Prop} {x v} (h:az φ w F x v) (hφ:φ.le φ')
 (hk:∀b,b<w.heap.size→¬F b→w'.heap[b]?=w.heap[b]?) (hs:w.heap.size≤w'.heap.size) (hF:∀b,b<w.heap.size→F' b→F b):az φ' w' F' x v:=by
 induction h with
 |aW v=>exact .aW v
 |d x v h=>exact .d x v (h.mono hk hs hF)
 |agg cs a hl h1 _ ih=>exact .agg cs a hl h1 ih
 |ptr k aj off v L hL hv h h1=>
  obtain⟨L',bM,r5,he⟩:=hφ k L hL;exact .ptr k aj off v L' bM (by omega) (fun e=>by
   have e1:L'.aj=L.aj:=by omega
   have h3:=he e1;rw[h3];exact h (by rw[e,e1])) h1
 |vec k aj off len v L hL hv h h1=>
  obtain⟨L',bM,r5,he⟩:=hφ k L hL;exact .vec k aj off len v L' bM (by omega) (fun e=>by
   have e1:L'.aj=L.aj:=by omega
   have h3:=he e1;rw[h3];exact h (by rw[e,e1])) h1
 |cG k aj i j v L hL hv h h1=>
  obtain⟨L',bM,r5,he⟩:=hφ k L hL;exact .cG k aj i j v L' bM (by omega) (fun e=>by
   have e1:L'.aj=L.aj:=by omega
   have h3:=he e1;rw[h3];exact h (by rw[e,e1])) h1
 |dG x j b off x' hb mq hx hc=>
  exact .dG x j b off x' (by omega) (fun h=>mq (hF b hb h)) (hx.mono hk hs hF) (fun i c hi=>by rw[jL (hk b hb mq)];exact hc i c hi)
 |fn f cap a hf hl _ ih=>exact .fn f cap a hf hl ih
 |qu f cap a hl _ ih=>exact .qu f cap a hl ih
 |aU vs a hl _ ih=>exact .aU vs a hl ih
 |gM t x v h=>exact .gM t x v (h.mono hk hs hF)
 |lit v h1=>exact .lit v h1
 |nn a cap=>exact .nn a cap
 |err t v=>exact .err t v
inductive aD where
 |dead
 |box (cs:List AV)
 |vec (sz:Nat) (rows:List D)
 |vv (rows:List (List D)) (y:Option AV)
structure cJ where
 key:Nat
 aj:Nat
 cont:aD
abbrev Mem:=List cJ
def Mem.get:Mem→Nat→Option cJ
 |[],_=>none
 |e::r,k=>if e.key=k then some e else Mem.get r k
def Mem.set:Mem→cJ→Mem
 |[],_=>[]
 |e::r,x=>if e.key=x.key then x::r else e::Mem.set r x
theorem Mem.get_mem {m:Mem} {k e} (h:Mem.get m k=some e):e∈m∧e.key=k:=by
 induction m with
 |nil=>simp[Mem.get]at h
 |cons x r ih=>
  simp only[Mem.get]at h;split at h
  ·simp_all
  ·have:=ih h;simp_all
theorem Mem.get_of_mem {m:Mem} {e} (hn:(m.map (·.key)).Nodup) (h:e∈m):Mem.get m e.key=some e:=by
 induction m with
 |nil=>simp at h
 |cons x r ih=>
  simp only[List.map_cons,List.nodup_cons]at hn;simp only[Mem.get];rcases List.mem_cons.1 h with rfl|h
  ·simp
  ·have:x.key≠e.key:=fun he=>hn.1 (by rw[he];exact List.mem_map_of_mem h);simp[this,ih hn.2 h]
theorem Mem.gw (m:Mem) (x:cJ):(Mem.set m x).map (·.key)=m.map (·.key):=by
 induction m with
 |nil=>rfl
 |cons e r ih=>
  simp only[Mem.set];split
  ·simp_all
  ·simp[ih]
theorem Mem.mem_set {m:Mem} {x e:cJ} (hn:(m.map (·.key)).Nodup):e∈Mem.set m x↔(e=x∧x.key∈m.map (·.key))∨(e∈m∧e.key≠x.key):=by
 induction m with
 |nil=>simp[Mem.set]
 |cons y r ih=>
  simp only[List.map_cons,List.nodup_cons]at hn;simp only[Mem.set];split
  ·rename_i hy;constructor
   ·intro h;rcases List.mem_cons.1 h with rfl|h
    ·left;simp[hy]
    ·right;refine⟨by simp[h],fun he=>hn.1 ?_⟩;rw[hy,←he];exact List.mem_map_of_mem h
   ·rintro (⟨rfl,_⟩|⟨h,bE⟩)
    ·simp
    ·rcases List.mem_cons.1 h with rfl|h
     ·exact absurd hy bE
     ·simp[h]
  ·rename_i hy;simp only[List.mem_cons,ih hn.2,List.map_cons];constructor
   ·rintro (rfl|⟨rfl,h⟩|⟨h,bE⟩)
    ·right;exact⟨.inl rfl,hy⟩
    ·left;exact⟨rfl,.inr h⟩
    ·right;exact⟨.inr h,bE⟩
   ·rintro (⟨rfl,h⟩|⟨h,bE⟩)
    ·rcases h with h|h
     ·exact absurd h.symm hy
     ·right;left;exact⟨rfl,h⟩
    ·rcases h with rfl|h
     ·left;rfl
     ·right;right;exact⟨h,bE⟩
theorem Mem.nJ {m:Mem} {x:cJ} (h:x.key∈m.map (·.key)):Mem.get (Mem.set m x) x.key=some x:=by
 induction m with
 |nil=>simp at h
 |cons y r ih=>
  simp only[Mem.set];split
  ·simp[Mem.get]
  ·rename_i hy;simp only[Mem.get,hy,if_false];exact ih (by simp only[List.map_cons,List.mem_cons]at h;rcases h with h|h;exact absurd h.symm hy;exact h)
theorem Mem.nK {m:Mem} {x:cJ} {k:Nat} (h:x.key≠k):Mem.get (Mem.set m x) k=Mem.get m k:=by
 induction m with
 |nil=>rfl
 |cons y r ih=>
  simp only[Mem.set];split
  ·rename_i hy;have:y.key≠k:=by rw[hy];exact h
   simp[Mem.get,h,this]
  ·simp only[Mem.get,ih]
def aD.cN (L:Loc):aD→Nat→Prop
 | .dead,_=>False
 | .box _,b=>L.dx=b
 | .vec _ _,b=>0<L.cap∧L.dx=b
 | .vv _ _,b=>(0<L.cap∧L.dx=b)∨some b∈L.cM
def iy (φ:bI) (m:Mem) (b:Nat):Prop:=∃e∈m,∃L,φ e.key=some L∧e.cont.cN L b
structure Fr where
 g:Nat→Prop
 dv:List Deferred
instance:CoeFun Fr (fun _=>Nat→Prop):=⟨Fr.g⟩
def Fo (G:Fr) (φ:bI) (m:Mem) (b:Nat):Prop:=G b∨iy φ m b
def eR (w:World) (b:Nat) (arr:Array Value) (elem:TypeId):Prop:=∃fr:Nat×Nat,w.heap[b]?=some (.cells arr elem fr)∧(fr=(0,0)∨arr.size≤fr.1)
theorem eR.same {w w':World} {b:Nat} {arr:Array Value} {elem:TypeId} (h:eR w b arr elem) (hs:w'.heap[b]?=w.heap[b]?):eR w' b arr elem:=by
 obtain⟨fr,h1,h2⟩:=h;exact⟨fr,by rw[hs];exact h1,h2⟩
theorem eR.lt {w:World} {b:Nat} {arr:Array Value} {elem:TypeId} (h:eR w b arr elem):b<w.heap.size:=by
 obtain⟨fr,h1,h2⟩:=h;exact (Array.getElem?_eq_some_iff.1 h1).1
theorem eR.new {w:World} {b:Nat} {arr:Array Value} {elem:TypeId} (h:w.heap[b]?=some (.cells arr elem (0,0))):eR w b arr elem:=⟨(0,0),h,.inl rfl⟩
def v8 (w:World) (F:Nat→Prop) (v:Option Value) (xs:List D) (o:Option Nat):Prop:=
 match o with
 |none=>xs=[]∧∃a,v=some (.slice a 0 0)
 |some b=>∃(row:Array Value) (re:TypeId) (off cap:Nat),v=some (.slice (some ⟨b,off,none⟩) xs.length cap)∧0<cap∧xs.length≤cap∧off+cap≤row.size∧eR w b row re∧(∀u∈row,cn u=true)∧
  ∀(i:Nat) (d:D),xs[i]?=some d→d.size=1∧∃u,aH w F d u∧∀(j:Nat) (c:Value),u.cells[j]?=some c→row[off+i*1+j]?=some c
theorem v8.mono {w w':World} {F F':Nat→Prop} {v xs o} (h:v8 w F v xs o) (hd:∀d u,d∈xs→aH w F d u→aH w' F' d u)
 (fD:∀b,o=some b→w'.heap[b]?=w.heap[b]?):v8 w' F' v xs o:=by
 cases o with
 |none=>exact h
 |some b=>
  obtain⟨row,re,off,cap,h1,h2,h3,h4,h5,h6,h7⟩:=h;exact⟨row,re,off,cap,h1,h2,h3,h4,h5.same (fD b rfl),h6,fun j d hj=>let ⟨g1,u,g2,g3⟩:=h7 j d hj;⟨g1,u,hd d u (List.mem_of_getElem? hj) g2,g3⟩⟩
def jY (φ:bI) (w:World) (F:Nat→Prop) (L:Loc) (rows:List (List D)) (y:Option AV):Prop:=
 (L.sz=1∧rows.length+y.toList.length≤L.cap∧L.cM.length=rows.length)∧
  (∀(i j:Nat) (b:Nat),L.cM[i]?=some (some b)→L.cM[j]?=some (some b)→i=j)∧(∀b,some b∈L.cM→0<L.cap∧b≠L.dx)∧
  (0<L.cap→∃(arr:Array Value) (elem:TypeId),eR w L.dx arr elem∧arr.size=L.base+L.cap∧(∀v∈arr,cn v=true)∧
   (∀(i:Nat) (xs:List D) (o:Option Nat),rows[i]?=some xs→L.cM[i]?=some o→v8 w F arr[L.base+i]? xs o)∧
   ∀x,y=some x→∃v,arr[L.base+rows.length]?=some v∧az φ w F x v)
theorem jY.mono {φ φ':bI} {w w':World} {F F':Nat→Prop} {L rows y} (f:AV→AV) (h:jY φ w F L rows y)
 (hd:∀xs∈rows,∀d∈xs,∀u,aH w F d u→aH w' F' d u) (ha:∀x,y=some x→∀v,az φ w F x v→az φ' w' F' (f x) v)
 (fD:∀b,((0<L.cap∧L.dx=b)∨some b∈L.cM)→w'.heap[b]?=w.heap[b]?):jY φ' w' F' L rows (y.map f):=by
 obtain⟨h0,h1,h2,h⟩:=h;refine⟨by cases y<;>exact h0,h1,h2,fun hc=>?_⟩;obtain⟨arr,elem,g1,g2,g3,g4,g5⟩:=h hc;refine⟨arr,elem,g1.same (fD _ (.inl ⟨hc,rfl⟩)),g2,g3,fun i xs o hi ho=>(g4 i xs o hi ho).mono (fun d u hm=>hd xs (List.mem_of_getElem? hi) d hm u) (fun b e=>fD b (.inr (by subst e;exact List.mem_of_getElem? ho))),fun x hx=>?_⟩;cases y with
 |none=>cases hx
 |some z=>
  cases hx;obtain⟨v,q1,q2⟩:=g5 z rfl;exact⟨v,q1,ha z rfl v q2⟩
theorem jY.acB {φ φ':bI} {w w':World} {F F':Nat→Prop} {L rows y} (h:jY φ w F L rows y)
 (hd:∀xs∈rows,∀d∈xs,∀u,aH w F d u→aH w' F' d u) (ha:∀x,y=some x→∀v,az φ w F x v→az φ' w' F' x v)
 (fD:∀b,((0<L.cap∧L.dx=b)∨some b∈L.cM)→w'.heap[b]?=w.heap[b]?):jY φ' w' F' L rows y:=by
 have:=h.mono id hd ha fD;cases y<;>exact this
theorem jY.aj {φ w F L rows y} (h:jY φ w F L rows y) (v:Nat):jY φ w F {L with aj:=v} rows y:=h
def dR (φ:bI) (w:World) (F:Nat→Prop) (L:Loc):aD→Prop
 | .dead=>True
 | .box cs=>(L.sz=1∧L.base=0∧L.cap=cs.length)∧∃(arr:Array Value) (elem:TypeId),eR w L.dx arr elem∧arr.size=cs.length∧(∀v∈arr,cn v=true)∧
  ∀(i:Nat) (c:AV) (v:Value),cs[i]?=some c→arr[i]?=some v→az φ w F c v
 | .vec sz rows=>L.sz=sz∧rows.length≤L.cap∧(∀d∈rows,d.size=L.sz)∧(0<L.cap→∃(arr:Array Value) (elem:TypeId),eR w L.dx arr elem∧
  arr.size=L.base+L.cap*L.sz∧(∀v∈arr,cn v=true)∧
  ∀(i:Nat) (d:D),rows[i]?=some d→∃v,aH w F d v∧∀(j:Nat) (c:Value),v.cells[j]?=some c→arr[L.base+i*L.sz+j]?=some c)
 | .vv rows y=>jY φ w F L rows y
def Xh (φ:bI) (w:World) (F:Nat→Prop) (e:cJ):Prop:=∃L,φ e.key=some L∧L.aj=e.aj∧dR φ w F L e.cont
theorem dR.lt {φ w F L c b} (h:dR φ w F L c) (ho:c.cN L b):b<w.heap.size:=by
 cases c with
 |dead=>exact ho.elim
 |box cs=>obtain⟨_,arr,elem,h,_⟩:=h;have:L.dx=b:=ho;subst this;exact h.lt
 |vec sz rows=>obtain⟨hc,rfl⟩:=ho;obtain⟨_,_,_,h⟩:=h;obtain⟨arr,elem,h,_⟩:=h hc;exact h.lt
 |vv rows y=>
  obtain⟨⟨_,_,hl⟩,_,h3,h⟩:=h;rcases ho with ⟨hc,rfl⟩|ho
  ·obtain⟨arr,elem,h,_⟩:=h hc;exact h.lt
  ·obtain⟨i,hi⟩:=List.getElem?_of_mem ho;obtain⟨arr,elem,_,_,_,h5,_⟩:=h (h3 b ho).1;have cg:=(List.getElem?_eq_some_iff.1 hi).1;obtain⟨row,re,_,_,_,_,_,_,g,_⟩:=h5 i (rows[i]'(by omega)) (some b) (by simp[show i<rows.length by omega]) hi
   exact g.lt
theorem dR.mono {φ φ':bI} {w w':World} {F F':Nat→Prop} {L c} (h:dR φ w F L c) (hφ:φ.le φ')
 (hk:∀b,b<w.heap.size→¬F b→w'.heap[b]?=w.heap[b]?) (hs:w.heap.size≤w'.heap.size) (hF:∀b,b<w.heap.size→F' b→F b)
 (fD:∀b,c.cN L b→w'.heap[b]?=w.heap[b]?):dR φ' w' F' L c:=by
 cases c with
 |dead=>trivial
 |box cs=>
  obtain⟨h0,arr,elem,h1,h2,h3,h4⟩:=h;exact⟨h0,arr,elem,h1.same (fD _ rfl),h2,h3,fun i c v hc hv=>(h4 i c v hc hv).mono hφ hk hs hF⟩
 |vec sz rows=>
  obtain⟨pJ,h0,hz,h⟩:=h;refine⟨pJ,h0,hz,fun hc=>?_⟩;obtain⟨arr,elem,h1,h2,h3,h4⟩:=h hc;exact⟨arr,elem,h1.same (fD _ ⟨hc,rfl⟩),h2,h3,fun i d hd=>let ⟨v,hv,hj⟩:=h4 i d hd;⟨v,hv.mono hk hs hF,hj⟩⟩
 |vv rows y=>exact jY.acB h (fun _ _ _ _ u hu=>hu.mono hk hs hF) (fun x _ v hx=>hx.mono hφ hk hs hF) fD
structure bj (φ:bI) (G:Fr) (m:Mem) (w:World):Prop where
 nodup:(m.map (·.key)).Nodup
 oE:∀k L,φ k=some L→k∈m.map (·.key)
 eZ:∀e∈m,Xh φ w (Fo G φ m) e
 apart:∀e∈m,∀e'∈m,∀L L',φ e.key=some L→φ e'.key=some L'→(∃b,e.cont.cN L b∧e'.cont.cN L' b)→e.key=e'.key
 jZ:∀b,iy φ m b→¬G b
 bound:∀b,G b→b<w.heap.size
theorem bj.AJ {φ G m w} (h:bj φ G m w) {b} (hb:iy φ m b):b<w.heap.size:=by
 obtain⟨e,he,L,hL,ho⟩:=hb;obtain⟨L',bM,_,hc⟩:=h.eZ e he;rw[hL]at bM;cases bM;exact hc.lt ho
structure aQ (φ:bI) (m:Mem) (w:World) (φ':bI) (m':Mem) (w':World):Prop where
 le:φ.le φ'
 wa:∀b,b<w.heap.size→¬iy φ m b→w'.heap[b]?=w.heap[b]?
 own:∀b,b<w.heap.size→iy φ' m' b→iy φ m b
 size:w.heap.size≤w'.heap.size
 os:w'.os=w.os
 tape:w'.tape=w.tape
 output:w'.output=w.output
theorem aQ.refl (φ m w):aQ φ m w φ m w:=⟨bI.le_refl _,fun _ _ _=>rfl,fun _ _ h=>h,Nat.le_refl _,rfl,rfl,rfl⟩
theorem aQ.trans {φ m w φ1 m1 w1 φ2 m2 w2} (h:aQ φ m w φ1 m1 w1) (k:aQ φ1 m1 w1 φ2 m2 w2):aQ φ m w φ2 m2 w2 where
 le:=bI.le_trans h.le k.le
 wa:=fun b hb hn=>by
  rw[k.wa b (Nat.lt_of_lt_of_le hb h.size) (fun h1=>hn (h.own b hb h1)),h.wa b hb hn]
 own:=fun b hb hn=>h.own b hb (k.own b (Nat.lt_of_lt_of_le hb h.size) hn)
 size:=Nat.le_trans h.size k.size
 os:=k.os.trans h.os
 tape:=k.tape.trans h.tape
 output:=k.output.trans h.output
theorem aQ.av {φ m w φ' m' w' G} (h:aQ φ m w φ' m' w') {x v} (hx:az φ w (Fo G φ m) x v):az φ' w' (Fo G φ' m') x v:=
 hx.mono h.le (fun b hb hn=>h.wa b hb (fun ho=>hn (.inr ho))) h.size (fun b hb=>Or.imp id (h.own b hb))
theorem bj.cW {φ G m w w'} (h:bj φ G m w) {e e':cJ} (he:e∈m) {L L':Loc} (hL:φ e.key=some L) (iZ:e'.key=e.key)
 (aw:L.aj≤L'.aj) (K3:L'.aj=L.aj→L'={L with cM:=L'.cM})
 (hv:L'.aj=e'.aj)
 (hold:∀b,b<w.heap.size→¬e.cont.cN L b→w'.heap[b]?=w.heap[b]?) (hs:w.heap.size≤w'.heap.size)
 (mB:∀b,e'.cont.cN L' b→e.cont.cN L b∨w.heap.size≤b)
 (pK:w'.os=w.os) (acC:w'.tape=w.tape) (fj:w'.output=w.output)
 (hc:∀φ':bI,φ'=(fun k=>if k=e.key then some L' else φ k)→φ.le φ'→dR φ' w' (Fo G φ' (Mem.set m e')) L' e'.cont):
 ∃φ',bj φ' G (Mem.set m e') w'∧aQ φ m w φ' (Mem.set m e') w'∧φ' e.key=some L'∧∀k,k≠e.key→φ' k=φ k:=by
 have hle:φ.le (fun k=>if k=e.key then some L' else φ k):=by
  intro k L0 h0;by_cases hk:k=e.key
  ·subst hk;rw[hL]at h0;cases h0;exact⟨L',by simp,aw,K3⟩
  ·exact⟨L0,by simp[hk,h0],Nat.le_refl _,fun _=>rfl⟩
 have arG:e'.key∈m.map (·.key):=by rw[iZ];exact List.mem_map_of_mem he
 have tM:∀x∈m,x.key≠e.key→∀Lx,φ x.key=some Lx→∀b,x.cont.cN Lx b→e.cont.cN L b→False:=
  fun x hx bE Lx eo b iz AK=>bE (h.apart x hx e he Lx L eo hL ⟨b,iz,AK⟩)
 have EH:∀b,b<w.heap.size→iy (fun k=>if k=e.key then some L' else φ k) (Mem.set m e') b→iy φ m b:=by
  rintro b hb ⟨x,hx,Lx,eo,iz⟩;rcases (Mem.mem_set h.nodup).1 hx with ⟨rfl,_⟩|⟨gr,bE⟩
  ·simp[iZ]at eo;subst eo;rcases mB b iz with AK|wb
   ·exact⟨e,he,L,hL,AK⟩
   ·omega
  ·rw[iZ]at bE;simp[bE]at eo;exact⟨x,gr,Lx,eo,iz⟩
 have Uc:∀b,b<w.heap.size→¬iy φ m b→w'.heap[b]?=w.heap[b]?:=fun b hb hn=>
  hold b hb fun ho=>hn ⟨e,he,L,hL,ho⟩
 refine⟨_,⟨by rw[Mem.gw];exact h.nodup,?_,?_,?_,?_,?_⟩,⟨hle,Uc,EH,hs,pK,acC,fj⟩,by simp,fun k hk=>by simp[hk]⟩
 ·intro k L0 h0;rw[Mem.gw];by_cases hk:k=e.key
  ·subst hk;exact List.mem_map_of_mem he
  ·simp[hk]at h0;exact h.oE k L0 h0
 ·intro x hx;rcases (Mem.mem_set h.nodup).1 hx with ⟨rfl,_⟩|⟨gr,bE⟩
  ·exact⟨L',by simp[iZ],hv,hc _ rfl hle⟩
  ·rw[iZ]at bE;obtain⟨Lx,eo,hvx,oF⟩:=h.eZ x gr;refine⟨Lx,by simp[bE,eo],hvx,oF.mono hle (fun b hb hn=>Uc b hb (fun ho=>hn (.inr ho))) hs (fun b hb=>Or.imp id (EH b hb)) (fun b iz=>?_)⟩;exact hold _ (oF.lt iz) (fun AK=>tM x gr bE Lx eo b iz AK)
 ·rintro x hx y hy Lx Ly eo dA ⟨b,iz,gN⟩;rcases (Mem.mem_set h.nodup).1 hx with ⟨rfl,_⟩|⟨gr,EI⟩<;>rcases (Mem.mem_set h.nodup).1 hy with ⟨rfl,_⟩|⟨yN,EJ⟩
  ·rfl
  ·rw[iZ]at EJ;simp[iZ]at eo;subst eo;simp[EJ]at dA;obtain⟨Ly',Xi,_,kL⟩:=h.eZ y yN;rw[dA]at Xi;cases Xi;rcases mB b iz with AK|wb
   ·exact (tM y yN EJ Ly dA b gN AK).elim
   ·have:=kL.lt gN;omega
  ·rw[iZ]at EI;simp[iZ]at dA;subst dA;simp[EI]at eo;obtain⟨Lx',K4,_,oF⟩:=h.eZ x gr;rw[eo]at K4;cases K4;rcases mB b gN with AK|wb
   ·exact (tM x gr EI Lx eo b iz AK).elim
   ·have:=oF.lt iz;omega
  ·rw[iZ]at EI EJ;simp[EI]at eo;simp[EJ]at dA;exact h.apart x gr y yN Lx Ly eo dA ⟨b,iz,gN⟩
 ·intro b hb hG;exact h.jZ b (EH b (h.bound b hG) hb) hG
 ·intro b hG;exact Nat.lt_of_lt_of_le (h.bound b hG) hs
theorem bj.grow {φ G m w w'} (h:bj φ G m w) (hold:∀b,b<w.heap.size→w'.heap[b]?=w.heap[b]?) (hs:w.heap.size≤w'.heap.size):bj φ G m w' where
 nodup:=h.nodup
 oE:=h.oE
 eZ:=fun e he=>by
  obtain⟨L,hL,hv,hc⟩:=h.eZ e he;exact⟨L,hL,hv,hc.mono (bI.le_refl _) (fun b hb _=>hold b hb) hs (fun _ _ h=>h) (fun b ho=>hold _ (hc.lt ho))⟩
 apart:=h.apart
 jZ:=h.jZ
 bound:=fun b hG=>Nat.lt_of_lt_of_le (h.bound b hG) hs
theorem aQ.grow {φ m w w'} (hold:∀b,b<w.heap.size→w'.heap[b]?=w.heap[b]?) (hs:w.heap.size≤w'.heap.size) (pK:w'.os=w.os) (ht:w'.tape=w.tape) (ho:w'.output=w.output):aQ φ m w φ m w':=
 ⟨bI.le_refl _,fun b hb _=>hold b hb,fun _ _ h=>h,hs,pK,ht,ho⟩
abbrev Env:=List (Nat×Bool×AV)
def Env.lk:Env→Nat→Option (Bool×AV)
 |[],_=>none
 |(t,x)::r,u=>if t=u then some x else Env.lk r u
structure St where
 n:Nat
 gl:List (Nat×D)
 env:Env
 mem:Mem
def eI (w:World) (F:Nat→Prop) (gl:List (Nat×D)):Prop:=
 ∀x∈gl,(x.1<w.heap.size∧∀cs,x.2=.agg cs→∃cur e fz,w.heap[x.1]?=some (.cells cur e fz)∧cur.size=cs.length)∧¬F x.1∧∃x',aH w F x.2 x'∧∀(i:Nat) (c:Value),x'.cells[i]?=some c→w.cell? ⟨x.1,i,none⟩=some c
theorem eI.mono {w w':World} {F F':Nat→Prop} {gl} (h:eI w F gl) (hk:∀b,b<w.heap.size→¬F b→w'.heap[b]?=w.heap[b]?) (hs:w.heap.size≤w'.heap.size)
 (hF:∀b,b<w.heap.size→F' b→F b):eI w' F' gl:=fun x hx=>by
 obtain⟨⟨h1,h0⟩,h2,x',h3,h4⟩:=h x hx;exact⟨⟨by omega,by rw[hk _ h1 h2];exact h0⟩,fun hf=>h2 (hF _ h1 hf),x',h3.mono hk hs hF,fun i c hc=>by rw[jL (hk _ h1 h2)];exact h4 i c hc⟩
theorem aQ.j0 {φ m w φ' m' w' G gl} (h:aQ φ m w φ' m' w') (hx:eI w (Fo G φ m) gl):eI w' (Fo G φ' m') gl:=
 hx.mono (fun b hb hn=>h.wa b hb (fun ho=>hn (.inr ho))) h.size (fun b hb=>Or.imp id (h.own b hb))
structure Rel (φ:bI) (G:Fr) (S:St) (a:Act) (w:World):Prop where
 size:a.tmps.size=S.n
 defers:a.defers=G.dv
 env:∀t x,Env.lk S.env t=some (true,x)→az φ w (Fo G φ S.mem) x (a.tmps.getD t undef)
 mem:bj φ G S.mem w
 j0:eI w (Fo G φ S.mem) S.gl
def St.put (S:St) (d:Option Nat) (g:Bool) (x:AV):St:=
 match d with
 |some d=>{S with env:=(d,g,x)::S.env}
 |none=>S
theorem Rel.put {φ G S a w} (h:Rel φ G S a w) (d:Option Nat) (hd:∀t,d=some t→t<S.n) (g:Bool) (x:AV) (v:Value)
 (hx:g=true→az φ w (Fo G φ S.mem) x v):Rel φ G (S.put d g x) (a.put d v) w:=by
 cases d with
 |none=>exact h
 |some d=>
  have hd:=hd d rfl;refine⟨by simp[Act.put,St.put,h.size],by simp[Act.put,h.defers],?_,h.mem,h.j0⟩;intro t y hy;simp only[St.put,Env.lk]at hy;by_cases ht:d=t
  ·subst ht;simp only[if_true,Option.some.injEq,Prod.mk.injEq]at hy;obtain⟨rfl,rfl⟩:=hy;have:d<a.tmps.size:=by rw[h.size];exact hd
   have e:(a.put (some d) v).tmps.getD d undef=v:=by simp[Act.put,this]
   rw[e];exact hx rfl
  ·simp only[ht,if_false]at hy;have e:(a.put (some d) v).tmps.getD t undef=a.tmps.getD t undef:=by simp[Act.put,ht]
   rw[e];exact h.env t y hy
theorem Rel.wc {φ G S a w φ' m' w'} (h:Rel φ G S a w) (hm:bj φ' G m' w') (hk:aQ φ S.mem w φ' m' w'):Rel φ' G {S with mem:=m'} a w':=
 ⟨h.size,h.defers,fun t x hx=>hk.av (h.env t x hx),hm,hk.j0 h.j0⟩
theorem m7 {v:Value} (h:cn v=true):v.oneCell'=true:=by cases v<;>simp_all [cn,Value.oneCell']
inductive TK where
 |int (k:IntKind)
 |bool
 |str
 |slice (e:TypeId)
 |arr (n:Nat) (e:TypeId)
 |struct
 |iface
 |ptr (e:TypeId)
 |func
 |other
 deriving DecidableEq
def tk (P:Program) (t:TypeId):TK:=
 match P.underlying t with
 |some (.int k)=>.int k
 |some .bool=>.bool
 |some .string=>.str
 |some (.slice e)=>.slice e
 |some (.array n e)=>.arr n e
 |some (.struct _)=>.struct
 |some (.interface _)=>.iface
 |some (.pointer e)=>.ptr e
 |some (.func _ _ _)=>.func
 |_=>.other
def fm (P:Program) (t:TypeId):Option Nat:=(P.info? t).map (·.size)
def uE (P:Program) (s:TypeId) (f:Nat):Option Nat:=
 match P.underlying s with
 |some (.struct fs)=>match fs[f]? with
  |some fl=>match P.info? fl.type with
   |some i=>if i.size=0 then none else some fl.offset
   |none=>none
  |none=>none
 |_=>none
def TK.agg:TK→Bool
 | .arr _ _=>true
 | .struct=>true
 |_=>false
theorem pL {P:Program} {t:TypeId} {w:World} (h:tk P t≠.other):(isAgg t).run P w=.ok (tk P t).agg w:=by
 unfold isAgg;cases hu:P.underlying t with
 |none=>simp[tk,hu]at h
 |some d=>
  rw[Sem.run_bind,run_underlying hu];cases d<;>simp_all [tk,TK.agg]
theorem run_sizeOf {P:Program} {t:TypeId} {n:Nat} {w:World} (h:fm P t=some n):(sizeOf t).run P w=.ok n w:=by
 unfold fm at h;cases hi:P.info? t with
 |none=>simp[hi]at h
 |some i=>simp[hi]at h;simp[sizeOf,typeInfo,hi,h]
theorem fo (b o j:Nat):(⟨b,o,none⟩:Addr).add j=⟨b,o+j,none⟩:=by unfold Addr.add;split<;>simp_all
theorem r6 {P:Program} {t:TypeId} {w:World} {a:Addr} {v:Value} (ha:(tk P t).agg=false) (ho:tk P t≠.other) (hc:w.cell? a=some v):
 (Instr.loadAt t (.pointer (some a))).run P w=.ok v w:=by
 simp[Instr.loadAt,Instr.sureAddr,loadVar,Sem.run_bind,pL ho,ha,load,Sem.run,hc]
theorem r9 {P:Program} {t:TypeId} {w:World} {b o:Nat} {vs:List Value} (ha:(tk P t).agg=true) (hs:fm P t=some vs.length)
 (hc:∀j v,vs[j]?=some v→w.cell? ⟨b,o+j,none⟩=some v):
 (Instr.loadAt t (.pointer (some ⟨b,o,none⟩))).run P w=.ok (.agg vs.toArray) w:=by
 have ho:tk P t≠.other:=by intro h;rw[h]at ha;cases ha
 have hl:=run_loadCells_list (P:=P) w ⟨b,o,none⟩ vs (fun j v h=>by rw[fo];exact hc j v h);simp[Instr.loadAt,Instr.sureAddr,loadVar,Sem.run_bind,pL ho,ha,run_sizeOf hs,hl]
theorem jv {P:Program} (g o:Nat) (t:TypeId) (fz:Nat×Nat):∀(vs:List Value) (i:Nat) (cur:Array Value) (w:World),w.heap[g]?=some (.cells cur t fz)→(fz=(0,0)∨cur.size≤fz.1)→o+i+vs.length≤cur.size→(∀v∈vs,v.oneCell'=true)→
 (storeCells ⟨g,o,none⟩ vs i).run P w=.ok () (w.setRow g (cur.toList.take (o+i)++vs++cur.toList.drop (o+i+vs.length)).toArray)
 |[],i,cur,w,hg,_,_,_=>by
  simp only[storeCells,List.append_nil,List.length_nil,Nat.add_zero,List.take_append_drop,Array.toArray_toList];rw[setRow_self w g cur t fz hg];rfl
 |v::rest,i,cur,w,hg,AL,hl,h1=>by
  have hi:o+i<cur.size:=by simp at hl;omega
  have ahy:(⟨g,o,none⟩:Addr).add i=⟨g,o+i,none⟩:=by unfold Addr.add;split<;>simp_all
  have nL:w.cell? ⟨g,o+i,none⟩=some cur[o+i]:=by simp[World.cell?,hg,hi]
  have ahz:w.frozen? ⟨g,o+i,none⟩=false:=by
   obtain⟨lo,lG⟩:=fz;simp only[World.frozen?,hg,Bool.and_eq_false_iff,decide_eq_false_iff_not];rcases AL with h|h
   ·cases h;omega
   ·simp only at h;omega
  have eB:(store ((⟨g,o,none⟩:Addr).add i) v).run P w=.ok () (w.setRow g (cur.setIfInBounds (o+i) v)):=by
   rw[ahy,run_store P w _ v _ (h1 v (by simp)),nL];simp[ahz,setCell_eq_setRow w g (o+i) cur t fz v hg]
  have ih:=jv (P:=P) g o t fz rest (i+1) (cur.setIfInBounds (o+i) v) (w.setRow g (cur.setIfInBounds (o+i) v)) (setRow_heap w g cur _ t _ hg) (by simpa using AL) (by simp at hl⊢;omega) (fun x hx=>h1 x (by simp[hx]));simp only[storeCells,Sem.run_bind,eB,Result.andThen_ok,ih,setRow_setRow];congr 3;have e:=list_seg_step cur.toList (o+i) v rest (by simp at hl⊢;omega);simpa [Array.toList_setIfInBounds,Nat.add_assoc]using e
theorem HY {P:Program} {t:TypeId} {w:World} {b o:Nat} {arr:Array Value} {elem:TypeId} {v:Value} (hs:fm P t=some v.cells.size)
 (hg:eR w b arr elem) (hl:o+v.cells.size≤arr.size) (h1:∀x∈v.cells,cn x=true):
 (Instr.storeAt t (.pointer (some ⟨b,o,none⟩)) v).run P w=.ok () (w.setRow b (arr.toList.take o++v.cells.toList++arr.toList.drop (o+v.cells.size)).toArray):=by
 obtain⟨fz,hg,AL⟩:=hg;have h:=jv (P:=P) b o elem fz v.cells.toList 0 arr w hg AL (by simpa using hl) (fun x hx=>m7 (h1 x (by simpa using hx)));simp only[Nat.add_zero,Array.length_toList]at h;simp[Instr.storeAt,Instr.sureAddr,storeVar,Sem.run_bind,run_sizeOf hs,h]
def D.cells:D→List D
 | .agg cs=>cs
 |x=>[x]
def D.at (xs:List D) (i:Nat):D:=xs[i]?.getD (.bool false)
def D.cell (x:D) (j:Nat):D:=x.cells[j]?.getD (.bool false)
def toD1:AV→Option D
 | .d x=>some x
 | .lit (.slice none 0 0)=>some (.list [])
 | .nn=>some (.list [])
 |_=>none
def gp:List AV→Option (List D)
 |[]=>some []
 |x::r=>match x,gp r with
  | .d y,some ys=>some (y::ys)
  |_,_=>none
def toDsN:List AV→Option (List D)
 |[]=>some []
 |x::r=>match toD1 x,toDsN r with
  |some y,some ys=>some (y::ys)
  |_,_=>none
def mkAgg (cs:List AV):AV:=match gp cs with|some ds=>.d (.agg ds)|none=>.agg cs
def AV.norm:AV→AV
 | .agg cs=>match toDsN cs with|some ds=>.d (.agg ds)|none=>.agg cs
 | .lit (.slice none 0 0)=>.d (.list [])
 | .nn=>.d (.list [])
 |x=>x
def AV.cells:AV→List AV
 | .agg cs=>cs
 | .d (.agg ds)=>ds.map .d
 |x=>[x]
theorem D.fU (x:D):x.cells.length=x.size:=by cases x<;>rfl
theorem K5 {w:World} {F:Nat→Prop} {x:D} {v:Value} (hf:x.flat=true) (h:aH w F x v) (hx:x.cells=[x]) (hv:v.cells=#[v]):
 v.cells.toList.length=x.cells.length∧(∀u∈v.cells,cn u=true)∧∀(i:Nat) (c:D) (u:Value),x.cells[i]?=some c→v.cells[i]?=some u→aH w F c u∧c.flat=true:=by
 rw[hx,hv];refine⟨rfl,fun u hu=>by simp at hu;subst hu;exact h.one hf,fun i c u h1 h2=>?_⟩;cases i with
 |zero=>simp at h1 h2;subst h1;subst h2;exact⟨h,hf⟩
 |succ i=>simp at h1
theorem aH.cells {w F x v} (h:aH w F x v):v.cells.toList.length=x.cells.length∧(∀u∈v.cells,cn u=true)∧∀(i:Nat) (c:D) (u:Value),x.cells[i]?=some c→v.cells[i]?=some u→aH w F c u∧c.flat=true:=by
 cases hd:x with
 |agg cs=>
  subst hd;cases h with
  |agg cs a hl hf hc=>
   refine⟨by simp[D.cells,Value.cells,hl],?_,fun i c u h1 h2=>⟨hc i c u h1 h2,hf c (List.mem_of_getElem? h1)⟩⟩;intro u hu;have hu:u∈a:=hu;obtain⟨i,hi,rfl⟩:=Array.mem_iff_getElem.1 hu;have lG:i<cs.length:=by rw[hl];exact hi
   exact (hc i cs[i] a[i] (by simp[lG]) (by simp[hi])).one (hf _ (List.getElem_mem lG))
 |_=>subst hd;exact K5 rfl h rfl (dQ (h.one rfl))
theorem aH.ni {w F} {cs:List D} {vs:List Value} (hl:cs.length=vs.length) (h1:∀v∈vs,cn v=true)
 (hc:∀(i:Nat) c v,cs[i]?=some c→vs[i]?=some v→aH w F c v):aH w F (.agg cs) (.agg vs.toArray):=by
 refine .agg cs vs.toArray (by simpa using hl) ?_ (fun i d v h h'=>hc i d v h (by simpa using h'));intro d hd;obtain⟨i,hi,rfl⟩:=List.mem_iff_getElem.1 hd;have lG:i<vs.length:=by omega
 have h3:=hc i cs[i] vs[i] (by simp[hi]) (by simp[lG]);have h2:=h1 vs[i] (List.getElem_mem lG);revert h3 h2
 generalize vs[i]=v;generalize cs[i]=c;intro h3 h2;cases h3<;>simp_all [D.flat,cn]
theorem zF {φ w F}:∀{cs:List AV} {ds:List D} {vs:List Value},gp cs=some ds→(∀(i:Nat) c v,cs[i]?=some c→vs[i]?=some v→az φ w F c v)→
 cs.length=ds.length∧∀(i:Nat) d v,ds[i]?=some d→vs[i]?=some v→aH w F d v
 |[],ds,vs,h,_=>by simp[gp]at h;subst h;simp
 |x::r,ds,vs,h,hc=>by
  simp only[gp]at h;split at h<;>simp at h;rename_i y ys hy;subst h;cases vs with
  |nil=>
   have ih:=zF (φ:=φ) (w:=w) (F:=F) (vs:=[]) hy (fun i c v _ h2=>by simp at h2);exact⟨by simp[ih.1],fun i d v _ h2=>by simp at h2⟩
  |cons v0 vs=>
   have ih:=zF (vs:=vs) hy (fun i c v h1 h2=>hc (i+1) c v (by simpa using h1) (by simpa using h2));refine⟨by simp[ih.1],fun i d v h1 h2=>?_⟩;cases i with
   |zero=>
    simp at h1 h2;subst h1;subst h2;have:=hc 0 (.d y) v0 (by simp) (by simp);cases this with|d _ _ h=>exact h
   |succ i=>exact ih.2 i d v (by simpa using h1) (by simpa using h2)
theorem EK {φ w F x d v} (h:toD1 x=some d) (hx:az φ w F x v):aH w F d v:=by
 unfold toD1 at h;split at h<;>simp at h
 ·subst h;cases hx with|d _ _ h=>exact h
 ·subst h;cases hx;exact .nil none 0 fun _=>rfl
 ·subst h;cases hx;exact .nil _ _ (by simp)
theorem sc {φ w F}:∀{cs:List AV} {ds:List D} {vs:List Value},toDsN cs=some ds→(∀(i:Nat) c v,cs[i]?=some c→vs[i]?=some v→az φ w F c v)→
 cs.length=ds.length∧∀(i:Nat) d v,ds[i]?=some d→vs[i]?=some v→aH w F d v
 |[],ds,vs,h,_=>by simp[toDsN]at h;subst h;simp
 |x::r,ds,vs,h,hc=>by
  simp only[toDsN]at h;split at h<;>simp at h;rename_i y ys hx hy;subst h;cases vs with
  |nil=>
   have ih:=sc (φ:=φ) (w:=w) (F:=F) (vs:=[]) hy (fun i c v _ h2=>by simp at h2);exact⟨by simp[ih.1],fun i d v _ h2=>by simp at h2⟩
  |cons v0 vs=>
   have ih:=sc (vs:=vs) hy (fun i c v h1 h2=>hc (i+1) c v (by simpa using h1) (by simpa using h2));refine⟨by simp[ih.1],fun i d v h1 h2=>?_⟩;cases i with
   |zero=>
    simp at h1 h2;subst h1;subst h2;exact EK hx (hc 0 x v0 (by simp) (by simp))
   |succ i=>exact ih.2 i d v (by simpa using h1) (by simpa using h2)
theorem we {φ w F} {cs:List AV} {vs:List Value} (hl:cs.length=vs.length) (h1:∀v∈vs,cn v=true)
 (hc:∀(i:Nat) c v,cs[i]?=some c→vs[i]?=some v→az φ w F c v):az φ w F (mkAgg cs) (.agg vs.toArray):=by
 unfold mkAgg;split
 ·rename_i ds ll;have:=zF ll hc;exact .d _ _ (.ni (by omega) h1 this.2)
 ·exact .agg cs vs.toArray (by simpa using hl) (fun v hv=>h1 v (by simpa using hv)) (fun i c v h h'=>hc i c v h (by simpa using h'))
theorem az.norm {φ w F x v} (h:az φ w F x v):az φ w F x.norm v:=by
 unfold AV.norm;split
 ·rename_i cs;split
  ·rename_i ds ll;cases h with
   |agg _ a hl h1 hc=>
    have:=sc (vs:=a.toList) ll (fun i c v h h'=>hc i c v h (by simpa using h'));have h2:=aH.ni (w:=w) (F:=F) (cs:=ds) (vs:=a.toList) (by simp;omega) (fun v hv=>h1 v (by simpa using hv)) this.2;rw[Array.toArray_toList]at h2;exact .d _ _ h2
  ·exact h
 ·cases h;exact .d _ _ (.nil none 0 fun _=>rfl)
 ·cases h;exact .d _ _ (.nil _ _ (by simp))
 ·exact h
theorem az.cells {φ w F x v} (h:az φ w F x v) (h1:∀u∈v.cells,cn u=true) (hl:v.cells.size=x.cells.length):
 ∀(i:Nat) c u,x.cells[i]?=some c→v.cells[i]?=some u→az φ w F c u:=by
 cases h with
 |agg cs a hl h1 hc=>exact fun i c u dN hu=>hc i c u dN hu
 |d x v h=>
  intro i c u dN hu;have:=h.cells;cases x with
  |agg cs=>
   simp only[AV.cells,List.getElem?_map,Option.map_eq_some_iff]at dN;obtain⟨y,hy,rfl⟩:=dN;exact .d _ _ (this.2.2 i y u hy hu).1
  |_=>
   simp only[AV.cells]at dN;cases i with
   |zero=>simp at dN;subst dN;exact .d _ _ (this.2.2 0 _ u rfl hu).1
   |succ i=>simp at dN
 |aW v=>
  intro i c u dN hu;cases i with
  |zero=>simp[AV.cells]at dN;subst dN;exact .aW _
  |succ i=>simp[AV.cells]at dN
 |ptr k aj off v L hL hv h h2=>
  intro i c u dN hu;rw[dQ h2]at hu;cases i with
  |zero=>simp[AV.cells]at dN hu;subst dN;subst hu;exact .ptr k aj off v L hL hv h h2
  |succ i=>simp[AV.cells]at dN
 |vec k aj off len v L hL hv h h2=>
  intro i c u dN hu;rw[dQ h2]at hu;cases i with
  |zero=>simp[AV.cells]at dN hu;subst dN;subst hu;exact .vec k aj off len v L hL hv h h2
  |succ i=>simp[AV.cells]at dN
 |cG k aj p j v L hL hv h h2=>
  intro i c u dN hu;rw[dQ h2]at hu;cases i with
  |zero=>simp[AV.cells]at dN hu;subst dN;subst hu;exact .cG k aj p j v L hL hv h h2
  |succ i=>simp[AV.cells]at dN
 |dG x j b off x' hb hF hx hc=>
  intro i c u dN hu;cases i with
  |zero=>simp[AV.cells,Value.cells]at dN hu;subst dN;subst hu;exact .dG x j b off x' hb hF hx hc
  |succ i=>simp[AV.cells]at dN
 |fn f cap a hf CT hc=>
  intro i c u dN hu;cases i with
  |zero=>simp[AV.cells,Value.cells]at dN hu;subst dN;subst hu;exact .fn f cap a hf CT hc
  |succ i=>simp[AV.cells]at dN
 |qu f cap a CT hc=>
  intro i c u dN hu;cases i with
  |zero=>simp[AV.cells,Value.cells]at dN hu;subst dN;subst hu;exact .qu f cap a CT hc
  |succ i=>simp[AV.cells]at dN
 |aU vs a hl hc=>
  have:=h1 (.tuple a) (by simp[Value.cells]);simp[cn]at this
 |gM t x v h=>
  intro i c u dN hu;cases i with
  |zero=>simp[AV.cells,Value.cells]at dN hu;subst dN;subst hu;exact .gM t x v h
  |succ i=>simp[AV.cells]at dN
 |lit v h2=>
  intro i c u dN hu;rw[dQ h2]at hu;cases i with
  |zero=>simp[AV.cells]at dN hu;subst dN;subst hu;exact .lit _ h2
  |succ i=>simp[AV.cells]at dN
 |nn a cap=>
  intro i c u dN hu;cases i with
  |zero=>simp[AV.cells,Value.cells]at dN hu;subst dN;subst hu;exact .nn a cap
  |succ i=>simp[AV.cells]at dN
 |err t v=>
  intro i c u dN hu;cases i with
  |zero=>simp[AV.cells,Value.cells]at dN hu;subst dN;subst hu;exact .err t v
  |succ i=>simp[AV.cells]at dN
def constAV:Value→AV
 | .int k n=>.d (.int k n)
 | .bool b=>.d (.bool b)
 | .string s=>.d (.str s.data.toList)
 | .agg _=>.aW
 | .tuple _=>.aW
 |v=>.lit v
theorem yO (φ w F v):az φ w F (constAV v) v:=by
 cases v<;>first|exact .d _ _ (.int _ _)|exact .d _ _ (.bool _)|exact .d _ _ (.str _ _ rfl)|exact .aW _|exact .lit _ rfl
def glk:List (Nat×D)→Nat→Option D
 |[],_=>none
 |(g,d)::r,k=>if g=k then some d else glk r k
theorem Iw:∀{l:List (Nat×D)} {g d},glk l g=some d→(g,d)∈l
 |[],g,d,h=>by simp[glk]at h
 |(g',d')::r,g,d,h=>by
  simp only[glk]at h;split at h
  ·rename_i hg;subst hg;cases h;simp
  ·have:=Iw h;simp[this]
def St.opd (S:St):Operand→Bool×AV
 | .tmp t=>(Env.lk S.env t).getD (true,.aW)
 | .const v=>(true,constAV v)
 | .global g=>match glk S.gl g with
  |some d=>(true,.dG d 0)
  |none=>(true,.lit (.pointer (some ⟨g,0,none⟩)))
 | .func f=>(decide (f<bnB),.fn f [])
theorem Rel.opd {φ G S a w} (h:Rel φ G S a w) (x:Operand) (hx:(S.opd x).1=true):az φ w (Fo G φ S.mem) (S.opd x).2 (a.eval x):=by
 cases x with
 |tmp t=>
  simp only[St.opd]at hx⊢;cases hl:Env.lk S.env t with
  |none=>exact .aW _
  |some y=>
   obtain⟨g,x⟩:=y;rw[hl]at hx;simp only[Option.getD_some]at hx⊢;subst hx;exact h.env t x hl
 |const v=>exact yO ..
 |global g=>
  simp only[St.opd]at hx⊢;split
  ·rename_i d hd;obtain⟨⟨h1,_⟩,h2,x',h3,h4⟩:=h.j0 _ (Iw hd);have e:a.eval (.global g)=.pointer (some ⟨g,0+0,none⟩):=rfl;rw[e];exact .dG d 0 g 0 x' h1 h2 h3 (fun i c hi=>by simpa using h4 i c hi)
  ·exact .lit _ rfl
 |func f=>exact .fn f [] #[] (by simpa [St.opd]using hx) rfl (by simp)
inductive dj where
 |no
 |val (c:Bool) (x:AV)
 |cW (c:Bool) (x:AV) (e:cJ)
def AM (P:Program) (o:Oper) (a:Act) (w:World) (v:Value) (w':World):Prop:=
 (execOp a.eval o).run P w=.ok (.value v) w'∨((execOp a.eval o).run P w=.ok .skip w'∧v=undef)
def aF (P:Program) (S:St) (o:Oper):dj→Prop
 | .no=>True
 | .val c x=>c=true→∀φ G a w,Rel φ G S a w→∃v w',AM P o a w v w'∧az φ w' (Fo G φ S.mem) x v∧
  (∀b,b<w.heap.size→w'.heap[b]?=w.heap[b]?)∧w.heap.size≤w'.heap.size∧w'.os=w.os∧w'.tape=w.tape∧w'.output=w.output
 | .cW c x e=>c=true→∀φ G a w,Rel φ G S a w→∃v w' φ',AM P o a w v w'∧az φ' w' (Fo G φ' (Mem.set S.mem e)) x v∧
  bj φ' G (Mem.set S.mem e) w'∧aQ φ S.mem w φ' (Mem.set S.mem e) w'∧∀k,k≠e.key→φ' k=φ k
theorem aF.pure {P S o x} {c:Prop} [Decidable c] (h:c→∀φ G a w,Rel φ G S a w→∃v,(execOp a.eval o).run P w=.ok (.value v) w∧az φ w (Fo G φ S.mem) x v):aF P S o (.val (decide c) x):=by
 intro hc φ G a w hr;obtain⟨v,h1,h2⟩:=h (of_decide_eq_true hc) φ G a w hr;exact⟨v,w,.inl h1,h2,fun _ _=>rfl,Nat.le_refl _,rfl,rfl,rfl⟩
theorem aF.ql {P S o x e} {c:Prop} [Decidable c] (h:c→∀φ G a w,Rel φ G S a w→∃v w' φ',AM P o a w v w'∧az φ' w' (Fo G φ' (Mem.set S.mem e)) x v∧
 bj φ' G (Mem.set S.mem e) w'∧aQ φ S.mem w φ' (Mem.set S.mem e) w'∧∀k,k≠e.key→φ' k=φ k):aF P S o (.cW (decide c) x e):=fun hc=>h (of_decide_eq_true hc)
theorem aF.ahA {P S o x} {c:Prop} [Decidable c] (h:c→∀φ G a w,Rel φ G S a w→∃v w',AM P o a w v w'∧az φ w' (Fo G φ S.mem) x v∧
 (∀b,b<w.heap.size→w'.heap[b]?=w.heap[b]?)∧w.heap.size≤w'.heap.size∧w'.os=w.os∧w'.tape=w.tape∧w'.output=w.output):aF P S o (.val (decide c) x):=fun hc=>h (of_decide_eq_true hc)
theorem aF.px {P S o x} {c:Bool} (h:c=true→∀φ G a w,Rel φ G S a w→∃v,(execOp a.eval o).run P w=.ok (.value v) w∧az φ w (Fo G φ S.mem) x v):aF P S o (.val c x):=by
 intro hc φ G a w hr;obtain⟨v,h1,h2⟩:=h hc φ G a w hr;exact⟨v,w,.inl h1,h2,fun _ _=>rfl,Nat.le_refl _,rfl,rfl,rfl⟩
def j6 (P:Program) (S:St) (o:Oper):dj→Prop
 | .no=>True
 | .val c x=>c=true→∀φ G a w,Rel φ G S a w→∃v,(execOp a.eval o).run P w=.ok (.value v) w∧az φ w (Fo G φ S.mem) x v
 | .cW _ _ _=>False
theorem j6.of {P S o x} {c:Prop} [Decidable c] (h:c→∀φ G a w,Rel φ G S a w→∃v,(execOp a.eval o).run P w=.ok (.value v) w∧az φ w (Fo G φ S.mem) x v):j6 P S o (.val (decide c) x):=fun hc=>h (of_decide_eq_true hc)
theorem j6.res {P S o r} (h:j6 P S o r):aF P S o r:=by
 cases r with
 |no=>trivial
 |val c x=>
  intro hc φ G a w hr;obtain⟨v,h1,h2⟩:=h hc φ G a w hr;exact⟨v,w,.inl h1,h2,fun _ _=>rfl,Nat.le_refl _,rfl,rfl,rfl⟩
 |cW c x e=>exact h.elim
def loadR (P:Program) (m:Mem) (t:TypeId) (p:AV):dj:=
 match p with
 | .ptr k aj off=>match Mem.get m k with
  |some ⟨_,v,.box cs⟩=>match (tk P t).agg with
   |true=>match fm P t with
    |some n=>.val (v=aj∧off+n≤cs.length) (mkAgg ((cs.drop off).take n))
    |none=>.no
   |false=>.val (v=aj∧tk P t≠.other∧off<cs.length) (cs[off]?.getD .aW)
  |_=>.no
 | .cG k aj i j=>match Mem.get m k with
  |some ⟨_,v,.vec sz rows⟩=>match (tk P t).agg with
   |true=>.val (v=aj∧i<rows.length∧fm P t=some sz∧j=0∧(D.at rows i).flat=false) (.d (D.at rows i))
   |false=>.val (v=aj∧tk P t≠.other∧i<rows.length∧j<sz) (.d (D.cell (D.at rows i) j))
  |some ⟨_,v,.vv rows (some y)⟩=>match (tk P t).agg with
   |true=>.no
   |false=>.val (v=aj∧tk P t≠.other∧i=rows.length∧j=0) y
  |_=>.no
 | .dG x j=>match (tk P t).agg with
  |true=>match j with
   |0=>.val (fm P t=some x.size∧x.flat=false) (.d x)
   |j=>match fm P t with
    |some n=>.val (j+n≤x.size) (.d (.agg ((x.cells.drop j).take n)))
    |none=>.no
  |false=>.val (tk P t≠.other∧j<x.size) (.d (x.cell j))
 |_=>.no
theorem bj.get {φ G m w} (h:bj φ G m w) {k e} (hg:Mem.get m k=some e):e∈m∧e.key=k∧∃L,φ k=some L∧L.aj=e.aj∧dR φ w (Fo G φ m) L e.cont:=by
 obtain⟨hm,hk⟩:=Mem.get_mem hg;obtain⟨L,h1,h2,h3⟩:=h.eZ e hm;rw[hk]at h1;exact⟨hm,hk,L,h1,h2,h3⟩
theorem az.pM {φ w F k aj off v L} (h:az φ w F (.ptr k aj off) v) (hL:φ k=some L) (hv:L.aj=aj):v=.pointer (some ⟨L.dx,off,none⟩):=by
 cases h with|ptr _ _ _ _ L' bM _ h _=>rw[hL]at bM;cases bM;exact h hv.symm
theorem az.j7 {φ w F k aj i j v L} (h:az φ w F (.cG k aj i j) v) (hL:φ k=some L) (hv:L.aj=aj):v=.pointer (some ⟨L.dx,L.base+i*L.sz+j,none⟩):=by
 cases h with|cG _ _ _ _ _ L' bM _ h _=>rw[hL]at bM;cases bM;exact h hv.symm
theorem CU {w:World} {b:Nat} {arr:Array Value} {e:TypeId} {fr} (h:w.heap[b]?=some (.cells arr e fr)) (o:Nat):w.cell? ⟨b,o,none⟩=arr[o]?:=by
 simp[World.cell?,h]
theorem gx {w:World} {b:Nat} {arr:Array Value} {e:TypeId} (h:eR w b arr e) (o:Nat):w.cell? ⟨b,o,none⟩=arr[o]?:=by
 obtain⟨fr,h,_⟩:=h;exact CU h o
theorem ju {xs:List D} {i:Nat} (h:i<xs.length):xs[i]?=some (D.at xs i):=by simp[D.at,h]
theorem s9 {w F x v} (h:aH w F x v) (hf:x.flat=false):∃arr,v=.agg arr:=by
 cases h<;>simp_all [D.flat]
theorem Ix (P:Program) (S:St) (o:Oper) (t:TypeId) (x:Operand) (ho:o.op=.load t x) (hx:(S.opd x).1=true):j6 P S o (loadR P S.mem t (S.opd x).2):=by
 have bB:∀(a:Act) (w:World) (v:Value),(Instr.loadAt t (a.eval x)).run P w=.ok v w→(execOp a.eval o).run P w=.ok (.value v) w:=by
  intro a w v h;simp[execOp,ho,h]
 unfold loadR;split
 ·rename_i k aj off hp;split
  ·rename_i key v cs hg;split
   ·rename_i j8;split
    ·rename_i n hn;refine j6.of ?_;rintro ⟨rfl,hle⟩ φ G a w hr;have hv:=hr.opd x hx;rw[hp]at hv;obtain⟨hm,hk,L,hL,aw,_,arr,elem,hh,bN,h1,ej⟩:=hr.mem.get hg;have e:=hv.pM hL aw;have hlen:((arr.toList.drop off).take n).length=n:=by simp;omega
     refine⟨.agg ((arr.toList.drop off).take n).toArray,bB a w _ ?_,?_⟩
     ·rw[e];refine r9 j8 (by rw[hlen];exact hn) (fun j v hj=>?_);rw[gx hh];rw[List.getElem?_take]at hj;split at hj
      ·simpa using hj
      ·cases hj
     ·refine we (by rw[hlen];simp;omega) (fun v hv=>h1 v ?_) (fun i c v hc hv=>?_)
      ·have:=List.mem_of_mem_take hv;simpa using List.mem_of_mem_drop this
      ·rw[List.getElem?_take]at hc hv;split at hc
       ·rename_i hi;simp only[hi,if_true]at hv;exact ej (off+i) c v (by simpa using hc) (by simpa using hv)
       ·cases hc
    ·trivial
   ·rename_i j8;refine j6.of ?_;rintro ⟨rfl,bE,cg⟩ φ G a w hr;have hv:=hr.opd x hx;rw[hp]at hv;obtain⟨hm,hk,L,hL,aw,_,arr,elem,hh,bN,h1,ej⟩:=hr.mem.get hg;have e:=hv.pM hL aw;have Xj:off<arr.size:=by omega
    refine⟨arr[off],bB a w _ ?_,ej off _ _ ?_ (by simp[Xj])⟩
    ·rw[e];exact r6 j8 bE (by rw[gx hh];simp[Xj])
    ·simp[cg]
  ·trivial
 ·rename_i k aj i j hp;split
  ·rename_i key v sz rows hg;split
   ·rename_i j8;refine j6.of ?_;rintro ⟨rfl,cg,jw,rfl,hf⟩ φ G a w hr;have hv:=hr.opd x hx;rw[hp]at hv;obtain⟨hm,hk,L,hL,aw,uF,di,nM,ja⟩:=hr.mem.get hg;have e:=hv.j7 hL aw;obtain⟨arr,elem,hh,bN,h1,ej⟩:=ja (by omega);obtain⟨u,hu,CV⟩:=ej i _ (ju cg);obtain⟨ua,rfl⟩:=s9 hu hf;refine⟨.agg ua,bB a w _ ?_,.d _ _ hu⟩;rw[e];have yP:ua.toList.length=sz:=by
     have h3:=hu.size;rw[nM _ (List.mem_of_getElem? (ju cg)),uF]at h3;simpa [Value.cells]using h3
    have:=r9 (P:=P) (t:=t) (w:=w) (b:=L.dx) (o:=L.base+i*L.sz+0) (vs:=ua.toList) j8 (by rw[yP];exact jw) (fun j v hj=>by
     rw[gx hh];exact CV j v (by simpa [Value.cells]using hj))
    simpa using this
   ·rename_i j8;refine j6.of ?_;rintro ⟨rfl,bE,cg,hj⟩ φ G a w hr;have hv:=hr.opd x hx;rw[hp]at hv;obtain⟨hm,hk,L,hL,aw,uF,di,nM,ja⟩:=hr.mem.get hg;have e:=hv.j7 hL aw;obtain⟨arr,elem,hh,bN,h1,ej⟩:=ja (by omega);obtain⟨u,hu,CV⟩:=ej i _ (ju cg);have yP:(D.at rows i).size=sz:=by rw[nM _ (List.mem_of_getElem? (ju cg)),uF]
    have oG:j<u.cells.size:=by rw[hu.size,yP];exact hj
    have Xk:j<(D.at rows i).cells.length:=by rw[D.fU,yP];exact hj
    refine⟨u.cells[j],bB a w _ ?_,.d _ _ (hu.cells.2.2 j _ _ (by simp[D.cell,Xk]) (by simp[oG])).1⟩;rw[e];exact r6 j8 bE (by rw[gx hh];exact CV j _ (by simp[oG]))
  ·rename_i key v rows y hg;split
   ·trivial
   ·rename_i j8;refine j6.of ?_;rintro ⟨rfl,bE,rfl,rfl⟩ φ G a w hr;have hv:=hr.opd x hx;rw[hp]at hv;obtain⟨hm,hk,L,hL,aw,⟨oH,di,_⟩,_,_,ja⟩:=hr.mem.get hg;have e:=hv.j7 hL aw;simp only[Option.toList_some,List.length_singleton]at di;obtain⟨arr,elem,hh,bN,h1,_,ej⟩:=ja (by omega);obtain⟨u,hu,hyu⟩:=ej y rfl;refine⟨u,bB a w _ ?_,hyu⟩;rw[e];exact r6 j8 bE (by rw[gx hh,oH,Nat.mul_one,Nat.add_zero];exact hu)
  ·trivial
 ·rename_i d j hp;split
  ·rename_i j8;split
   ·refine j6.of ?_;rintro ⟨jw,hf⟩ φ G a w hr;have hv:=hr.opd x hx;rw[hp]at hv;generalize bX:a.eval x=av at hv;cases hv with
    |dG _ _ b off x' hb hF oI hc=>
     obtain⟨ua,rfl⟩:=s9 oI hf;refine⟨.agg ua,bB a w _ ?_,.d _ _ oI⟩;rw[bX];exact r9 (vs:=ua.toList) j8 (by rw[jw];have:=oI.size;simp[Value.cells]at this;simp[this]) (fun j v hj=>hc j v (by simpa [Value.cells]using hj))
   ·split
    ·rename_i n hn;refine j6.of ?_;intro hle φ G a w hr;have hv:=hr.opd x hx;rw[hp]at hv;generalize bX:a.eval x=av at hv;cases hv with
     |dG _ _ b off x' hb hF oI hc=>
      have kM:=oI.cells;have hl:x'.cells.toList.length=d.size:=by rw[kM.1,D.fU]
      have hlen:((x'.cells.toList.drop j).take n).length=n:=by simp at hl⊢;omega
      refine⟨.agg ((x'.cells.toList.drop j).take n).toArray,bB a w _ ?_,.d _ _ (.ni ?_ ?_ ?_)⟩
      ·rw[bX];refine r9 j8 (by rw[hlen];exact hn) (fun i v hi=>?_);rw[List.getElem?_take]at hi;split at hi
       ·rw[show off+j+i=off+(j+i) by omega];exact hc (j+i) v (by simpa using hi)
       ·cases hi
      ·rw[hlen];simp[D.fU];omega
      ·intro v hv;exact kM.2.1 v (by simpa using List.mem_of_mem_drop (List.mem_of_mem_take hv))
      ·intro i c v h1 h2;rw[List.getElem?_take]at h1 h2;split at h1
       ·rename_i hi;simp only[hi,if_true]at h2;exact (kM.2.2 (j+i) c v (by simpa using h1) (by simpa using h2)).1
       ·cases h1
    ·trivial
  ·rename_i j8;refine j6.of ?_;rintro ⟨bE,hj⟩ φ G a w hr;have hv:=hr.opd x hx;rw[hp]at hv;generalize bX:a.eval x=av at hv;cases hv with
   |dG _ _ b off x' hb hF oI hc=>
    have oG:j<x'.cells.size:=by rw[oI.size];exact hj
    have Xk:j<d.cells.length:=by rw[D.fU];exact hj
    refine⟨x'.cells[j],bB a w _ ?_,.d _ _ (oI.cells.2.2 j _ _ (by simp[D.cell,Xk]) (by simp[oG])).1⟩;rw[bX];exact r6 j8 bE (hc j _ (by simp[oG]))
 ·trivial
def AV.solid:AV→Bool
 | .aW=>false
 | .aU _=>false
 |_=>true
theorem az.solid {φ w F x v} (h:az φ w F x v) (hs:x.solid=true):v.cells.size=x.cells.length∧∀u∈v.cells,cn u=true:=by
 have one:∀{v:Value} {x:AV},cn v=true→x.cells.length=1→v.cells.size=x.cells.length∧∀u∈v.cells,cn u=true:=by
  intro v x h1 hl;rw[dQ h1,hl];exact⟨rfl,fun u hu=>by simp at hu;subst hu;exact h1⟩
 cases h with
 |aW=>simp[AV.solid]at hs
 |aU=>simp[AV.solid]at hs
 |d x v h=>
  have hc:=h.cells;refine⟨?_,hc.2.1⟩;have:=hc.1;cases x<;>simp_all [AV.cells,D.cells]
 |agg cs a hl h1 hc=>exact⟨by simp[Value.cells,AV.cells,hl],h1⟩
 |ptr _ _ _ _ _ _ _ _ h1=>exact one h1 rfl
 |vec _ _ _ _ _ _ _ _ _ h1=>exact one h1 rfl
 |cG _ _ _ _ _ _ _ _ _ h1=>exact one h1 rfl
 |dG=>exact one rfl rfl
 |fn=>exact one rfl rfl
 |qu=>exact one rfl rfl
 |gM=>exact one rfl rfl
 |lit _ h1=>exact one h1 rfl
 |nn=>exact one rfl rfl
 |err=>exact one rfl rfl
def putCells {α:Type} (cs:List α) (off:Nat) (ys:List α):List α:=
 match ys with
 |[y]=>cs.set off y
 |ys=>cs.take off++ys++cs.drop (off+ys.length)
theorem dp {α:Type} (cs:List α) (off:Nat) (ys:List α) (h:off+ys.length≤cs.length):putCells cs off ys=cs.take off++ys++cs.drop (off+ys.length):=by
 unfold putCells;split
 ·rename_i y;simp at h;rw[List.set_eq_take_append_cons_drop,if_pos (by omega)];simp
 ·rfl
theorem bK {α:Type} (cs:List α) (off:Nat) (ys:List α) (h:off+ys.length≤cs.length):(putCells cs off ys).length=cs.length:=by
 rw[dp cs off ys h];simp;omega
theorem gz {α:Type} (cs:List α) (off:Nat) (ys:List α) (h:off+ys.length≤cs.length) (i:Nat):
 (putCells cs off ys)[i]?=if i<off then cs[i]? else if i<off+ys.length then ys[i-off]? else cs[i]?:=by
 rw[dp cs off ys h];by_cases h1:i<off
 ·rw[if_pos h1,List.append_assoc,List.getElem?_append_left (by simp;omega),List.getElem?_take,if_pos h1]
 ·rw[if_neg h1,List.append_assoc,List.getElem?_append_right (by simp;omega)];simp only[List.length_take,Nat.min_eq_left (show off≤cs.length by omega)];by_cases h2:i<off+ys.length
  ·rw[if_pos h2,List.getElem?_append_left (by omega)]
  ·rw[if_neg h2,List.getElem?_append_right (by omega),List.getElem?_drop];congr 1;omega
theorem rk {α β:Type} {R:α→β→Prop} {cs ys:List α} {vs us:List β} {off:Nat} (hl:cs.length=vs.length) (CT:ys.length=us.length) (h:off+ys.length≤cs.length)
 (hc:∀(i:Nat) c v,cs[i]?=some c→vs[i]?=some v→R c v) (hy:∀(i:Nat) c v,ys[i]?=some c→us[i]?=some v→R c v):
 ∀(i:Nat) c v,(putCells cs off ys)[i]?=some c→(putCells vs off us)[i]?=some v→R c v:=by
 intro i c v;rw[gz cs off ys h,gz vs off us (by omega),←CT];split
 ·exact hc i c v
 ·split
  ·exact hy _ c v
  ·exact hc i c v
theorem zG {φ G m w} (h:bj φ G m w):∀b,Fo G φ m b→b<w.heap.size:=fun b hb=>hb.elim (h.bound b) (fun ho=>h.AJ ho)
theorem mY (w:World) (g k:Nat) (cs:Array Value) (h:k≠g):(w.setRow g cs).heap[k]?=w.heap[k]?:=by
 simp only[World.setRow,Array.getElem?_modify];rw[if_neg (fun e=>h e.symm)]
theorem bj.EM {φ G m w} (h:bj φ G m w) {e:cJ} (he:e∈m) {L:Loc} (hL:φ e.key=some L) (aw:L.aj=e.aj) {b0:Nat} (ho:e.cont.cN L b0) (fY:Array Value)
 (L':Loc) (hv:e.aj≤L'.aj) (K3:L'.aj=L.aj→L'={L with cM:=L'.cM}) (c':aD) (mB:∀b,c'.cN L' b→e.cont.cN L b)
 (hc:∀φ':bI,φ.le φ'→(∀x v,az φ w (Fo G φ m) x v→az φ' (w.setRow b0 fY) (Fo G φ' (Mem.set m ⟨e.key,L'.aj,c'⟩)) x v)→
  (∀x v,aH w (Fo G φ m) x v→aH (w.setRow b0 fY) (Fo G φ' (Mem.set m ⟨e.key,L'.aj,c'⟩)) x v)→
  dR φ' (w.setRow b0 fY) (Fo G φ' (Mem.set m ⟨e.key,L'.aj,c'⟩)) L' c'):
 ∃φ',bj φ' G (Mem.set m ⟨e.key,L'.aj,c'⟩) (w.setRow b0 fY)∧aQ φ m w φ' (Mem.set m ⟨e.key,L'.aj,c'⟩) (w.setRow b0 fY)∧φ' e.key=some L'∧∀k,k≠e.key→φ' k=φ k:=by
 have fD:iy φ m b0:=⟨e,he,L,hL,ho⟩;refine h.cW (e':=⟨e.key,L'.aj,c'⟩) he hL rfl (L':=L') (by rw[aw];exact hv) K3 rfl
  (fun b hb hn=>mY w b0 b fY (fun heq=>hn (heq▸ho))) (by simp) (fun b hb=>.inl (mB b hb)) rfl rfl rfl ?_
 intro φ' hφ hle;have hF:∀b,b<w.heap.size→Fo G φ' (Mem.set m ⟨e.key,L'.aj,c'⟩) b→Fo G φ m b:=by
  rintro b gA (hG|⟨x,hx,Lx,eo,iz⟩)
  ·exact .inl hG
  ·right;rcases (Mem.mem_set h.nodup).1 hx with ⟨rfl,_⟩|⟨gr,bE⟩
   ·subst hφ;simp at eo;subst eo;exact⟨e,he,L,hL,mB b iz⟩
   ·subst hφ;simp at bE;simp[bE]at eo;exact⟨x,gr,Lx,eo,iz⟩
 have hk:∀b,b<w.heap.size→¬Fo G φ m b→(w.setRow b0 fY).heap[b]?=w.heap[b]?:=
  fun b hb hn=>mY w b0 b fY (fun heq=>hn (.inr (heq▸fD)))
 exact hc φ' hle (fun x v hx=>hx.mono hle hk (by simp) hF) (fun x v hx=>hx.mono hk (by simp) hF)
theorem bj.store {φ G m w} (h:bj φ G m w) {e:cJ} (he:e∈m) {L:Loc} (hL:φ e.key=some L) (aw:L.aj=e.aj) {b0:Nat} (ho:e.cont.cN L b0) (fY:Array Value)
 (ta:Nat) (hv:e.aj≤ta) (c':aD) (mB:∀b,c'.cN {L with aj:=ta} b→e.cont.cN L b)
 (hc:∀φ':bI,φ.le φ'→(∀x v,az φ w (Fo G φ m) x v→az φ' (w.setRow b0 fY) (Fo G φ' (Mem.set m ⟨e.key,ta,c'⟩)) x v)→
  (∀x v,aH w (Fo G φ m) x v→aH (w.setRow b0 fY) (Fo G φ' (Mem.set m ⟨e.key,ta,c'⟩)) x v)→
  dR φ' (w.setRow b0 fY) (Fo G φ' (Mem.set m ⟨e.key,ta,c'⟩)) {L with aj:=ta} c'):
 ∃φ',bj φ' G (Mem.set m ⟨e.key,ta,c'⟩) (w.setRow b0 fY)∧aQ φ m w φ' (Mem.set m ⟨e.key,ta,c'⟩) (w.setRow b0 fY)∧φ' e.key=some {L with aj:=ta}∧∀k,k≠e.key→φ' k=φ k:=
 h.EM he hL aw ho fY {L with aj:=ta} hv (fun hh=>by simp at hh;cases L;simp_all) c' mB hc
theorem bj.NT {φ G m w} (h:bj φ G m w) {e:cJ} (he:e∈m) {L:Loc} (hL:φ e.key=some L) (aw:L.aj=e.aj) (w1:World) (oJ:w1.heap=w.heap) (pK:w1.os=w.os) (AN:w1.tape=w.tape) (fj:w1.output=w.output)
 (arr:Array Value) (elem:TypeId) (c':aD) (L':Loc) (hv:L'.aj=e.aj+1) (mB:∀b,c'.cN L' b→e.cont.cN L b∨w.heap.size=b)
 (hc:∀φ':bI,φ.le φ'→(∀x v,az φ w (Fo G φ m) x v→az φ' (w1.alloc (.cells arr elem)) (Fo G φ' (Mem.set m ⟨e.key,e.aj+1,c'⟩)) x v)→
  (∀x v,aH w (Fo G φ m) x v→aH (w1.alloc (.cells arr elem)) (Fo G φ' (Mem.set m ⟨e.key,e.aj+1,c'⟩)) x v)→
  (w1.alloc (.cells arr elem)).heap[w.heap.size]?=some (.cells arr elem (0,0))→(∀b,b<w.heap.size→(w1.alloc (.cells arr elem)).heap[b]?=w.heap[b]?)→
  dR φ' (w1.alloc (.cells arr elem)) (Fo G φ' (Mem.set m ⟨e.key,e.aj+1,c'⟩)) L' c'):
 ∃φ',bj φ' G (Mem.set m ⟨e.key,e.aj+1,c'⟩) (w1.alloc (.cells arr elem))∧aQ φ m w φ' (Mem.set m ⟨e.key,e.aj+1,c'⟩) (w1.alloc (.cells arr elem))∧
  φ' e.key=some L'∧∀k,k≠e.key→φ' k=φ k:=by
 have hold:∀b,b<w.heap.size→(w1.alloc (.cells arr elem)).heap[b]?=w.heap[b]?:=fun b hb=>by rw[RowKit.Below.heap_alloc w1 _ b (by rw[oJ];exact hb),oJ]
 have bN:w.heap.size≤(w1.alloc (.cells arr elem)).heap.size:=by simp[oJ]
 refine h.cW (e':=⟨e.key,e.aj+1,c'⟩) he hL rfl (L':=L') (by rw[aw,hv];simp) (fun hh=>by simp[aw,hv]at hh) hv
  (fun b hb _=>hold b hb) bN (fun b hb=>(mB b hb).imp id (fun e=>by omega)) pK AN fj ?_
 intro φ' hφ hle;have hF:∀b,b<w.heap.size→Fo G φ' (Mem.set m ⟨e.key,e.aj+1,c'⟩) b→Fo G φ m b:=by
  rintro b hb (hG|⟨x,hx,Lx,eo,iz⟩)
  ·exact .inl hG
  ·right;rcases (Mem.mem_set h.nodup).1 hx with ⟨rfl,_⟩|⟨gr,bE⟩
   ·subst hφ;simp at eo;subst eo;rcases mB b iz with h'|h'
    ·exact⟨e,he,L,hL,h'⟩
    ·omega
   ·subst hφ;simp at bE;simp[bE]at eo;exact⟨x,gr,Lx,eo,iz⟩
 refine hc φ' hle (fun x v hx=>hx.mono hle (fun b hb _=>hold b hb) bN hF) (fun x v hx=>hx.mono (fun b hb _=>hold b hb) bN hF) ?_ hold;have:=heap_alloc_new w1 (.cells arr elem);rwa [oJ]at this
theorem bj.fresh {φ G m w} (h:bj φ G m w) {e:cJ} (he:e∈m) {L:Loc} (hL:φ e.key=some L) (aw:L.aj=e.aj) (w1:World) (oJ:w1.heap=w.heap) (pK:w1.os=w.os) (AN:w1.tape=w.tape) (fj:w1.output=w.output)
 (arr:Array Value) (elem:TypeId) (sz cap:Nat) (c':aD) (mB:∀b,c'.cN ⟨e.aj+1,w.heap.size,sz,cap,0,[]⟩ b→w.heap.size=b)
 (hc:∀φ':bI,φ.le φ'→(∀x v,az φ w (Fo G φ m) x v→az φ' (w1.alloc (.cells arr elem)) (Fo G φ' (Mem.set m ⟨e.key,e.aj+1,c'⟩)) x v)→
  (∀x v,aH w (Fo G φ m) x v→aH (w1.alloc (.cells arr elem)) (Fo G φ' (Mem.set m ⟨e.key,e.aj+1,c'⟩)) x v)→
  (w1.alloc (.cells arr elem)).heap[w.heap.size]?=some (.cells arr elem (0,0))→
  dR φ' (w1.alloc (.cells arr elem)) (Fo G φ' (Mem.set m ⟨e.key,e.aj+1,c'⟩)) ⟨e.aj+1,w.heap.size,sz,cap,0,[]⟩ c'):
 ∃φ',bj φ' G (Mem.set m ⟨e.key,e.aj+1,c'⟩) (w1.alloc (.cells arr elem))∧aQ φ m w φ' (Mem.set m ⟨e.key,e.aj+1,c'⟩) (w1.alloc (.cells arr elem))∧
  φ' e.key=some ⟨e.aj+1,w.heap.size,sz,cap,0,[]⟩∧∀k,k≠e.key→φ' k=φ k:=
 h.NT he hL aw w1 oJ pK AN fj arr elem c' _ rfl (fun b hb=>.inr (mB b hb)) (fun φ' h1 h2 h3 h4 _=>hc φ' h1 h2 h3 h4)
def D.setCells (r:D) (j:Nat) (y:D):D:=.agg (putCells r.cells j y.cells)
def storeV (P:Program) (t:TypeId) (k aj i j:Nat) (x:AV):Option cJ→dj
 |some ⟨_,v,.vv rows (some _)⟩=>match x with
  | .vec a b c d=>.cW (v=aj∧i=rows.length∧j=0∧fm P t=some 1) .aW ⟨k,aj,.vv rows (some (.vec a b c d))⟩
  |_=>.no
 |_=>.no
def storeR (P:Program) (m:Mem) (t:TypeId) (p x:AV):dj:=
 match p with
 | .ptr k aj off=>match Mem.get m k with
  |some ⟨_,v,.box cs⟩=>.cW (v=aj∧x.solid=true∧fm P t=some x.cells.length∧off+x.cells.length≤cs.length) .aW ⟨k,aj,.box (putCells cs off x.cells)⟩
  |_=>.no
 | .cG k aj i j=>match Mem.get m k,x.norm with
  |some ⟨_,v,.vec sz rows⟩,.d y=>match tk P t with
   | .struct=>.cW (v=aj∧i<rows.length∧fm P t=some sz∧y.size=sz∧j=0) .aW ⟨k,aj,.vec sz (rows.set i y)⟩
   |_=>match sz with
    |1=>.cW (v=aj∧i<rows.length∧fm P t=some 1∧y.size=1∧j=0) .aW ⟨k,aj,.vec 1 (rows.set i y)⟩
    |sz=>.cW (v=aj∧i<rows.length∧fm P t=some y.size∧j+y.size≤sz∧(D.at rows i).flat=false) .aW ⟨k,aj,.vec sz (rows.set i ((D.at rows i).setCells j y))⟩
  |e,_=>storeV P t k aj i j x e
 |_=>.no
theorem Eb {w w':World} {F F':Nat→Prop} {arr:Array Value} {rows:List D} {base sz cap i o:Nat} {us:List Value} {r':D} {v':Value} (hs:arr.size=base+cap*sz) (di:rows.length≤cap) (hi:i<rows.length)
 (ho:base+i*sz≤o) (hou:o+us.length≤base+i*sz+sz)
 (ej:∀(n:Nat) (d:D),rows[n]?=some d→∃v,aH w F d v∧∀(j:Nat) (c:Value),v.cells[j]?=some c→arr[base+n*sz+j]?=some c)
 (K6:∀d∈rows,d.size=sz)
 (hm:∀x v,aH w F x v→aH w' F' x v) (b7:aH w' F' r' v') (nM:r'.size=sz)
 (r5:∀(j:Nat) (c:Value),v'.cells[j]?=some c→(putCells arr.toList o us)[base+i*sz+j]?=some c):
 ∀(n:Nat) (d:D),(rows.set i r')[n]?=some d→∃v,aH w' F' d v∧∀(j:Nat) (c:Value),v.cells[j]?=some c→(putCells arr.toList o us).toArray[base+n*sz+j]?=some c:=by
 have de:base+i*sz+sz≤arr.size:=by
  have:i*sz+sz≤cap*sz:=by rw[←Nat.succ_mul];exact Nat.mul_le_mul_right _ (by omega)
  omega
 intro n d hd;by_cases hn:n=i
 ·subst hn;simp[hi]at hd;subst hd;exact⟨v',b7,fun j c hj=>by simpa using r5 j c hj⟩
 ·rw[List.getElem?_set_ne (fun h=>hn h.symm)]at hd;obtain⟨v,hv,oK⟩:=ej n d hd;refine⟨v,hm d v hv,fun j c hj=>?_⟩;have CW:j<sz:=by
   have h1:=hv.size;rw[K6 d (List.mem_of_getElem? hd)]at h1;have:=(Array.getElem?_eq_some_iff.1 hj).1;omega
  rw[List.getElem?_toArray,gz arr.toList o us (by simp;omega)];have key:¬(o≤base+n*sz+j∧base+n*sz+j<o+us.length):=by
   rintro ⟨h1,h2⟩;rcases Nat.lt_or_gt_of_ne hn with cg|sd
   ·have:n*sz+sz≤i*sz:=by rw[←Nat.succ_mul];exact Nat.mul_le_mul_right _ cg
    omega
   ·have:i*sz+sz≤n*sz:=by rw[←Nat.succ_mul];exact Nat.mul_le_mul_right _ sd
    omega
  have hh:=oK j c hj;split
  ·simpa using hh
  ·rw[if_neg (by omega)];simpa using hh
theorem rl {P:Program} {t:TypeId} {w:World} {b o:Nat} {arr:Array Value} {elem:TypeId} {v:Value} (hs:fm P t=some v.cells.size)
 (hg:eR w b arr elem) (hl:o+v.cells.size≤arr.size) (h1:∀x∈v.cells,cn x=true):
 (Instr.storeAt t (.pointer (some ⟨b,o,none⟩)) v).run P w=.ok () (w.setRow b (putCells arr.toList o v.cells.toList).toArray):=by
 rw[HY hs hg hl h1,dp _ _ _ (by simpa using hl)];simp
theorem HZ {w:World} {b:Nat} {arr:Array Value} {elem:TypeId} {fr} (hg:w.heap[b]?=some (.cells arr elem fr)) (fY:Array Value):(w.setRow b fY).heap[b]?=some (.cells fY elem fr):=setRow_heap w b arr fY elem fr hg
theorem eR.setRow {w:World} {b:Nat} {arr:Array Value} {elem:TypeId} (hg:eR w b arr elem) (fY:Array Value) (hs:fY.size=arr.size):eR (w.setRow b fY) b fY elem:=by
 obtain⟨fr,h1,h2⟩:=hg;exact⟨fr,HZ h1 fY,by rw[hs];exact h2⟩
theorem j9 {α:Type} {cs ys:List α} {off:Nat} {x:α} (h:off+ys.length≤cs.length) (hx:x∈putCells cs off ys):x∈cs∨x∈ys:=by
 rw[dp cs off ys h]at hx;simp only[List.mem_append]at hx;rcases hx with (hx|hx)|hx
 ·exact .inl (List.mem_of_mem_take hx)
 ·exact .inr hx
 ·exact .inl (List.mem_of_mem_drop hx)
theorem NU (P:Program) (S:St) (o:Oper) (t:TypeId) (p x:Operand) (ho:o.op=.store t p x) (hp:(S.opd p).1=true) (hx:(S.opd x).1=true) {k aj i j:Nat} (yQ:(S.opd p).2=.cG k aj i j):
 aF P S o (storeV P t k aj i j (S.opd x).2 (Mem.get S.mem k)):=by
 unfold storeV;split
 ·rename_i key v rows y hg;split
  ·rename_i a b c d bF;refine aF.ql ?_;rintro ⟨rfl,rfl,rfl,jw⟩ φ G aa w hr;have hk:key=k:=(Mem.get_mem hg).2;subst hk;have hv:=hr.opd p hp;have hu:=hr.opd x hx;rw[yQ]at hv;rw[bF]at hu;obtain⟨hm,_,L,hL,aw,b8⟩:=hr.mem.get hg;obtain⟨⟨oH,di,hl⟩,ahB,bE,ja⟩:=b8;have e:=hv.j7 hL aw;simp only[Option.toList_some,List.length_singleton]at di;have uG:0<L.cap:=by omega
   obtain⟨arr,elem,hh,bN,h1,fq,_⟩:=ja uG;generalize bS:aa.eval x=u at hu;have Iy:cn u=true:=by cases hu;assumption
   have CV:u.cells=#[u]:=dQ Iy;have iK:L.base+rows.length+[u].length≤arr.toList.length:=by simp;omega
   obtain⟨φ',dr,aN,fe,ep⟩:=hr.mem.store (e:=⟨key,v,.vv rows (some y)⟩) hm hL aw (b0:=L.dx) (.inl ⟨uG,rfl⟩) (putCells arr.toList (L.base+rows.length) [u]).toArray v (Nat.le_refl _) (.vv rows (some (.vec a b c d))) (fun _ hb=>hb) (fun φ' kX bX jb=>by
    refine⟨⟨oH,by simpa using di,hl⟩,ahB,bE,fun _=>⟨_,elem,hh.setRow _ (by rw[List.size_toArray,bK _ _ _ iK];simp),?_,?_,?_,?_⟩⟩
    ·rw[List.size_toArray,bK _ _ _ iK];simpa using bN
    ·intro z hz;rcases j9 iK (by simpa using hz)with hz|hz
     ·exact h1 z (by simpa using hz)
     ·simp at hz;subst hz;exact Iy
    ·intro n xs q hn hq;have wg:=(List.getElem?_eq_some_iff.1 hn).1;have:=fq n xs q hn hq;rw[show (putCells arr.toList (L.base+rows.length) [u]).toArray[L.base+n]?=arr[L.base+n]? by
      rw[List.getElem?_toArray,gz _ _ _ iK,if_pos (by omega)];simp]
     refine this.mono (fun d u _ hd=>jb d u hd) (fun b hb=>?_);subst hb;exact mY w L.dx b _ (fun heq=>(bE b (List.mem_of_getElem? hq)).2 heq)
    ·intro z hz;cases hz;refine⟨u,?_,bX _ _ hu⟩;show (putCells arr.toList (L.base+rows.length) [u]).toArray[L.base+rows.length]?=some u;rw[List.getElem?_toArray,gz _ _ _ iK,if_neg (by omega),if_pos (by simp)];simp)
   refine⟨undef,_,φ',?_,.aW _,dr,aN,ep⟩;have eB:=rl (P:=P) (t:=t) (w:=w) (b:=L.dx) (o:=L.base+rows.length) (v:=u) (by rw[CV];exact jw) hh (by rw[CV];simpa using iK) (by rw[CV];simpa using Iy);rw[CV]at eB;refine .inr ⟨?_,rfl⟩;rw[oH,Nat.mul_one,Nat.add_zero]at e;simp[execOp,ho,e,bS,eB]
  ·trivial
 ·trivial
theorem Rs (P:Program) (S:St) (o:Oper) (t:TypeId) (p x:Operand) (ho:o.op=.store t p x) (hp:(S.opd p).1=true) (hx:(S.opd x).1=true):aF P S o (storeR P S.mem t (S.opd p).2 (S.opd x).2):=by
 have bB:∀(a:Act) (w w':World),(Instr.storeAt t (a.eval p) (a.eval x)).run P w=.ok () w'→AM P o a w undef w':=by
  intro a w w' h;exact .inr ⟨by simp[execOp,ho,h],rfl⟩
 unfold storeR;split
 ·rename_i k aj off yQ;split
  ·rename_i key v cs hg;refine aF.ql ?_;rintro ⟨rfl,Rt,jw,hle⟩ φ G a w hr;have hv:=hr.opd p hp;have bF:=hr.opd x hx;rw[yQ]at hv;obtain⟨hm,hk,L,hL,aw,rm,arr,elem,hh,bN,h1,ej⟩:=hr.mem.get hg;have e:=hv.pM hL aw;obtain⟨pN,qv⟩:=bF.solid Rt;simp only at hk;subst hk;have iK:off+(a.eval x).cells.toList.length≤arr.toList.length:=by simp only[Array.length_toList,pN,bN];exact hle
   obtain⟨φ',dr,aN,fe,ep⟩:=hr.mem.store (e:=⟨key,v,.box cs⟩) hm hL aw rfl (putCells arr.toList off (a.eval x).cells.toList).toArray v (Nat.le_refl _) (.box (putCells cs off (S.opd x).2.cells)) (fun _ hb=>hb) (fun φ' kX bX jb=>by
    refine⟨⟨rm.1,rm.2.1,by rw[bK _ _ _ hle];exact rm.2.2⟩,_,elem,hh.setRow _ (by show (putCells arr.toList _ _).length=_;rw[bK _ _ _ iK];simp),?_,?_,?_⟩
    ·rw[bK _ _ _ hle,←bN];show (putCells arr.toList off _).length=_;rw[bK _ _ _ iK];simp
    ·intro u hu;rcases j9 iK (by simpa using hu)with hu|hu
     ·exact h1 u (by simpa using hu)
     ·exact qv u (by simpa using hu)
    ·intro i c u hc hu;refine bX c u ?_;exact rk (vs:=arr.toList) (us:=(a.eval x).cells.toList) (by simp[bN]) (by simpa using pN.symm) hle (fun i c v h h'=>ej i c v h (by simpa using h'))
      (fun i c v h h'=>bF.cells qv pN i c v h (by simpa using h')) i c u hc (by simpa using hu))
   refine⟨undef,_,φ',bB a w _ ?_,.aW _,dr,aN,ep⟩;rw[e];exact rl (by rw[pN];exact jw) hh (by omega) qv
  ·trivial
 ·rename_i k aj i j yQ;have vec:∀(c:Prop) [Decidable c] (sz:Nat) (rows:List D) (y r':D) (v:Nat),Mem.get S.mem k=some ⟨k,v,.vec sz rows⟩→(S.opd x).2.norm=.d y→
   (c→v=aj∧i<rows.length∧fm P t=some y.size∧j+y.size≤sz∧((D.at rows i).size=sz→r'.size=sz)∧
    ∀w F (u v:Value),(D.at rows i).size=sz→aH w F (D.at rows i) v→aH w F y u→∃v',aH w F r' v'∧v'.cells.toList=putCells v.cells.toList j u.cells.toList)→
   aF P S o (.cW (decide c) .aW ⟨k,aj,.vec sz (rows.set i r')⟩):=by
   intro c _ sz rows y r' v hg hy fu;refine aF.ql fun hc φ G a w hr=>?_;obtain⟨rfl,cg,jw,hj,ahC,NV⟩:=fu hc;have hv:=hr.opd p hp;have bF:=(hr.opd x hx).norm;rw[hy]at bF;rw[yQ]at hv;obtain⟨hm,hk,L,hL,aw,uF,di,nM,ja⟩:=hr.mem.get hg;have e:=hv.j7 hL aw;have uG:0<L.cap:=by omega
   obtain⟨arr,elem,hh,bN,h1,ej⟩:=ja uG;have Xl:r'.size=sz:=ahC (by rw[nM _ (List.mem_of_getElem? (ju cg)),uF]);cases bF with
   |d _ u hu=>
    generalize bS:a.eval x=u at hu;have yP:u.cells.size=y.size:=hu.size;have de:L.base+i*L.sz+L.sz≤arr.size:=by
     have:i*L.sz+L.sz≤L.cap*L.sz:=by rw[←Nat.succ_mul];exact Nat.mul_le_mul_right _ (by omega)
     omega
    obtain⟨rv,Iz,Xm⟩:=ej i _ (ju cg);have Rv:rv.cells.size=L.sz:=by rw[Iz.size];exact nM _ (List.mem_of_getElem? (ju cg))
    have iK:L.base+i*L.sz+j+u.cells.toList.length≤arr.toList.length:=by simp[yP];omega
    obtain⟨φ',dr,aN,fe,ep⟩:=hr.mem.store (e:=⟨k,v,.vec sz rows⟩) hm hL aw ⟨uG,rfl⟩ (putCells arr.toList (L.base+i*L.sz+j) u.cells.toList).toArray v (Nat.le_refl _) (.vec sz (rows.set i r')) (fun _ hb=>hb) (fun φ' kX bX jb=>by
     refine⟨uF,by simpa using di,?_,fun _=>⟨_,elem,hh.setRow _ (by show (putCells arr.toList _ _).length=_;rw[bK _ _ _ iK];simp),?_,?_,?_⟩⟩
     ·intro d hd;rcases List.mem_or_eq_of_mem_set hd with hd|rfl
      ·exact nM d hd
      ·show _=L.sz;rw[uF];exact Xl
     ·show (putCells arr.toList _ _).length=_;rw[bK _ _ _ iK];simpa using bN
     ·intro z hz;rcases j9 iK (by simpa using hz)with hz|hz
      ·exact h1 z (by simpa using hz)
      ·exact hu.cells.2.1 z (by simpa using hz)
     ·obtain⟨v',r5,ahD⟩:=NV _ _ u rv (by rw[nM _ (List.mem_of_getElem? (ju cg)),uF]) (jb _ _ Iz) (jb _ _ hu);refine Eb (F:=Fo G φ S.mem) (base:=L.base) (cap:=L.cap) (sz:=L.sz) bN di cg (by omega) (by simp[yP];omega) ej nM jb r5 (by rw[Xl,uF]) ?_;intro q c hq;have oL:(putCells rv.cells.toList j u.cells.toList)[q]?=some c:=by rw[←ahD];simpa using hq
      have hql:q<L.sz:=by
       have:=(List.getElem?_eq_some_iff.1 oL).1;rw[bK _ _ _ (by simp[yP,Rv];omega)]at this;simpa [Rv]using this
      rw[gz _ _ _ (by simp[yP,Rv];omega)]at oL;rw[gz _ _ _ iK];by_cases h1:q<j
      ·rw[if_pos h1]at oL;rw[if_pos (by omega)];simpa using Xm q c (by simpa using oL)
      ·rw[if_neg h1]at oL;rw[if_neg (by omega)];by_cases h2:q<j+u.cells.toList.length
       ·rw[if_pos h2]at oL;rw[if_pos (by omega)];rw[show L.base+i*L.sz+q-(L.base+i*L.sz+j)=q-j by omega];exact oL
       ·rw[if_neg h2]at oL;rw[if_neg (by omega)];simpa using Xm q c (by simpa using oL))
    refine⟨undef,_,φ',bB a w _ ?_,.aW _,dr,aN,ep⟩;rw[e,bS];exact rl (by rw[yP];exact jw) hh (by simpa using iK) hu.cells.2.1
  have whole:∀(y r:D),y.size=r.size→∀w F (u v:Value),aH w F r v→aH w F y u→∃v',aH w F y v'∧v'.cells.toList=putCells v.cells.toList 0 u.cells.toList:=by
   intro y r hyr w F u v hr hy;refine⟨u,hy,?_⟩;have h1:=hr.size;have h2:=hy.size;rw[dp _ _ _ (by simp;omega)];simp;omega
  split
  ·rename_i key v sz rows y hg hy;have hk:key=k:=(Mem.get_mem hg).2;subst hk;split
   ·exact vec _ sz rows y y v hg hy (fun ⟨h1,h2,h3,h4,h5⟩=>⟨h1,h2,by rw[h4];exact h3,by omega,fun _=>h4,by
     subst h5;intro w F u v hs b7 mH;exact whole y _ (by rw[hs,h4]) w F u v b7 mH⟩)
   ·split
    ·exact vec _ 1 rows y y v hg hy (fun ⟨h1,h2,h3,h4,h5⟩=>⟨h1,h2,by rw[h4];exact h3,by omega,fun _=>h4,by
      subst h5;intro w F u v hs b7 mH;exact whole y _ (by rw[hs,h4]) w F u v b7 mH⟩)
    ·refine vec _ sz rows y _ v hg hy (fun ⟨h1,h2,h3,h4,h5⟩=>⟨h1,h2,h3,h4,?_,?_⟩)
     ·intro h6;show (putCells _ _ _).length=sz;rw[bK _ _ _ (by rw[D.fU,D.fU,h6];exact h4),D.fU,h6]
     ·intro w F u v hs b7 mH;obtain⟨ra,rfl⟩:=s9 b7 h5;have b8:=b7.cells;have kL:=mH.cells;have hl:j+y.cells.length≤(D.at rows i).cells.length:=by rw[D.fU,D.fU,hs];exact h4
      refine⟨.agg (putCells ra.toList j u.cells.toList).toArray,.ni ?_ ?_ ?_,by simp[Value.cells]⟩
      ·have h6:=b8.1;simp only[Value.cells]at h6;rw[bK _ _ _ hl,bK _ _ _ (by rw[kL.1,h6];exact hl),←h6]
      ·intro z hz;have h6:=b8.1;simp only[Value.cells]at h6;rcases j9 (by rw[kL.1,h6];exact hl) hz with hz|hz
       ·exact b8.2.1 z (by simpa [Value.cells]using hz)
       ·exact kL.2.1 z (by simpa using hz)
      ·exact rk (by simpa [Value.cells]using b8.1.symm) (by simpa using kL.1.symm) hl (fun i c v h h'=>(b8.2.2 i c v h (by simpa [Value.cells]using h')).1) (fun i c v h h'=>(kL.2.2 i c v h (by simpa using h')).1)
  ·exact NU P S o t p x ho hp hx yQ
 ·trivial
theorem ie (P:Program) (w:World) (e:TypeId) (cs:Array Value):(newRow e cs).run P w=.ok ⟨w.heap.size,0,none⟩ (w.alloc (.cells cs e)):=rfl
def keyOf (o:Oper):Nat:=100+50*o.dst.getD 100000
def se (P:Program) (t:TypeId):Option (List AV):=
 match P.info? t with
 |some i=>match i.zero with
  |some z=>if z.cells.all cn then some (z.cells.toList.map constAV)else none
  |none=>none
 |none=>none
theorem nj {P:Program} {t:TypeId} {zs:List AV} (h:se P t=some zs) (w:World):∃z,(zeroValue t).run P w=.ok z w∧z.cells.size=zs.length∧(∀v∈z.cells,cn v=true)∧
 ∀φ w' F (i:Nat) c v,zs[i]?=some c→z.cells[i]?=some v→az φ w' F c v:=by
 unfold se at h;split at h
 ·rename_i i hi;split at h
  ·rename_i z hz;split at h
   ·rename_i cZ;simp at h;subst h;refine⟨z,by simp[zeroValue,typeInfo,hi,hz],by simp,?_,?_⟩
    ·intro v hv;exact Array.all_eq_true'.1 cZ v hv
    ·intro φ w' F i c v hc hv;simp only[List.getElem?_map,Array.getElem?_toList,Option.map_eq_some_iff]at hc;obtain⟨u,hu,rfl⟩:=hc;rw[hv]at hu;cases hu;exact yO ..
   ·cases h
  ·cases h
 ·cases h
def boxR (m:Mem) (k:Nat) (c:Bool) (cs:List AV):dj:=
 match Mem.get m k with
 |some ⟨_,v,_⟩=>.cW c (.ptr k (v+1) 0) ⟨k,v+1,.box cs⟩
 |none=>.no
theorem IA {P:Program} {S:St} {o:Oper} {k:Nat} {c:Bool} {cs:List AV}
 (h:c=true→∀φ G a w,Rel φ G S a w→∃(arr:Array Value) (elem:TypeId),(execOp a.eval o).run P w=.ok (.value (.pointer (some ⟨w.heap.size,0,none⟩))) (w.alloc (.cells arr elem))∧
  arr.size=cs.length∧(∀v∈arr,cn v=true)∧∀(i:Nat) c v,cs[i]?=some c→arr[i]?=some v→az φ w (Fo G φ S.mem) c v):aF P S o (boxR S.mem k c cs):=by
 unfold boxR;split
 ·rename_i key v cont hg;intro hc φ G a w hr;obtain⟨arr,elem,bB,bN,h1,ej⟩:=h hc φ G a w hr;obtain⟨hm,hk,L,hL,aw,_⟩:=hr.mem.get hg;simp only at hk aw;subst hk;obtain⟨φ',dr,aN,fe,ep⟩:=hr.mem.fresh (e:=⟨key,v,cont⟩) hm hL aw w rfl rfl rfl rfl arr elem 1 cs.length (.box cs) (fun _ hb=>hb) (fun φ' hle bX jb jc=>
   ⟨⟨rfl,rfl,rfl⟩,arr,elem,eR.new jc,bN,h1,fun i c u hc hu=>bX c u (ej i c u hc hu)⟩)
  exact⟨_,_,φ',.inl bB,.ptr key (v+1) 0 _ _ fe (Nat.le_refl _) (fun _=>rfl) rfl,dr,aN,ep⟩
 ·trivial
theorem Xn (P:Program) (S:St) (o:Oper) (t:TypeId) (x:Operand) (ho:o.op=.box t x) (hx:(S.opd x).1=true):aF P S o (boxR S.mem (keyOf o) (S.opd x).2.solid (S.opd x).2.cells):=by
 refine IA fun hs φ G a w hr=>?_;have hv:=hr.opd x hx;obtain⟨h1,h2⟩:=hv.solid hs;refine⟨(a.eval x).cells,t,?_,h1,h2,hv.cells h2 h1⟩;simp[execOp,ho,Instr.box,newVar,ie]
theorem EN (P:Program) (S:St) (o:Oper) (t:TypeId) (ho:o.op=.alloc t) (zs:List AV) (hz:se P t=some zs):aF P S o (boxR S.mem (keyOf o) true zs):=by
 refine IA fun _ φ G a w hr=>?_;obtain⟨z,bB,bN,h1,ej⟩:=nj hz w;refine⟨z.cells,t,?_,bN,h1,fun i c v hc hv=>ej _ _ _ i c v hc hv⟩;simp[execOp,ho,Instr.alloc,newVar,ie,bB]
def lH (P:Program) (t:TypeId):Option D:=
 match se P t,(tk P t).agg with
 |some zs,true=>(toDsN zs).map .agg
 |some [z],false=>toD1 z
 |_,_=>none
def wh (P:Program) (t:TypeId):Option Nat:=(P.info? t).map (·.bytes)
theorem AO {P:Program} {t:TypeId} {d:D} (h:lH P t=some d) (w:World):∃z,(zeroValue t).run P w=.ok z w∧z.cells.size=d.size∧(∀v∈z.cells,cn v=true)∧
 ∀w' F,∃v,aH w' F d v∧v.cells=z.cells:=by
 unfold lH at h;split at h
 ·rename_i zs hz j8;simp only[Option.map_eq_some_iff]at h;obtain⟨ds,ll,rfl⟩:=h;obtain⟨z,bB,bN,h1,ej⟩:=nj hz w;have hl:∀w' F,zs.length=ds.length∧∀(i:Nat) d v,ds[i]?=some d→z.cells.toList[i]?=some v→aH w' F d v:=fun w' F=>
   sc (φ:=fun _=>none) (w:=w') (F:=F) (vs:=z.cells.toList) ll (fun i c v hc hv=>ej _ _ _ i c v hc (by simpa using hv))
  refine⟨z,bB,by rw[bN,(hl w (fun _=>False)).1];rfl,h1,fun w' F=>⟨.agg z.cells,?_,rfl⟩⟩;have:=aH.ni (w:=w') (F:=F) (cs:=ds) (vs:=z.cells.toList) (by rw[←(hl w' F).1];simpa using bN.symm) (fun v hv=>h1 v (by simpa using hv)) (hl w' F).2;simpa using this
 ·rename_i z0 hz j8;obtain⟨z,bB,bN,h1,ej⟩:=nj hz w;obtain⟨u,hu⟩:∃u,z.cells=#[u]:=by
   have:z.cells.size=1:=bN;exact⟨z.cells[0],by apply Array.ext<;>simp_all⟩
  have hd:∀w' F,aH w' F d u:=fun w' F=>EK (φ:=fun _=>none) h (ej _ _ _ 0 z0 u (by simp) (by simp[hu]));have Iy:cn u=true:=h1 u (by simp[hu]);refine⟨z,bB,by rw[hu,←(hd w (fun _=>False)).size,dQ Iy],h1,fun w' F=>⟨u,hd w' F,by rw[dQ Iy,hu]⟩⟩
 ·cases h
def cj (w:World) (F:Nat→Prop) (sz:Nat) (rows:List D) (cs:List Value):Prop:=
 cs.length=rows.length*sz∧(∀v∈cs,cn v=true)∧(∀d∈rows,d.size=sz)∧∀(i:Nat) d,rows[i]?=some d→∃v,aH w F d v∧∀(j:Nat) c,v.cells[j]?=some c→cs[i*sz+j]?=some c
theorem tN {sz:Nat} {w:World} {F:Nat→Prop} {d:D} {v:Value} (h:aH w F d v) (hs:d.size=sz) {j:Nat} {c:Value} (hj:v.cells[j]?=some c):j<sz:=by
 have h1:=h.size;have:=(Array.getElem?_eq_some_iff.1 hj).1;omega
theorem cj.append {w F sz xs ys cs lq} (h:cj w F sz xs cs) (h':cj w F sz ys lq):cj w F sz (xs++ys) (cs++lq):=by
 obtain⟨a1,a2,a3,a4⟩:=h;obtain⟨b1,b2,b3,b4⟩:=h';refine⟨by simp[a1,b1,Nat.add_mul],?_,?_,?_⟩
 ·intro v hv;rcases List.mem_append.1 hv with hv|hv;exact a2 v hv;exact b2 v hv
 ·intro v hv;rcases List.mem_append.1 hv with hv|hv;exact a3 v hv;exact b3 v hv
 ·intro i d hd;by_cases hi:i<xs.length
  ·rw[List.getElem?_append_left hi]at hd;obtain⟨v,hv,oK⟩:=a4 i d hd;refine⟨v,hv,fun j c hj=>?_⟩;have CW:=tN hv (a3 d (List.mem_of_getElem? hd)) hj;rw[List.getElem?_append_left]
   ·exact oK j c hj
   ·rw[a1];have:i*sz+sz≤xs.length*sz:=by rw[←Nat.succ_mul];exact Nat.mul_le_mul_right _ hi
    omega
  ·rw[List.getElem?_append_right (by omega)]at hd;obtain⟨v,hv,oK⟩:=b4 _ d hd;refine⟨v,hv,fun j c hj=>?_⟩;have e:xs.length*sz+(i-xs.length)*sz=i*sz:=by rw[←Nat.add_mul];congr 1;omega
   rw[List.getElem?_append_right (by rw[a1];omega),a1,show i*sz+j-xs.length*sz=(i-xs.length)*sz+j by omega];exact oK j c hj
theorem cj.take {w F sz xs cs} (h:cj w F sz xs cs) (n:Nat) (hn:n≤xs.length):cj w F sz (xs.take n) (cs.take (n*sz)):=by
 obtain⟨a1,a2,a3,a4⟩:=h;have hle:n*sz≤xs.length*sz:=Nat.mul_le_mul_right _ hn;refine⟨by simp only[List.length_take,a1];rw[Nat.min_eq_left hn,Nat.min_eq_left hle],fun v hv=>a2 v (List.mem_of_mem_take hv),fun v hv=>a3 v (List.mem_of_mem_take hv),?_⟩;intro i d hd;rw[List.getElem?_take]at hd;split at hd
 ·rename_i hi;obtain⟨v,hv,oK⟩:=a4 i d hd;refine⟨v,hv,fun j c hj=>?_⟩;have CW:=tN hv (a3 d (List.mem_of_getElem? hd)) hj;have:i*sz+sz≤n*sz:=by rw[←Nat.succ_mul];exact Nat.mul_le_mul_right _ hi
  rw[List.getElem?_take,if_pos (by omega)];exact oK j c hj
 ·cases hd
theorem cj.drop {w F sz xs cs} (h:cj w F sz xs cs) (n:Nat):cj w F sz (xs.drop n) (cs.drop (n*sz)):=by
 obtain⟨a1,a2,a3,a4⟩:=h;refine⟨by simp[a1,Nat.sub_mul],fun v hv=>a2 v (List.mem_of_mem_drop hv),fun v hv=>a3 v (List.mem_of_mem_drop hv),?_⟩;intro i d hd;rw[List.getElem?_drop]at hd;obtain⟨v,hv,oK⟩:=a4 _ d hd;refine⟨v,hv,fun j c hj=>?_⟩;rw[List.getElem?_drop,show n*sz+(i*sz+j)=(n+i)*sz+j by rw[Nat.add_mul];omega];exact oK j c hj
theorem cj.mono {w F w' F' sz xs cs} (h:cj w F sz xs cs) (hm:∀x v,aH w F x v→aH w' F' x v):cj w' F' sz xs cs:=
 ⟨h.1,h.2.1,h.2.2.1,fun i d hd=>let ⟨v,hv,hc⟩:=h.2.2.2 i d hd;⟨v,hm _ _ hv,hc⟩⟩
theorem cj.nil (w F sz):cj w F sz [] []:=⟨by simp,by simp,by simp,by simp⟩
theorem rn {φ w F} {L:Loc} {rows:List D} {pre cs rest:List Value} {sz:Nat} {elem:TypeId} (bN:L.sz=sz) (hr:cj w F sz rows cs) (jM:pre.length=L.base) (h0:∀v∈pre,cn v=true) (h1:∀v∈rest,cn v=true)
 (di:rows.length≤L.cap) (hl:(cs++rest).length=L.cap*sz) (hh:0<L.cap→eR w L.dx (pre++(cs++rest)).toArray elem):dR φ w F L (.vec sz rows):=by
 obtain⟨a1,a2,a3,a4⟩:=hr;subst bN;refine⟨rfl,di,a3,fun hc=>⟨_,elem,hh hc,by simp only[List.size_toArray,List.length_append]at hl⊢;omega,?_,?_⟩⟩
 ·intro v hv;simp at hv;rcases hv with hv|hv|hv
  ·exact h0 v hv
  ·exact a2 v hv
  ·exact h1 v hv
 ·intro i d hd;obtain⟨v,hv,oK⟩:=a4 i d hd;refine⟨v,hv,fun j c hj=>?_⟩;have CW:=tN hv (a3 d (List.mem_of_getElem? hd)) hj;have cg:i<rows.length:=(List.getElem?_eq_some_iff.1 hd).1;have:i*L.sz+L.sz≤rows.length*L.sz:=by rw[←Nat.succ_mul];exact Nat.mul_le_mul_right _ cg
  rw[List.getElem?_toArray,List.getElem?_append_right (by omega),jM,show L.base+i*L.sz+j-L.base=i*L.sz+j by omega,List.getElem?_append_left (by rw[a1];omega)];exact oK j c hj
theorem tc {φ w F} {L:Loc} {rows:List D} {cs rest:List Value} {sz:Nat} {elem:TypeId} (bN:L.sz=sz) (hb:L.base=0) (hr:cj w F sz rows cs) (h1:∀v∈rest,cn v=true)
 (di:rows.length≤L.cap) (hl:(cs++rest).length=L.cap*sz) (hh:0<L.cap→eR w L.dx (cs++rest).toArray elem):dR φ w F L (.vec sz rows):=
 rn (pre:=[]) bN hr (by simp[hb]) (by simp) h1 di hl hh
theorem mI {φ w F} {L:Loc} {rows:List D} {sz:Nat} (h:dR φ w F L (.vec sz rows)) (hc:0<L.cap):∃(arr:Array Value) (elem:TypeId),eR w L.dx arr elem∧arr.size=L.base+L.cap*sz∧
 (∀v∈arr,cn v=true)∧cj w F sz rows ((arr.toList.drop L.base).take (rows.length*sz)):=by
 obtain⟨hs,di,nM,ja⟩:=h;obtain⟨arr,elem,hh,bN,h1,ej⟩:=ja hc;subst hs;refine⟨arr,elem,hh,bN,h1,?_,fun v hv=>h1 v (by simpa using List.mem_of_mem_drop (List.mem_of_mem_take hv)),nM,?_⟩
 ·simp only[List.length_take,List.length_drop,Array.length_toList,bN];exact Nat.min_eq_left (by rw[Nat.add_sub_cancel_left];exact Nat.mul_le_mul_right _ di)
 ·intro i d hd;obtain⟨v,hv,oK⟩:=ej i d hd;refine⟨v,hv,fun j c hj=>?_⟩;have CW:=tN hv (nM d (List.mem_of_getElem? hd)) hj;have cg:i<rows.length:=(List.getElem?_eq_some_iff.1 hd).1;have:i*L.sz+L.sz≤rows.length*L.sz:=by rw[←Nat.succ_mul];exact Nat.mul_le_mul_right _ cg
  rw[List.getElem?_take,if_pos (by omega),List.getElem?_drop,←Nat.add_assoc];simpa using oK j c hj
theorem EO {w F} {xs:List D} {ao:Option Addr} {m cap sz:Nat} (h:aH w F (.list xs) (.slice ao m cap)) (hs:∀d∈xs,d.size=sz):
 m=xs.length∧∃cs,cj w F sz xs cs∧(xs≠[]→∃b off,ao=some ⟨b,off,none⟩∧b<w.heap.size∧¬F b∧∀(j:Nat) v,cs[j]?=some v→w.cell? ⟨b,off+j,none⟩=some v):=by
 generalize hx:D.list xs=x at h;generalize hv:Value.slice ao m cap=v at h;cases h with
 |nil a c=>
  simp at hx hv;subst hx;exact⟨by simp[hv.2.1],[],cj.nil ..,fun h=>absurd rfl h⟩
 |list ys b off wi cL vs di hb hF bN NW hc=>
  simp at hx hv;obtain⟨rfl,rfl,rfl⟩:=hv;subst hx;refine⟨rfl,?_⟩
  --vK cells,row by row
  have K7:xs≠[]→cL=sz:=fun bE=>by
   cases xs with
   |nil=>exact absurd rfl bE
   |cons d r=>rw[←bN d (by simp),hs d (by simp)]
  by_cases bE:xs=[]
  ·subst bE;exact⟨[],cj.nil ..,fun h=>absurd rfl h⟩
  have K7:=K7 bE;subst K7;have ja:∀(i j:Nat),i<xs.length→j<cL→∃c,(vs i).cells[j]?=some c∧w.cell? ⟨b,off+(i*cL+j),none⟩=some c∧cn c=true:=by
   intro i j hi hj;have h1:=NW i xs[i] (by simp[hi]);have h2:=h1.size;rw[hs _ (List.getElem_mem hi)]at h2;have oG:j<(vs i).cells.size:=by omega
   refine⟨(vs i).cells[j],by simp[oG],?_,h1.cells.2.1 _ (by simp)⟩;have:=hc i j _ hi (show (vs i).cells[j]?=some (vs i).cells[j] by simp[oG]);rw[←Nat.add_assoc];exact this
  refine⟨(List.range (xs.length*cL)).map (fun j=>(w.cell? ⟨b,off+j,none⟩).getD undef),⟨by simp,?_,hs,?_⟩,fun _=>⟨b,off,rfl,hb,hF,?_⟩⟩
  ·intro v hv;simp only[List.mem_map,List.mem_range]at hv;obtain⟨j,hj,rfl⟩:=hv;have nN:0<cL:=by rcases Nat.eq_zero_or_pos cL with h0|h0;simp[h0]at hj;exact h0
   obtain⟨c,_,h2,h3⟩:=ja (j/cL) (j%cL) (Nat.div_lt_of_lt_mul (by rw[Nat.mul_comm];exact hj)) (Nat.mod_lt _ nN);rw[Nat.mul_comm,Nat.div_add_mod]at h2;simp[h2,h3]
  ·intro i d hd;have hi:i<xs.length:=(List.getElem?_eq_some_iff.1 hd).1;refine⟨vs i,NW i d hd,fun j c hj=>?_⟩;have CW:=tN (NW i d hd) (hs d (List.mem_of_getElem? hd)) hj;obtain⟨c',h1,h2,_⟩:=ja i j hi CW;rw[hj]at h1;cases h1;have:i*cL+cL≤xs.length*cL:=by rw[←Nat.succ_mul];exact Nat.mul_le_mul_right _ hi
   simp[h2,show i*cL+j<xs.length*cL by omega]
  ·intro j v hv;simp only[List.getElem?_map,Option.map_eq_some_iff]at hv;obtain⟨k,hk,rfl⟩:=hv;have hj:j<xs.length*cL:=by
    rcases Nat.lt_or_ge j (xs.length*cL)with h|h
    ·exact h
    ·simp[List.getElem?_eq_none (l:=List.range (xs.length*cL)) (by simpa using h)]at hk
   simp[hj]at hk;subst hk;have nN:0<cL:=by rcases Nat.eq_zero_or_pos cL with h0|h0;simp[h0]at hj;exact h0
   obtain⟨c,_,h2,_⟩:=ja (j/cL) (j%cL) (Nat.div_lt_of_lt_mul (by rw[Nat.mul_comm];exact hj)) (Nat.mod_lt _ nN);rw[Nat.mul_comm,Nat.div_add_mod]at h2;simp[h2]
 |_=>simp at hx
def srcRows (m:Mem) (sz:Nat):AV→Option (Bool×List D)
 | .d (.list ys)=>some (true,ys)
 | .d (.str s)=>some (sz=1,s.map fun b=>.int .u8 b.toNat)
 | .lit (.slice none 0 0)=>some (true,[])
 | .nn=>some (true,[])
 | .vec k aj off len=>match Mem.get m k with
  |some ⟨_,v,.vec _ rows⟩=>some (v=aj∧off+len≤rows.length,(rows.drop off).take len)
  |_=>none
 |_=>none
structure Ek (P:Program) (w:World) (F:Nat→Prop) (sz:Nat) (ys:List D) (x:Value) (news:List Value):Prop where
 len:∀w',(Builtin.lenOf x).run P w'=.ok ys.length w'
 NX:∀n,n≤ys.length→∀w',(∀b,b<w.heap.size→w'.heap[b]?=w.heap[b]?)→(Builtin.firstCells sz n x).run P w'=.ok (news.take (n*sz)).toArray w'
 rows:cj w F sz ys news
theorem Ek.first {P w F sz ys x news} (h:Ek P w F sz ys x news) (w':World) (hw:∀b,b<w.heap.size→w'.heap[b]?=w.heap[b]?):(Builtin.firstCells sz ys.length x).run P w'=.ok news.toArray w':=by
 rw[h.NX _ (Nat.le_refl _) w' hw,List.take_of_length_le (by rw[h.rows.1];exact Nat.le_refl _)]
theorem EP {P:Program} {S:St} {φ G w} (hm:bj φ G S.mem w) {x:AV} {v:Value} (hx:az φ w (Fo G φ S.mem) x v) {c ys} {sz:Nat} (hs:srcRows S.mem sz x=some (c,ys)) (hc:c=true) (bN:∀d∈ys,d.size=sz):
 ∃news,Ek P w (Fo G φ S.mem) sz ys v news:=by
 unfold srcRows at hs;split at hs
 ·rename_i ER;simp at hs;obtain⟨_,rfl⟩:=hs;cases hx with
  |d _ _ h=>
   have hv:∃ao m cap,v=.slice ao m cap:=by cases h<;>exact⟨_,_,_,rfl⟩
   obtain⟨ao,m,cap,rfl⟩:=hv;obtain⟨rfl,cs,hr,bE⟩:=EO h bN;refine⟨cs,⟨fun w'=>by simp[Builtin.lenOf],fun n hn w' hw=>?_,hr⟩⟩;by_cases Xo:ER=[]
   ·subst Xo;have:cs=[]:=List.eq_nil_of_length_eq_zero (by simpa using hr.1);subst this;have eL:n=0:=by simpa using hn
    subst eL;cases ao with
    |none=>simp[Builtin.firstCells]
    |some a=>simp[Builtin.firstCells,loadCells,loadCellsFrom]
   ·obtain⟨b,off,rfl,hb,_,nL⟩:=bE Xo;exact run_firstCells_some (P:=P) w' sz n ⟨b,off,none⟩ ER.length cap _ (hr.take n hn |>.1.trans (by simp[hn])) (fun j u hj=>by
     rw[fo,jL (hw b hb)];rw[List.getElem?_take]at hj;split at hj
     ·exact nL j u hj
     ·cases hj)
 ·rename_i s;simp only[Option.some.injEq,Prod.mk.injEq]at hs;obtain⟨rfl,rfl⟩:=hs;simp only[decide_eq_true_eq]at hc;subst hc;cases hx with
  |d _ _ h=>
   cases h with
   |str b _ hb=>
    subst hb;have K6:b.size=b.data.toList.length:=by rw[Array.length_toList];rfl
    refine⟨b.data.toList.map fun x=>Value.int .u8 x.toNat,⟨fun w'=>by simp only[Builtin.lenOf,List.length_map,←K6];rfl,fun n hn w' _=>?_,?_,?_,?_,?_⟩⟩
    ·simp only[Builtin.firstCells,Sem.run_pure];congr 1;apply Array.ext';simp
    ·simp
    ·intro v hv;simp only[List.mem_map]at hv;obtain⟨y,_,rfl⟩:=hv;rfl
    ·exact bN
    ·intro i d hd;simp only[List.getElem?_map,Option.map_eq_some_iff]at hd;obtain⟨y,hy,rfl⟩:=hd;refine⟨.int .u8 y.toNat,.int _ _,fun j c hj=>?_⟩;cases j with
     |zero=>simp only[Value.cells]at hj;simp at hj;subst hj;simp only[List.getElem?_map,Nat.mul_one,Nat.add_zero,hy];rfl
     |succ j=>simp[Value.cells]at hj
 ·simp at hs;obtain⟨_,rfl⟩:=hs;cases hx with
  |lit=>exact⟨[],⟨fun w'=>by simp[Builtin.lenOf],fun n _ w' _=>by simp[Builtin.firstCells],cj.nil ..⟩⟩
 ·simp at hs;obtain⟨_,rfl⟩:=hs;cases hx with
  |nn a cap=>exact⟨[],⟨fun w'=>by simp[Builtin.lenOf],fun n hn w' _=>by
   have eL:n=0:=by simpa using hn
   subst eL;simp[Builtin.firstCells,loadCells,loadCellsFrom],cj.nil ..⟩⟩
 ·rename_i k aj off len;split at hs
  ·rename_i key v' cL rows hg;simp only[Option.some.injEq,Prod.mk.injEq]at hs;obtain⟨rfl,rfl⟩:=hs;simp only[decide_eq_true_eq]at hc;obtain⟨rfl,hle⟩:=hc;obtain⟨fa,hk,L,hL,aw,b8⟩:=hm.get hg;have hlen:((rows.drop off).take len).length=len:=by simp;omega
   cases hx with
   |vec _ _ _ _ _ L' bM _ h h1=>
    rw[hL]at bM;cases bM;obtain⟨ao,cap,rfl,fX,dg⟩:=h aw.symm;clear h h1;by_cases cw:len=0
    ·subst cw;refine⟨[],⟨fun w'=>by simp[Builtin.lenOf],fun n hn w' _=>?_,by simpa using cj.nil ..⟩⟩;have eL:n=0:=by simpa using hn
     subst eL;cases ao with
     |none=>simp[Builtin.firstCells]
     |some a=>simp[Builtin.firstCells,loadCells,loadCellsFrom]
    ·obtain⟨rfl,mJ⟩:=dg (by omega);obtain⟨arr,elem,hh,te,rp,hr⟩:=mI b8 (by omega);have Xp:cL=sz:=by
      have iR:0<((rows.drop off).take len).length:=by omega
      have h2:=bN (((rows.drop off).take len)[0]'iR) (List.getElem_mem iR)
      have h3:=hr.2.2.1 (((rows.drop off).take len)[0]'iR) (List.mem_of_mem_drop (List.mem_of_mem_take (List.getElem_mem iR)))
      rw[←h2,←h3]
     subst Xp;have yR:L.sz=cL:=b8.1;have iS:=(hr.drop off).take len (by simp;omega);refine⟨_,⟨fun w'=>by simp[Builtin.lenOf,hlen],fun n hn w' hw=>?_,iS⟩⟩;have hb:L.dx<w.heap.size:=hh.lt;exact run_firstCells_some (P:=P) w' cL n ⟨L.dx,L.base+off*L.sz,none⟩ len cap _ ((iS.take n hn).1.trans (by rw[List.length_take,Nat.min_eq_left hn])) (fun j u hj=>by
      rw[fo,jL (hw L.dx hb),gx hh,yR];rw[List.getElem?_take]at hj;split at hj
      ·rw[List.getElem?_take]at hj;split at hj
       ·rw[List.getElem?_drop,List.getElem?_take]at hj;split at hj
        ·rw[List.getElem?_drop]at hj;rw[Nat.add_assoc];simpa using hj
        ·cases hj
       ·cases hj
      ·cases hj)
  ·cases hs
 ·cases hs
section
variable {P:Program}
def fh (P:Program) (u:TypeId):Bool:=
 match P.underlying u with
 |some (.slice _)=>true
 |some .string=>true
 |_=>false
theorem wj {u:TypeId} (h:fh P u=true):(∃e,P.underlying u=some (.slice e))∨P.underlying u=some .string:=by
 unfold fh at h;split at h
 ·rename_i e hd;exact .inl ⟨e,hd⟩
 ·rename_i hd;exact .inr hd
 ·cases h
structure Cf (P:Program) (w:World) (F:Nat→Prop) (u:TypeId) (sz:Nat) (z:Value) (ys:List D) (x:Value) (news:List Value):Prop where
 rows:cj w F sz ys news
 kind:(fh P u=true∧Ek P w F sz ys x news)∨((∃k,P.underlying u=some (.int k))∧(∃kk,x=.int kk ys.length)∧ys.length≤4611686018427387904∧z.cells.size=sz∧news=(Builtin.zeroCells z.cells ys.length).toList)
theorem ES {n:Nat} (h:n≤4611686018427387904):IntKind.i64.wrap (n:Int)=(n:Int):=IntWalk.i64_in _ (by omega)
theorem tO {z:Array Value} {n:Nat} (h:n*z.size=0):Builtin.zeroCells z n=#[]:=by
 apply Array.eq_empty_of_size_eq_zero;rw[size_zeroCells];exact h
theorem pO {w:World} {t u ty e:TypeId} {i:TypeInfo} {z:Value} (ht:P.underlying t=some (.slice e)) (hi:P.info? e=some i) (hz:i.zero=some z)
 {ao:Option Addr} {len cap:Nat} {F x news} (hs:Cf P w F u i.size z [] x news) (hle:len≤cap):
 (Builtin.append_ #[t,u] ty #[.slice ao len cap,x]).run P w=.ok (.slice ao len cap) w:=by
 rcases hs.kind with ⟨hu,hs⟩|⟨⟨k,hd⟩,⟨kk,rfl⟩,_,nk,rfl⟩
 ·have hn:news=[]:=List.eq_nil_of_length_eq_zero (by simpa using hs.rows.1);subst hn;have hl:=hs.len w;have hf:=hs.first w (fun _ _=>rfl);simp only[List.length_nil]at hl hf;rcases wj hu with ⟨e2,hd⟩|hd<;>cases ao<;>
   simp[Builtin.append_,run_underlying ht,run_underlying hd,sizeOf,typeInfo,hi,hl,hf,hle,storeCells]
 ·have w0:=ES (n:=0) (by omega);simp only[Int.ofNat_zero,Int.natCast_zero]at w0;cases ao<;>simp[Builtin.append_,run_underlying ht,run_underlying hd,sizeOf,typeInfo,hi,w0,asInt,asIntOf,hle,storeCells]
theorem run_append_fits {w:World} {t u ty e:TypeId} {i:TypeInfo} {z:Value} (ht:P.underlying t=some (.slice e)) (hi:P.info? e=some i) (hz:i.zero=some z)
 {g b len cap:Nat} {F ys x news} (hs:Cf P w F u i.size z ys x news) {cur:Array Value} {e':TypeId} (hg:eR w g cur e')
 (iL:len+ys.length≤cap) (m8:b+len*i.size+news.length≤cur.size) (ET:ys.length*i.bytes≤140737488355328):
 (Builtin.append_ #[t,u] ty #[.slice (some ⟨g,b,none⟩) len cap,x]).run P w=.ok (.slice (some ⟨g,b,none⟩) (len+ys.length) cap) (w.setRow g (putCells cur.toList (b+len*i.size) news).toArray):=by
 obtain⟨fz,hg,AL⟩:=hg;have eB:=jv (P:=P) g (b+len*i.size) e' fz news 0 cur w hg AL (by simpa using m8) (fun x hx=>m7 (hs.rows.2.1 x hx));simp only[Nat.add_zero]at eB;rw[dp _ _ _ (by simpa using m8)];rcases hs.kind with ⟨hu,hs⟩|⟨⟨k,hd⟩,⟨kk,rfl⟩,Xq,nk,rfl⟩
 ·have hf:=hs.first w (fun _ _=>rfl);rcases wj hu with ⟨e2,hd⟩|hd<;>simp[Builtin.append_,run_underlying ht,run_underlying hd,sizeOf,typeInfo,hi,hs.len,iL,hf,fo,eB]
 ·have wn:=ES Xq;have h1:¬((ys.length:Int)<0):=by omega
  have h2:¬(281474976710656<(ys.length:Int)*(i.bytes:Int)):=by
   have:(ys.length:Int)*(i.bytes:Int)=((ys.length*i.bytes:Nat):Int):=by simp
   rw[this];omega
  by_cases h0:ys.length*i.size=0
  ·have CX:=tO (z:=z.cells) (n:=ys.length) (by rw[nk];exact h0);rw[CX]at eB⊢;simp only[Array.toList_empty]at eB;simp[Builtin.append_,run_underlying ht,run_underlying hd,sizeOf,typeInfo,hi,wn,asInt,asIntOf,h1,h2,h0,iL,fo,eB]
  ·simp[Builtin.append_,run_underlying ht,run_underlying hd,sizeOf,typeInfo,zeroValue,hi,hz,wn,asInt,asIntOf,h1,h2,h0,iL,fo,eB]
theorem rq {w:World} {t u ty e:TypeId} {i:TypeInfo} {z:Value} (ht:P.underlying t=some (.slice e)) (hi:P.info? e=some i) (hz:i.zero=some z)
 {ao:Option Addr} {len cap:Nat} {F ys x news} (hs:Cf P w F u i.size z ys x news) (kY:List Value)
 (hold:∀w',w'.heap=w.heap→(Builtin.firstCells i.size len (.slice ao len cap)).run P w'=.ok kY.toArray w')
 (iL:cap<len+ys.length) (h63:len+ys.length≤9223372036854775807) (m8:Builtin.nextslicecap (len+ys.length) cap*i.bytes≤281474976710656) (ET:ys.length*i.bytes≤140737488355328):
 (Builtin.append_ #[t,u] ty #[.slice ao len cap,x]).run P w=
  .ok (.slice (some ⟨w.heap.size,0,none⟩) (len+ys.length) (grownCap w (len+ys.length) cap e))
   (w.drew.alloc (.cells (kY.toArray++news.toArray++Builtin.zeroCells z.cells (grownCap w (len+ys.length) cap e-(len+ys.length))) e)):=by
 have hn:¬(len+ys.length≤cap):=by omega
 have Rx:¬(9223372036854775807<((len:Int)+(ys.length:Int))):=by omega
 have Ry:¬(281474976710656<Builtin.nextslicecap (len+ys.length) cap*i.bytes):=by omega
 have Xr:=hold w.drew rfl;rcases hs.kind with ⟨hu,hs⟩|⟨⟨k,hd⟩,⟨kk,rfl⟩,Xq,nk,rfl⟩
 ·have hf:=hs.first w.drew (fun _ _=>rfl);rcases wj hu with ⟨e2,hd⟩|hd<;>
   (simp[Builtin.append_,run_underlying ht,run_underlying hd,sizeOf,typeInfo,zeroValue,hi,hz,hs.len,hn,Rx,Ry,Question.forced,hf,Xr,ie,grownCap]
    congr 2;apply Array.ext';simp[List.append_assoc])
 ·have wn:=ES Xq;have h1:¬((ys.length:Int)<0):=by omega
  have h2:¬(281474976710656<(ys.length:Int)*(i.bytes:Int)):=by
   have:(ys.length:Int)*(i.bytes:Int)=((ys.length*i.bytes:Nat):Int):=by simp
   rw[this];omega
  by_cases h0:ys.length*i.size=0
  ·have CX:=tO (z:=z.cells) (n:=ys.length) (by rw[nk];exact h0);rw[CX];simp[Builtin.append_,run_underlying ht,run_underlying hd,sizeOf,typeInfo,zeroValue,hi,hz,wn,asInt,asIntOf,h1,h2,h0,hn,Rx,Ry,Question.forced,Xr,ie,grownCap]
  ·simp[Builtin.append_,run_underlying ht,run_underlying hd,sizeOf,typeInfo,zeroValue,hi,hz,wn,asInt,asIntOf,h1,h2,h0,hn,Rx,Ry,Question.forced,Xr,ie,grownCap]
end
theorem qm {z:Array Value} {n:Nat} (h:∀v∈z,cn v=true):∀v∈Builtin.zeroCells z n,cn v=true:=by
 intro v hv;simp only[Builtin.zeroCells,Array.mem_map,Array.mem_range]at hv;obtain⟨i,hi,rfl⟩:=hv;have nN:0<z.size:=by
  rcases Nat.eq_zero_or_pos z.size with h0|h0
  ·simp[h0]at hi
  ·exact h0
 have cg:i%z.size<z.size:=Nat.mod_lt _ nN;rw[getElem!_pos z _ cg];exact h _ (by simp)
theorem VV {P:Program} {t:TypeId} {k} (h:tk P t=.int k):P.underlying t=some (.int k):=by
 unfold tk at h;split at h<;>simp_all
def appN (zd:D):AV→Option (Bool×List D)
 | .d (.int _ n)=>some (decide (0≤n)&&decide (n≤4611686018427387904),List.replicate n.toNat zd)
 |_=>none
def appS (b:Bool):Option (Bool×List D)→Option (Bool×List D)
 |some (c,ys)=>some (c&&b,ys)
 |none=>none
def appSrc (P:Program) (m:Mem) (sz:Nat) (zd:D) (u:TypeId) (x:AV):Option (Bool×List D):=
 match tk P u with
 | .int _=>appN zd x
 |_=>appS (fh P u) (srcRows m sz x)
theorem cj.acD {w:World} {F:Nat→Prop} {z:Array Value} {sz:Nat} {zd:D} (oH:∀v∈z,cn v=true) (nk:z.size=sz) (hd:zd.size=sz) (hv:∃v,aH w F zd v∧v.cells=z) (n:Nat):
 cj w F sz (List.replicate n zd) (Builtin.zeroCells z n).toList:=by
 refine⟨by simp[size_zeroCells,nk],fun v hv=>qm oH v (by simpa using hv),fun d yS=>by rw[(List.mem_replicate.1 yS).2];exact hd,fun i d hi=>?_⟩;obtain⟨lG,rfl⟩:=List.getElem?_eq_some_iff.1 hi;obtain⟨v,h1,h2⟩:=hv;refine⟨v,by simpa using h1,fun j c hj=>?_⟩;have oG:j<z.size:=by rw[←h2];exact (Array.getElem?_eq_some_iff.1 hj).1
 simp at lG;have cg:i*sz+j<n*z.size:=by
  rw[nk];have:i*sz+sz≤n*sz:=by rw[←Nat.succ_mul];exact Nat.mul_le_mul_right _ lG
  omega
 simp only[Builtin.zeroCells,Array.getElem?_toList,Array.getElem?_map,Array.getElem?_range];rw[if_pos cg];simp only[Option.map_some];have e:(i*sz+j)%z.size=j:=by rw[←nk,Nat.mul_comm,Nat.mul_add_mod,Nat.mod_eq_of_lt oG]
 rw[e,getElem!_pos z j oG,←hj,h2];simp[oG]
theorem IB {P:Program} {S:St} {φ G w} (hm:bj φ G S.mem w) {u:TypeId} {i:TypeInfo} {z:Value} {zd:D} (oH:∀v∈z.cells,cn v=true) (nk:z.cells.size=i.size) (wm:zd.size=i.size) (Xs:∃v,aH w (Fo G φ S.mem) zd v∧v.cells=z.cells)
 {x:AV} {v:Value} (hx:az φ w (Fo G φ S.mem) x v) {c ys} (hs:appSrc P S.mem i.size zd u x=some (c,ys)) (hc:c=true) (bN:∀d∈ys,d.size=i.size):
 ∃news,Cf P w (Fo G φ S.mem) u i.size z ys v news:=by
 unfold appSrc at hs;split at hs
 ·rename_i k hk;unfold appN at hs;split at hs
  ·rename_i kk n;cases hs;simp only[Bool.and_eq_true,decide_eq_true_eq]at hc;cases hx with
   |d _ _ hx=>
    cases hx;have hn:((List.replicate n.toNat zd).length:Int)=n:=by simp;omega
    refine⟨_,cj.acD oH nk wm Xs n.toNat,.inr ⟨⟨k,VV hk⟩,⟨kk,by rw[hn]⟩,by simp;omega,nk,by simp⟩⟩
  ·cases hs
 ·rename_i hk;cases hr:srcRows S.mem i.size x with
  |none=>rw[hr]at hs;cases hs
  |some y=>
   obtain⟨c',ER⟩:=y;rw[hr]at hs;cases hs;simp only[Bool.and_eq_true]at hc;obtain⟨news,hn⟩:=EP (P:=P) hm hx hr hc.1 bN;exact⟨news,hn.rows,.inl ⟨hc.2,hn⟩⟩
def appV (P:Program) (m:Mem) (u:TypeId) (sz il:Nat) (zd:D) (s x:AV):dj:=
 match s,x with
 | .vec k aj off len,.vec kx vx 0 1=>match Mem.get m k,Mem.get m kx with
  |some ⟨_,v,.vv rows none⟩,some ⟨_,v',.box [.lit (.slice none 0 0)]⟩=>
   .cW (fh P u=true∧v'=vx∧v=aj∧sz=1∧zd.size=1∧off+len≤rows.length∧(len+1)*il≤140737488355328∧len+1≤4611686018427387904) (.vec k (aj+1) 0 (len+1)) ⟨k,aj+1,.vv ((rows.drop off).take len++[[]]) none⟩
  |_,_=>.no
 |_,_=>.no
theorem EU {φ φ':bI} {w w':World} {F F':Nat→Prop} {L:Loc} {rows:List (List D)} (h:jY φ w F L rows none) {off len:Nat} (hle:off+len≤rows.length)
 (L':Loc) (hz:L'.sz=1) (hs:L'.cM=(L.cM.drop off).take len++[none]) (di:len+1≤L'.cap) (hb:∀b,some b∈L.cM→b≠L'.dx) {fY:Array Value} {Ud:TypeId} (hr:eR w' L'.dx fY Ud) (bN:fY.size=L'.base+L'.cap) (h1:∀v∈fY,cn v=true)
 (hold:∀i,i<len→∃(arr:Array Value) (elem:TypeId),0<L.cap∧eR w L.dx arr elem∧fY[L'.base+i]?=arr[L.base+off+i]?) (jc:fY[L'.base+len]?=some (.slice none 0 0))
 (hd:∀d u,aH w F d u→aH w' F' d u) (hw:∀b,some b∈L.cM→w'.heap[b]?=w.heap[b]?):jY φ' w' F' L' ((rows.drop off).take len++[[]]) none:=by
 obtain⟨⟨g1,g2,g3⟩,g4,g5,g6⟩:=h;have hlen:((rows.drop off).take len).length=len:=by simp;omega
 have El:((L.cM.drop off).take len).length=len:=by simp;omega
 have fa:∀b,some b∈L'.cM→some b∈L.cM:=by
  intro b hb;rw[hs]at hb;rcases List.mem_append.1 hb with hb|hb
  ·exact List.mem_of_mem_drop (List.mem_of_mem_take hb)
  ·simp at hb
 have gW:∀(i b:Nat),L'.cM[i]?=some (some b)→i<len∧L.cM[off+i]?=some (some b):=by
  intro i b hb;rw[hs]at hb;by_cases hi:i<len
  ·rw[List.getElem?_append_left (by omega),List.getElem?_take,if_pos hi,List.getElem?_drop]at hb;exact⟨hi,hb⟩
  ·rw[List.getElem?_append_right (by omega),El]at hb;cases Ue:i-len with
   |zero=>rw[Ue]at hb;simp at hb
   |succ n=>rw[Ue]at hb;simp at hb
 refine⟨⟨hz,by simp;omega,by rw[hs];simp;omega⟩,fun i j b hi hj=>?_,fun b pP=>⟨by omega,hb b (fa b pP)⟩,fun _=>?_⟩
 ·have h2:=g4 (off+i) (off+j) b (gW i b hi).2 (gW j b hj).2;omega
 ·refine⟨fY,Ud,hr,bN,h1,fun i xs o hi ho=>?_,fun x hx=>by cases hx⟩;by_cases iA:i<len
  ·rw[List.getElem?_append_left (by omega),List.getElem?_take,if_pos iA,List.getElem?_drop]at hi;rw[hs,List.getElem?_append_left (by omega),List.getElem?_take,if_pos iA,List.getElem?_drop]at ho;obtain⟨arr,elem,hL,NY,hold⟩:=hold i iA;obtain⟨ahE,el0,q1,q2,q3,q4,_⟩:=g6 hL;have eO:ahE=arr:=by
    obtain⟨f1,e1,_⟩:=q1;obtain⟨f2,e2,_⟩:=NY;rw[e1]at e2;simp only[Option.some.injEq,Obj.cells.injEq]at e2;exact e2.1
   subst eO;rw[hold,Nat.add_assoc];exact (q4 (off+i) xs o hi ho).mono (fun d u _ hdu=>hd d u hdu) (fun b e=>hw b (by subst e;exact List.mem_of_getElem? ho))
  ·have Xt:i=len:=by
    have:=(List.getElem?_eq_some_iff.1 hi).1;simp only[List.length_append,List.length_singleton,hlen]at this;omega
   subst Xt;rw[List.getElem?_append_right (by omega),hlen]at hi;rw[hs,List.getElem?_append_right (by omega),El]at ho;simp at hi ho;subst hi;subst ho;exact⟨rfl,none,jc⟩
theorem VW (P:Program) (S:St) (o:Oper) (s x:Operand) (t u:TypeId) (ho:o.op=.call {callee:=.builtin .append,args:=#[s,x],argTypes:=#[t,u]})
 (hs:(S.opd s).1=true) (hx:(S.opd x).1=true) {e:TypeId} (ht:P.underlying t=some (.slice e)) {i:TypeInfo} {z:Value} (hi:P.info? e=some i) (hz:i.zero=some z) {zd:D} (uH:z.cells.size=zd.size) (oH:∀v∈z.cells,cn v=true):
 aF P S o (appV P S.mem u i.size i.bytes zd (S.opd s).2 (S.opd x).2):=by
 have bB:∀(a:Act) (w w':World) (v:Value),(Builtin.append_ #[t,u] o.type #[a.eval s,a.eval x]).run P w=.ok v w'→(execOp a.eval o).run P w=.ok (.value v) w':=by
  intro a w w' v h;simp[execOp,ho,resolve,invoke,builtin,h]
 unfold appV;split
 ·rename_i k aj off len kx vx EV bF;split
  ·rename_i key v rows dS v' hg hgx;refine aF.ql ?_;rintro ⟨mC,rfl,rfl,np,nk,hle,hb,uI⟩ φ G a w hr;obtain⟨hm,hk,L,hL,aw,b8⟩:=hr.mem.get hg;simp only at hk aw b8;subst hk;obtain⟨hmx,tP,Lx,eo,Uf,⟨x1,x2,x3⟩,K8,elx,hrx,hsx,_,acE⟩:=hr.mem.get hgx;simp only at tP Uf;subst tP;have hv:=hr.opd s hs;have oI:=hr.opd x hx;rw[EV]at hv;rw[bF]at oI;have gQ:K8[0]?=some (.slice none 0 0):=by
    have h0:0<K8.size:=by rw[hsx];simp
    have:=acE 0 _ K8[0] rfl (by simp[h0]);generalize hq:K8[0]=q at this;cases this;simp[h0,hq]
   generalize hex:a.eval x=xv at oI;cases oI with
   |vec _ _ _ _ _ L' bM _ h _=>
    rw[eo]at bM;cases bM;obtain⟨aox,Xu,rfl,arH,ahF⟩:=h Uf.symm;clear h;obtain⟨rfl,_⟩:=ahF (by omega);have kN:Cf P w (Fo G φ S.mem) u i.size z [.list []] (.slice (some ⟨Lx.dx,Lx.base+0*Lx.sz,none⟩) 1 Xu) [.slice none 0 0]:=by
     have jx:cj w (Fo G φ S.mem) i.size [.list []] [.slice none 0 0]:=by
      refine⟨by simp[np],by simp[cn],by simp[np,D.size],fun n d hn=>?_⟩;cases n with
      |zero=>simp at hn;subst hn;exact⟨.slice none 0 0,.nil none 0 (fun _=>rfl),fun j c hj=>by simpa [Value.cells]using hj⟩
      |succ n=>simp at hn
     refine⟨jx,.inl ⟨mC,fun w'=>by simp[Builtin.lenOf],fun n hn w' qw=>?_,jx⟩⟩;refine run_firstCells_some (P:=P) w' i.size n _ 1 Xu _ (by have:n≤1:=hn;simp[np];omega) (fun j c hj=>?_);rw[fo,jL (qw _ hrx.lt),gx hrx,x1,x2];rw[List.getElem?_take]at hj;split at hj
     ·cases j with
      |zero=>simp at hj;subst hj;simpa using gQ
      |succ j=>simp at hj
     ·cases hj
    generalize bS:a.eval s=sv at hv;cases hv with
    |vec _ _ _ _ _ L' bM _ h _=>
     rw[hL]at bM;cases bM;obtain⟨ao,cap,rfl,fX,dg⟩:=h aw.symm;clear h;have Ug:∀b,some b∈L.cM→b<w.heap.size:=fun b hb=>hr.mem.AJ ⟨_,hm,L,hL,.inr hb⟩;have Xv:∀b,some b∈(L.cM.drop off).take len++[none]→some b∈L.cM:=by
      intro b hb;rcases List.mem_append.1 hb with hb|hb
      ·exact List.mem_of_mem_drop (List.mem_of_mem_take hb)
      ·simp at hb
     have grow:∀(kY:List Value),kY.length=len→(∀q∈kY,cn q=true)→(∀n,n<len→∃(arr:Array Value) (elem:TypeId),0<L.cap∧eR w L.dx arr elem∧kY[n]?=arr[L.base+off+n]?)→
      (∀w',w'.heap=w.heap→(Builtin.firstCells i.size len (.slice ao len cap)).run P w'=.ok kY.toArray w')→cap<len+1→
      ∃vv w' φ',AM P o a w vv w'∧az φ' w' (Fo G φ' (Mem.set S.mem ⟨key,v+1,.vv ((rows.drop off).take len++[[]]) none⟩)) (.vec key (v+1) 0 (len+1)) vv∧
       bj φ' G (Mem.set S.mem ⟨key,v+1,.vv ((rows.drop off).take len++[[]]) none⟩) w'∧aQ φ S.mem w φ' (Mem.set S.mem ⟨key,v+1,.vv ((rows.drop off).take len++[[]]) none⟩) w'∧∀k,k≠key→φ' k=φ k:=by
      intro kY pQ ahG hold Xw iL;have wb:=grownCap_ge w (len+1) cap e;have K9:z.cells.size=1:=by rw[uH];exact nk
      have gf:=rq (P:=P) (ty:=o.type) ht hi hz kN kY Xw (by simpa using iL) (by simp;omega) (growslice_fits (by simpa using iL) (by simpa using hb)) (by simp;have:=Nat.mul_le_mul_right i.bytes (Nat.le_add_left 1 len);omega);simp only[List.length_singleton]at gf;obtain⟨φ',dr,aN,fe,ep⟩:=hr.mem.NT (e:=⟨key,v,.vv rows none⟩) hm hL aw w.drew rfl rfl rfl rfl
       (kY.toArray++[Value.slice none 0 0].toArray++Builtin.zeroCells z.cells (grownCap w (len+1) cap e-(len+1))) e (.vv ((rows.drop off).take len++[[]]) none)
       ⟨v+1,w.heap.size,1,grownCap w (len+1) cap e,0,(L.cM.drop off).take len++[none]⟩ rfl
       (fun b hb=>by
        rcases hb with ⟨_,hb⟩|hb
        ·exact .inr hb
        ·exact .inl (.inr (Xv b hb))) (fun φ' kX bX jb jc acF=>by
       refine EU b8 hle _ rfl rfl (by simp only;omega) (fun b hb=>by have:=Ug b hb;simp only;omega) (.new jc) ?_ ?_ ?_ ?_ jb (fun b hb=>acF b (Ug b hb))
       ·simp only[Array.size_append,List.size_toArray,pQ,List.length_singleton,size_zeroCells,K9];omega
       ·intro q hq;simp only[Array.mem_append]at hq;rcases hq with (hq|hq)|hq
        ·exact ahG q (by simpa using hq)
        ·simp at hq;subst hq;rfl
        ·exact qm oH q hq
       ·intro n hn;obtain⟨arr,elem,h1,h2,h3⟩:=hold n hn;refine⟨arr,elem,h1,h2,?_⟩;rw[←h3];simp only[Nat.zero_add];rw[Array.getElem?_append_left (by simp;omega),Array.getElem?_append_left (by simp;omega),List.getElem?_toArray]
       ·simp only[Nat.zero_add];rw[Array.getElem?_append_left (by simp;omega),Array.getElem?_append_right (by simp;omega)];simp[pQ])
      refine⟨_,_,φ',.inl (bB a w _ _ (by rw[bS,hex];exact gf)),?_,dr,aN,ep⟩;exact .vec key (v+1) 0 _ _ _ fe (Nat.le_refl _) (fun _=>⟨_,_,rfl,wb,fun _=>⟨by simp,by simp⟩⟩) rfl
     by_cases NZ:0<L.cap
     ·obtain⟨arr,elem,hh,te,rp,_,_⟩:=b8.2.2.2 NZ;have fq:∀b,some b∈L.cM→b≠L.dx:=fun b hb=>(b8.2.2.1 b hb).2;have alM:∀b,some b∈L.cM→aD.cN L (.vv rows none) b:=fun b hb=>.inr hb;have acG:∀b,some b∈(L.cM.drop off).take len++[none]→some b∈L.cM:=by
       intro b hb;rcases List.mem_append.1 hb with hb|hb
       ·exact List.mem_of_mem_drop (List.mem_of_mem_take hb)
       ·simp at hb
      by_cases iL:len+[D.list []].length≤cap
      ·simp only[List.length_singleton]at iL;obtain⟨rfl,mJ⟩:=dg (by omega);have de:L.base+off*L.sz+len*i.size+[Value.slice none 0 0].length≤arr.size:=by rw[te,b8.1.1,np];simp;omega
       have wo:=run_append_fits (P:=P) (ty:=o.type) ht hi hz kN hh (by simpa using iL) de (by simp;have:=Nat.mul_le_mul_right i.bytes (Nat.le_add_left 1 len);omega);have Xx:=bB a w _ _ (by rw[bS,hex];exact wo);rw[b8.1.1,np,Nat.mul_one,Nat.mul_one]at Xx de;have iK:L.base+off+len+[Value.slice none 0 0].length≤arr.toList.length:=by simpa using de
       obtain⟨φ',dr,aN,fe,ep⟩:=hr.mem.EM (e:=⟨key,v,.vv rows none⟩) hm hL aw (b0:=L.dx) (.inl ⟨NZ,rfl⟩) (putCells arr.toList (L.base+off+len) [Value.slice none 0 0]).toArray ⟨v+1,L.dx,1,L.cap-off,L.base+off,(L.cM.drop off).take len++[none]⟩ (Nat.le_succ _) (fun hh=>by simp only at aw hh;omega) (.vv ((rows.drop off).take len++[[]]) none)
        (fun b hb=>by
         rcases hb with ⟨_,hb⟩|hb
         ·exact .inl ⟨NZ,hb⟩
         ·exact .inr (acG b hb)) (fun φ' kX bX jb=>by
        refine EU b8 hle _ rfl rfl (by simp only;omega) fq (hh.setRow _ (by rw[List.size_toArray,bK _ _ _ iK];simp)) ?_ ?_ ?_ ?_ jb ?_
        ·rw[List.size_toArray,bK _ _ _ iK];simp only[Array.length_toList,te];omega
        ·intro q hq;rcases j9 iK (by simpa using hq)with hq|hq
         ·exact rp q (by simpa using hq)
         ·simp at hq;subst hq;rfl
        ·intro n hn;refine⟨arr,elem,NZ,hh,?_⟩;simp only
         rw[List.getElem?_toArray,gz _ _ _ iK,if_pos (by omega)];simp
        ·simp only
         rw[List.getElem?_toArray,gz _ _ _ iK,if_neg (by omega),if_pos (by simp)];simp
        ·intro b hb;exact mY w L.dx b _ (fq b hb))
       refine⟨_,_,φ',.inl Xx,?_,dr,aN,ep⟩;exact .vec key (v+1) 0 _ _ _ fe (Nat.le_refl _) (fun _=>⟨_,_,rfl,by simpa using iL,fun _=>⟨by simp,by simp only;omega⟩⟩) rfl
      ·have Xy:cap<len+1:=by simpa using iL
       have La:=b8.1.2.1;simp only[Option.toList_none,List.length_nil,Nat.add_zero]at La;refine grow ((arr.toList.drop (L.base+off)).take len) (by simp;omega) (fun q hq=>rp q (by simpa using List.mem_of_mem_drop (List.mem_of_mem_take hq))) (fun n hn=>⟨arr,elem,NZ,hh,?_⟩) (fun w' qw=>?_) Xy
       ·rw[List.getElem?_take,if_pos hn,List.getElem?_drop];simp
       ·by_cases cw:len=0
        ·subst cw;cases ao with
         |none=>simp[Builtin.firstCells]
         |some a=>simp[Builtin.firstCells,loadCells,loadCellsFrom]
        ·obtain⟨rfl,mJ⟩:=dg (by omega);refine run_firstCells_some (P:=P) w' i.size len _ len cap _ (by simp[np];omega) (fun j c hj=>?_);rw[fo,jL (w:=w) (w':=w') (by rw[qw]),gx hh,b8.1.1,Nat.mul_one];rw[List.getElem?_take]at hj;split at hj
         ·rw[List.getElem?_drop]at hj;simpa using hj
         ·cases hj
     ·have La:=b8.1.2.1;simp only[Option.toList_none,List.length_nil,Nat.add_zero]at La;have cw:len=0:=by omega
      have uG:cap=0:=by
       rcases Nat.eq_zero_or_pos cap with h0|h0
       ·exact h0
       ·have:=(dg h0).2;omega
      subst cw;subst uG;refine grow [] rfl (by simp) (fun n hn=>by omega) (fun w' qw=>?_) (by omega);cases ao with
      |none=>simp[Builtin.firstCells]
      |some a=>simp[Builtin.firstCells,loadCells,loadCellsFrom]
  ·trivial
 ·trivial
def appR (P:Program) (m:Mem) (k0:Nat) (t:TypeId) (u:TypeId) (s x:AV):dj:=
 match tk P t with
 | .slice e=>match fm P e,wh P e,lH P e with
  |some sz,some il,some zd=>match appSrc P m sz zd u x with
   |some (c,ys)=>match s with
    | .vec k aj off len=>match Mem.get m k with
     |some ⟨_,v,.vec cL rows⟩=>.cW (c∧zd.size=sz∧v=aj∧off+len≤rows.length∧cL=sz∧(∀d∈ys,d.size=sz)∧(len+ys.length)*il≤140737488355328∧len+ys.length≤4611686018427387904)
      (.vec k (aj+1) 0 (len+ys.length)) ⟨k,aj+1,.vec sz ((rows.drop off).take len++ys)⟩
     |_=>.no
    | .lit (.slice none 0 0)=>match Mem.get m k0 with
     |some ⟨_,v,_⟩=>.cW (c∧zd.size=sz∧(∀d∈ys,d.size=sz)∧ys.length*il≤140737488355328∧ys.length≤4611686018427387904)
      (.vec k0 (v+1) 0 ys.length) ⟨k0,v+1,.vec sz ys⟩
     |_=>.no
    |_=>.no
   |none=>appV P m u sz il zd s x
  |_,_,_=>.no
 |_=>.no
theorem fJ {P:Program} {t e:TypeId} (h:tk P t=.slice e):P.underlying t=some (.slice e):=by
 unfold tk at h;split at h<;>simp_all
theorem IC {P:Program} {e:TypeId} {sz il:Nat} {zd:D} (h1:fm P e=some sz) (h2:wh P e=some il) (h3:lH P e=some zd):
 ∃i z,P.info? e=some i∧i.size=sz∧i.bytes=il∧i.zero=some z∧z.cells.size=zd.size∧(∀v∈z.cells,cn v=true)∧∀w' F,∃v,aH w' F zd v∧v.cells=z.cells:=by
 unfold fm at h1;unfold wh at h2;cases hi:P.info? e with
 |none=>simp[hi]at h1
 |some i=>
  simp[hi]at h1 h2;obtain⟨z,bB,h4,h5,h6⟩:=AO h3 default;cases hz:i.zero with
  |none=>simp[zeroValue,typeInfo,hi,hz,unsupported]at bB
  |some z'=>
   simp[zeroValue,typeInfo,hi,hz]at bB;subst bB;exact⟨i,z',rfl,h1,h2,hz,h4,h5,h6⟩
theorem Xz (P:Program) (S:St) (o:Oper) (s x:Operand) (t u:TypeId) (ho:o.op=.call {callee:=.builtin .append,args:=#[s,x],argTypes:=#[t,u]})
 (hs:(S.opd s).1=true) (hx:(S.opd x).1=true):aF P S o (appR P S.mem (keyOf o) t u (S.opd s).2 (S.opd x).2):=by
 have bB:∀(a:Act) (w w':World) (v:Value),(Builtin.append_ #[t,u] o.type #[a.eval s,a.eval x]).run P w=.ok v w'→(execOp a.eval o).run P w=.ok (.value v) w':=by
  intro a w w' v h;simp[execOp,ho,resolve,invoke,builtin,h]
 unfold appR;split
 ·rename_i e gg;have ht:=fJ gg;split
  ·rename_i sz il zd h1 h2 h3;obtain⟨i,z,hi,rfl,rfl,hz,uH,oH,wm⟩:=IC h1 h2 h3;split
   ·rename_i c ys mC
    --anI arI a new block
    have grow:∀{φ G} {a:Act} {w:World} (hr:Rel φ G S a w) {news:List Value} (kN:Cf P w (Fo G φ S.mem) u i.size z ys (a.eval x) news) {key aj:Nat} {cont:aD} (hm:(⟨key,aj,cont⟩:cJ)∈S.mem) {L:Loc} (hL:φ key=some L) (aw:L.aj=aj)
     (ao:Option Addr) (len cap:Nat) (bS:a.eval s=.slice ao len cap) (kY:List Value) (wq:List D) (wu:cj w (Fo G φ S.mem) i.size wq kY) (pQ:wq.length=len)
     (hold:∀w',w'.heap=w.heap→(Builtin.firstCells i.size len (.slice ao len cap)).run P w'=.ok kY.toArray w')
     (iL:cap<len+ys.length) (hb:(len+ys.length)*i.bytes≤140737488355328) (uI:len+ys.length≤4611686018427387904) (nO:zd.size=i.size),
     ∃v w' φ',AM P o a w v w'∧az φ' w' (Fo G φ' (Mem.set S.mem ⟨key,aj+1,.vec i.size (wq++ys)⟩)) (.vec key (aj+1) 0 (len+ys.length)) v∧
      bj φ' G (Mem.set S.mem ⟨key,aj+1,.vec i.size (wq++ys)⟩) w'∧aQ φ S.mem w φ' (Mem.set S.mem ⟨key,aj+1,.vec i.size (wq++ys)⟩) w'∧∀k,k≠key→φ' k=φ k:=by
     intro φ G a w hr news kN key aj cont hm L hL aw ao len cap bS kY wq wu pQ hold iL hb uI nO;have wb:=grownCap_ge w (len+ys.length) cap e;have gf:=rq (P:=P) (ty:=o.type) ht hi hz kN kY hold iL (by omega) (growslice_fits iL hb) (by have:=Nat.mul_le_mul_right i.bytes (Nat.le_add_left ys.length len);omega);have jx:cj w (Fo G φ S.mem) i.size (wq++ys) (kY++news):=wu.append kN.rows;obtain⟨φ',dr,aN,fe,ep⟩:=hr.mem.fresh (e:=⟨key,aj,cont⟩) hm hL aw w.drew rfl rfl rfl rfl
      (kY.toArray++news.toArray++Builtin.zeroCells z.cells (grownCap w (len+ys.length) cap e-(len+ys.length))) e i.size (grownCap w (len+ys.length) cap e) (.vec i.size (wq++ys)) (fun _ hb=>hb.2) (fun φ' hle bX jb jc=>by
       refine tc (cs:=kY++news) (rest:=(Builtin.zeroCells z.cells (grownCap w (len+ys.length) cap e-(len+ys.length))).toList) (elem:=e) rfl rfl (jx.mono jb) ?_ (by simp;omega) ?_ (fun _=>?_)
       ·intro v hv;exact qm oH v (by simpa using hv)
       ·have nk:z.cells.size=i.size:=by
         rw[uH];exact nO
        rw[List.length_append,jx.1];simp only[Array.length_toList,size_zeroCells,nk,List.length_append,pQ,←Nat.add_mul];congr 1;omega
       ·refine eR.new ?_;rw[jc];congr 2;apply Array.ext';simp)
     refine⟨_,_,φ',.inl (bB a w _ _ (by rw[bS];exact gf)),?_,dr,aN,ep⟩;exact .vec key (aj+1) 0 _ _ _ fe (Nat.le_refl _) (fun _=>⟨_,_,rfl,wb,fun _=>⟨by simp,by simp⟩⟩) rfl
    split
    ·rename_i k aj off len EV;split
     ·rename_i key v cL rows hg;refine aF.ql ?_;rintro ⟨hc,nO,rfl,hle,rfl,EW,hb,uI⟩ φ G a w hr;obtain⟨hm,hk,L,hL,aw,b8⟩:=hr.mem.get hg;simp only at hk;subst hk;have hv:=hr.opd s hs;have bF:=hr.opd x hx;rw[EV]at hv;obtain⟨news,kN⟩:=IB (P:=P) hr.mem oH (by rw[uH];exact nO) nO (wm _ _) bF mC hc EW;generalize bS:a.eval s=sv at hv;cases hv with
      |vec _ _ _ _ _ L' bM _ h _=>
       rw[hL]at bM;cases bM;obtain⟨ao,cap,rfl,fX,dg⟩:=h aw.symm;clear h;have yR:L.sz=i.size:=b8.1;have lu:((rows.drop off).take len).length=len:=by simp;omega
       by_cases iL:len+ys.length≤cap
       ·by_cases di:cap=0
        · --nothing arJ nothing
         have ID:ys=[]:=List.eq_nil_of_length_eq_zero (by omega);have cw:len=0:=by omega
         subst ID;subst cw;have wo:=pO (P:=P) (ty:=o.type) (ao:=ao) ht hi hz kN fX;obtain⟨φ',dr,aN,fe,ep⟩:=hr.mem.cW (e':=⟨key,v+1,.vec i.size ((rows.drop off).take 0++[])⟩) hm hL rfl (L':={L with aj:=v+1}) (by simp only at aw;simp;omega) (fun hh=>by simp only at aw hh;omega) rfl
          (w':=w) (fun _ _ _=>rfl) (Nat.le_refl _) (fun _ ho=>.inl ho) rfl rfl rfl (fun φ' jq kX=>by
           obtain⟨g1,g2,g3,g4⟩:=b8;refine⟨g1,by simp,by simp,fun hc=>?_⟩;obtain⟨arr,elem,f1,f2,f3,f4⟩:=g4 hc;exact⟨arr,elem,f1,f2,f3,by simp⟩)
         refine⟨_,w,φ',.inl (bB a w w _ (by rw[bS];exact wo)),?_,dr,aN,ep⟩;exact .vec key (v+1) 0 _ _ _ fe (Nat.le_refl _) (fun _=>⟨_,_,rfl,by simp,fun h=>by omega⟩) rfl
        ·obtain⟨rfl,mJ⟩:=dg (by omega);obtain⟨arr,elem,hh,te,rp,N0⟩:=mI b8 (by omega);obtain⟨B,hB⟩:∃B,B=L.base+off*i.size:=⟨_,rfl⟩;have N1:=((N0.drop off).take len (by simp;omega));have CY:(((arr.toList.drop L.base).take (rows.length*i.size)).drop (off*i.size)).take (len*i.size)=(arr.toList.drop B).take (len*i.size):=by
          have:off*i.size+len*i.size≤rows.length*i.size:=by rw[←Nat.add_mul];exact Nat.mul_le_mul_right _ hle
          rw[List.drop_take,List.take_take,Nat.min_eq_left (by omega),List.drop_drop,hB]
         rw[CY]at N1;have iS:=N1.append kN.rows;have wg:=kN.rows.1;have arK:len*i.size+news.length≤(L.cap-off)*i.size:=by
          rw[wg,←Nat.add_mul];exact Nat.mul_le_mul_right _ (by omega)
         have fu:off*i.size+(L.cap-off)*i.size=L.cap*i.size:=by rw[←Nat.add_mul];congr 1;omega
         have de:B+len*i.size+news.length≤arr.size:=by omega
         rw[yR,←hB]at bS;have wo:=run_append_fits (P:=P) (ty:=o.type) ht hi hz kN hh iL de (by have:=Nat.mul_le_mul_right i.bytes (Nat.le_add_left ys.length len);omega);obtain⟨φ',dr,aN,fe,ep⟩:=hr.mem.EM (e:=⟨key,v,.vec i.size rows⟩) hm hL aw (b0:=L.dx) ⟨by omega,rfl⟩ (putCells arr.toList (B+len*i.size) news).toArray ⟨v+1,L.dx,L.sz,L.cap-off,B,[]⟩ (Nat.le_succ _) (fun hh=>by simp only at aw hh;omega) (.vec i.size ((rows.drop off).take len++ys)) (fun _ hb=>⟨by omega,hb.2⟩) (fun φ' kX bX jb=>by
          refine rn (pre:=arr.toList.take B) (cs:=(arr.toList.drop B).take (len*i.size)++news) (rest:=arr.toList.drop (B+len*i.size+news.length)) (elem:=elem) yR (iS.mono jb) ?_ ?_ ?_ (by rw[List.length_append,lu];simp only;omega) ?_ (fun _=>?_)
          ·simp only[List.length_take,Array.length_toList];omega
          ·intro z hz;exact rp z (by simpa using List.mem_of_mem_take hz)
          ·intro z hz;exact rp z (by simpa using List.mem_of_mem_drop hz)
          ·show _=(L.cap-off)*i.size;simp only[List.length_append,List.length_take,List.length_drop,Array.length_toList];omega
          ·have e:=hh.setRow (putCells arr.toList (B+len*i.size) news).toArray (by show (putCells arr.toList _ _).length=_;rw[bK _ _ _ (by simpa using de)];simp);rw[dp _ _ _ (by simpa using de),List.take_add]at e;rw[dp _ _ _ (by simpa using de),List.take_add];simpa [List.append_assoc]using e)
         refine⟨_,_,φ',.inl (bB a w _ _ (by rw[bS];exact wo)),?_,dr,aN,ep⟩;exact .vec key (v+1) 0 _ _ _ fe (Nat.le_refl _) (fun _=>⟨_,_,rfl,iL,fun _=>⟨by simp,by simp only;omega⟩⟩) rfl
       ·by_cases di:cap=0
        ·subst di;have cw:len=0:=by omega
         subst cw;have:=grow hr kN hm hL aw ao 0 0 bS [] [] (cj.nil ..) rfl (fun w' _=>by cases ao<;>simp[Builtin.firstCells,loadCells,loadCellsFrom]) (by omega) hb uI nO;simpa using this
        ·obtain⟨rfl,mJ⟩:=dg (by omega);obtain⟨arr,elem,hh,te,rp,N0⟩:=mI b8 (by omega);have N1:=((N0.drop off).take len (by simp;omega));exact grow hr kN hm hL aw _ len cap bS _ ((rows.drop off).take len) N1 lu (fun w' qw=>by
          refine run_firstCells_some (P:=P) w' i.size len _ len cap _ (by rw[N1.1,lu]) (fun j u hj=>?_);rw[fo,show w'.cell? ⟨L.dx,L.base+off*L.sz+j,none⟩=w.cell? ⟨L.dx,L.base+off*L.sz+j,none⟩ by simp[World.cell?,qw],gx hh,yR];rw[List.getElem?_take]at hj;split at hj
          ·rw[List.getElem?_drop,List.getElem?_take]at hj;split at hj
           ·rw[List.getElem?_drop]at hj;rw[Nat.add_assoc];simpa using hj
           ·cases hj
          ·cases hj) (by omega) hb uI nO
     ·trivial
    ·rename_i EV;split
     ·rename_i key v cont hg;refine aF.ql ?_;rintro ⟨hc,nO,EW,hb,uI⟩ φ G a w hr;obtain⟨hm,hk,L,hL,aw,b8⟩:=hr.mem.get hg;simp only at hk aw;subst hk;have hv:=hr.opd s hs;have bF:=hr.opd x hx;rw[EV]at hv;obtain⟨news,kN⟩:=IB (P:=P) hr.mem oH (by rw[uH];exact nO) nO (wm _ _) bF mC hc EW;generalize bS:a.eval s=sv at hv;cases hv;by_cases ID:ys=[]
      ·subst ID;have wo:=pO (P:=P) (ty:=o.type) (ao:=none) (len:=0) (cap:=0) ht hi hz kN (Nat.le_refl _);obtain⟨φ',dr,aN,fe,ep⟩:=hr.mem.cW (e':=⟨keyOf o,v+1,.vec i.size []⟩) hm hL rfl (L':=⟨v+1,0,i.size,0,0,[]⟩) (by simp only;omega) (fun hh=>by simp only at hh;omega) rfl
        (w':=w) (fun _ _ _=>rfl) (Nat.le_refl _) (fun _ ho=>absurd ho.1 (by simp)) rfl rfl rfl (fun φ' jq kX=>
         ⟨rfl,by simp,by simp,fun hc=>by simp at hc⟩)
       refine⟨_,w,φ',.inl (bB a w w _ (by rw[bS];exact wo)),?_,dr,aN,ep⟩;exact .vec _ (v+1) 0 _ _ _ fe (Nat.le_refl _) (fun _=>⟨_,_,rfl,by simp,fun h=>by omega⟩) rfl
      ·have nN:0<ys.length:=List.length_pos_iff.2 ID;have:=grow hr kN hm hL aw none 0 0 bS [] [] (cj.nil ..) rfl (fun w' _=>by simp[Builtin.firstCells]) (by omega) (by simpa using hb) (by simpa using uI) nO;simpa using this
     ·trivial
    ·trivial
   ·exact VW P S o s x t u ho hs hx ht hi hz uH oH
  ·trivial
 ·trivial
def makeR (P:Program) (m:Mem) (k0:Nat) (t:TypeId) (l c:AV):dj:=
 match tk P t with
 | .slice e=>match fm P e,wh P e,lH P e,l,c,Mem.get m k0 with
  |some sz,some il,some zd,.d (.int .i64 n),.d (.int .i64 n'),some ⟨_,v,_⟩=>
   .cW (n=n'∧0≤n∧n*il≤140737488355328∧n≤4611686018427387904∧zd.size=sz) (.vec k0 (v+1) 0 n.toNat) ⟨k0,v+1,.vec sz (List.replicate n.toNat zd)⟩
  |_,_,_,_,_,_=>.no
 |_=>.no
theorem wrap_small {n:Int} (h0:0≤n) (h:n≤4611686018427387904):IntKind.i64.wrap n=n:=IntWalk.i64_in _ (by omega)
theorem Lc (z:Array Value) (n sz:Nat) (hz:z.size=sz) (d:D) (hs:d.size=sz) (h1:∀v∈z,cn v=true) (w:World) (F:Nat→Prop) (hd:∃v,aH w F d v∧v.cells=z):
 cj w F sz (List.replicate n d) ((Array.range (n*sz)).map (z[·%z.size]!)).toList:=by
 obtain⟨v,hv,hvz⟩:=hd;refine⟨by simp,?_,?_,?_⟩
 ·intro x hx;simp only[Array.toList_map,List.mem_map]at hx;obtain⟨i,hi,rfl⟩:=hx;have hi:i<n*sz:=by simpa using hi
  have nN:0<z.size:=by
   rw[hz];rcases Nat.eq_zero_or_pos sz with h0|h0
   ·simp[h0]at hi
   ·exact h0
  rw[getElem!_pos z _ (Nat.mod_lt _ nN)];exact h1 _ (by simp)
 ·intro x hx;rw[List.eq_of_mem_replicate hx,hs]
 ·intro i x hx;have hi:i<n:=by have:=(List.getElem?_eq_some_iff.1 hx).1;simpa using this
  have hxd:x=d:=by rw[List.getElem?_replicate]at hx;split at hx<;>simp_all
  subst hxd;refine⟨v,hv,fun j c hj=>?_⟩;have CW:=tN hv hs hj;have cg:i*sz+j<n*sz:=by
   have:i*sz+sz≤n*sz:=by rw[←Nat.succ_mul];exact Nat.mul_le_mul_right _ hi
   omega
  rw[hvz]at hj;have hm:(i*sz+j)%sz=j:=by rw[Nat.mul_comm,Nat.mul_add_mod];exact Nat.mod_eq_of_lt CW
  simp only[Array.toList_map,List.getElem?_map,Array.toList_range,List.getElem?_range cg,Option.map_some,hz,hm];rw[getElem!_pos z j (by omega)];rw[←hj];simp[show j<z.size by omega]
theorem run_makeSlice {P:Program} {w:World} {t e:TypeId} {i:TypeInfo} {z:Value} {n:Int} (ht:P.underlying t=some (.slice e)) (hi:P.info? e=some i) (hz:i.zero=some z)
 (h0:0≤n) (hb:n*i.bytes≤140737488355328) (hn:n≤4611686018427387904):
 (Instr.makeSlice t (.int .i64 n) (.int .i64 n)).run P w=.ok (.slice (some ⟨w.heap.size,0,none⟩) n.toNat n.toNat) (w.alloc (.cells ((Array.range (n.toNat*i.size)).map (z.cells[·%z.cells.size]!)) e)):=by
 have hw:=wrap_small h0 hn;have h1:¬n<0:=by omega
 have h2:¬((i.bytes:Int)*n>281474976710656):=by rw[Int.mul_comm];omega
 have h3:¬(n.toNat*i.bytes>roomBytes):=by
  unfold roomBytes;have:((n.toNat*i.bytes:Nat):Int)=n*i.bytes:=by rw[Int.natCast_mul,Int.toNat_of_nonneg h0]
  omega
 by_cases CX:n.toNat*i.size=0
 ·have ahH:n.toNat=0∨i.size=0:=Nat.mul_eq_zero.1 CX;simp[Instr.makeSlice,run_underlying ht,asInt,asIntOf,typeInfo,sizeOf,hi,hw,h1,h2,askRoom,CX,ie,show Array.range 0=#[]from rfl]
 ·have ahH:¬(n.toNat=0∨i.size=0):=fun h=>CX (Nat.mul_eq_zero.2 h);simp[Instr.makeSlice,run_underlying ht,asInt,asIntOf,typeInfo,sizeOf,zeroValue,hi,hz,hw,h1,h2,askRoom,ie];exact fun h=>absurd h CX
theorem VX (P:Program) (S:St) (o:Oper) (t:TypeId) (l c:Operand) (ho:o.op=.makeSlice t l c) (hl:(S.opd l).1=true) (hc:(S.opd c).1=true):aF P S o (makeR P S.mem (keyOf o) t (S.opd l).2 (S.opd c).2):=by
 unfold makeR;split
 ·rename_i e gg;have ht:=fJ gg;split
  ·rename_i sz il zd n n' key v cont h1 h2 h3 nq mK hg;refine aF.ql ?_;rintro ⟨rfl,h0,hb,hn,nO⟩ φ G a w hr;obtain⟨i,z,hi,rfl,rfl,hz,uH,oH,wm⟩:=IC h1 h2 h3;obtain⟨hm,hk,L,hL,aw,b8⟩:=hr.mem.get hg;simp only at hk aw;subst hk;have bS:=hr.opd l hl;have Rz:=hr.opd c hc;rw[nq]at bS;rw[mK]at Rz;have e1:a.eval l=.int .i64 n:=by
    generalize a.eval l=x at bS;cases bS with|d _ _ h=>cases h;rfl
   have e2:a.eval c=.int .i64 n:=by
    generalize a.eval c=x at Rz;cases Rz with|d _ _ h=>cases h;rfl
   have wo:=run_makeSlice (P:=P) (w:=w) ht hi hz h0 hb hn;obtain⟨φ',dr,aN,fe,ep⟩:=hr.mem.fresh (e:=⟨keyOf o,v,cont⟩) hm hL aw w rfl rfl rfl rfl
    ((Array.range (n.toNat*i.size)).map (z.cells[·%z.cells.size]!)) e i.size n.toNat (.vec i.size (List.replicate n.toNat zd)) (fun _ hb=>hb.2) (fun φ' hle bX jb jc=>by
     refine tc (cs:=((Array.range (n.toNat*i.size)).map (z.cells[·%z.cells.size]!)).toList) (rest:=[]) (elem:=e) rfl rfl (Lc z.cells n.toNat i.size (by rw[uH,nO]) zd nO oH _ _ (wm _ _)) (by simp) (by simp) (by simp) (fun _=>?_);refine eR.new ?_;rw[jc,List.append_nil,Array.toArray_toList])
   refine⟨.slice (some ⟨w.heap.size,0,none⟩) n.toNat n.toNat,_,φ',.inl ?_,?_,dr,aN,ep⟩
   ·simp[execOp,ho,e1,e2,wo]
   ·exact .vec _ (v+1) 0 _ _ _ fe (Nat.le_refl _) (fun _=>⟨_,_,rfl,Nat.le_refl _,fun _=>⟨by simp,by simp⟩⟩) rfl
  ·trivial
 ·trivial
def copyR (P:Program) (m:Mem) (t:TypeId) (s x:AV):dj:=
 match tk P t with
 | .slice e=>match fm P e with
  |some sz=>match srcRows m sz x with
   |some (c,ys)=>match s with
    | .vec k aj off len=>match Mem.get m k with
     |some ⟨_,v,.vec cL rows⟩=>.cW (c∧v=aj∧off+len≤rows.length∧cL=sz∧(∀d∈ys,d.size=sz))
      (.d (.int .i64 (min ys.length len:Nat))) ⟨k,aj,.vec sz (putCells rows off (ys.take len))⟩
     |_=>.no
    |_=>.no
   |none=>.no
  |none=>.no
 |_=>.no
theorem yJ {w F sz} {rows ys:List D} {cs news:List Value} {off:Nat} (h:cj w F sz rows cs) (h':cj w F sz ys news) (hle:off+ys.length≤rows.length):
 cj w F sz (putCells rows off ys) (putCells cs (off*sz) news):=by
 have kX:off*sz+news.length≤cs.length:=by rw[h.1,h'.1,←Nat.add_mul];exact Nat.mul_le_mul_right _ hle
 rw[dp _ _ _ hle,dp _ _ _ kX];have:=((h.take off (by omega)).append h').append (h.drop (off+ys.length));rw[Nat.add_mul,←h'.1]at this;exact this
theorem Ec {α:Type} {cs news:List α} {o n:Nat} (h:o+news.length≤n) (hn:n≤cs.length):putCells (cs.take n) o news++cs.drop n=putCells cs o news:=by
 rw[dp _ _ _ (by simp;omega),dp _ _ _ (by omega),List.take_take,Nat.min_eq_left (by omega),List.append_assoc (List.take _ _++_)];congr 1;rw[List.drop_take];have e2:cs.drop n=(cs.drop (o+news.length)).drop (n-(o+news.length)):=by rw[List.drop_drop];congr 1;omega
 rw[e2,List.take_append_drop]
theorem EX {P:Program} {w w':World} {t u ty e:TypeId} {sz:Nat} (ht:P.underlying t=some (.slice e)) (h1:fm P e=some sz) {ao:Option Addr} {len cap:Nat} {x:Value} {m:Nat} {news:List Value}
 (hlen:(Builtin.lenOf x).run P w=.ok m w) (jy:(Builtin.firstCells sz (min m len) x).run P w=.ok news.toArray w)
 (eB:(match ao with|some a=>storeCells a news|none=>pure ()).run P w=.ok () w'):
 (Builtin.copy_ #[t,u] ty #[.slice ao len cap,x]).run P w=.ok (.int .i64 (min m len:Nat)) w':=by
 have hm:Nat.min m len=min m len:=rfl;cases ao with
 |none=>
  simp only[Sem.run_pure,Result.ok.injEq,true_and]at eB;subst eB;simp[Builtin.copy_,run_underlying ht,hlen,hm,run_sizeOf h1,jy,goInt]
 |some a=>
  simp only at eB;simp[Builtin.copy_,run_underlying ht,hlen,hm,run_sizeOf h1,jy,eB,goInt]
theorem VY (P:Program) (S:St) (o:Oper) (s x:Operand) (t u:TypeId) (ho:o.op=.call {callee:=.builtin .copy,args:=#[s,x],argTypes:=#[t,u]})
 (hs:(S.opd s).1=true) (hx:(S.opd x).1=true):aF P S o (copyR P S.mem t (S.opd s).2 (S.opd x).2):=by
 unfold copyR;split
 ·rename_i e gg;have ht:=fJ gg;split
  ·rename_i sz h1;split
   ·rename_i c ys mC;split
    ·rename_i k aj off len EV;split
     ·rename_i key v cL rows hg;refine aF.ql ?_;rintro ⟨hc,rfl,hle,rfl,EW⟩ φ G a w hr;obtain⟨hm,hk,L,hL,aw,b8⟩:=hr.mem.get hg;simp only at hk;subst hk;have hv:=hr.opd s hs;have bF:=hr.opd x hx;rw[EV]at hv;obtain⟨news,kN⟩:=EP (P:=P) hr.mem bF mC hc EW;generalize bS:a.eval s=sv at hv;cases hv with
      |vec _ _ _ _ _ L' bM _ h _=>
       rw[hL]at bM;cases bM;obtain⟨ao,cap,rfl,fX,dg⟩:=h aw.symm;clear h;have yR:L.sz=cL:=b8.1;have XA:min ys.length len≤ys.length:=Nat.min_le_left _ _;have jy:=kN.NX (min ys.length len) XA w (fun _ _=>rfl);have htl:(ys.take len).length=min ys.length len:=by rw[List.length_take,Nat.min_comm]
       by_cases cw:len=0
       ·subst cw;obtain⟨φ',dr,aN,fe,ep⟩:=hr.mem.cW (e':=⟨key,v,.vec cL (putCells rows off (ys.take 0))⟩) hm hL rfl (L':=L) (Nat.le_refl _) (fun _=>rfl) aw
         (w':=w) (fun _ _ _=>rfl) (Nat.le_refl _) (fun _ ho=>.inl ho) rfl rfl rfl (fun φ' jq kX=>by
          have e:putCells rows off (ys.take 0)=rows:=by rw[dp _ _ _ (by simp;omega)];simp
          rw[e];refine b8.mono kX (fun _ _ _=>rfl) (Nat.le_refl _) (fun b hb=>?_) (fun _ _=>rfl);rintro (hG|⟨y,hy,Ly,dA,gN⟩)
          ·exact .inl hG
          ·right;rcases (Mem.mem_set hr.mem.nodup).1 hy with ⟨rfl,_⟩|⟨yN,bE⟩
           ·subst jq;simp at dA;subst dA;exact⟨_,hm,L,hL,gN⟩
           ·subst jq;simp at bE;simp[bE]at dA;exact⟨y,yN,Ly,dA,gN⟩)
        refine⟨_,w,φ',.inl ?_,.d _ _ (.int _ _),dr,aN,ep⟩;have eL:news.take (min ys.length 0*cL)=[]:=by simp
        rw[eL]at jy;have:=EX (P:=P) (ty:=o.type) (u:=u) (ao:=ao) (len:=0) (cap:=cap) ht h1 (kN.len w) jy (w':=w) (by cases ao<;>simp[storeCells]);simp[execOp,ho,resolve,invoke,builtin,bS,this]
       ·obtain⟨rfl,mJ⟩:=dg (by omega);obtain⟨arr,elem,hh,te,rp,N0⟩:=mI b8 (by omega);have wA:cj w (Fo G φ S.mem) cL (ys.take len) (news.take (min ys.length len*cL)):=by
         have:=kN.rows.take (min ys.length len) XA;have e:ys.take (min ys.length len)=ys.take len:=by
          rcases Nat.le_total ys.length len with h|h
          ·rw[Nat.min_eq_left h,List.take_of_length_le (Nat.le_refl _),List.take_of_length_le h]
          ·rw[Nat.min_eq_right h]
         rw[e]at this;exact this
        have XB:off+(ys.take len).length≤rows.length:=by rw[htl];omega
        have iK:=yJ N0 wA XB;have wg:=wA.1;rw[htl]at wg;have gQ:(off+min ys.length len)*cL≤rows.length*cL:=Nat.mul_le_mul_right _ (by omega);have sf:rows.length*cL≤L.cap*cL:=Nat.mul_le_mul_right _ b8.2.1;have m8:L.base+off*cL+(news.take (min ys.length len*cL)).length≤arr.toList.length:=by
         rw[Nat.add_mul]at gQ;rw[wg];simp only[Array.length_toList];omega
        have ⟨fz,hh0,AL⟩:=hh;have eB:=jv (P:=P) L.dx (L.base+off*cL) elem fz (news.take (min ys.length len*cL)) 0 arr w hh0 AL (by simpa using m8) (fun x hx=>m7 (wA.2.1 x hx));simp only[Nat.add_zero]at eB;rw[←dp _ _ _ m8]at eB;have EY:arr.toList.take L.base++(putCells ((arr.toList.drop L.base).take (rows.length*cL)) (off*cL) (news.take (min ys.length len*cL))++(arr.toList.drop L.base).drop (rows.length*cL))=putCells arr.toList (L.base+off*cL) (news.take (min ys.length len*cL)):=by
         rw[Ec (by rw[wg,←Nat.add_mul];exact gQ) (by simp only[List.length_drop,Array.length_toList];omega)];rw[dp _ _ _ (by rw[wg];rw[Nat.add_mul]at gQ;simp only[List.length_drop,Array.length_toList];omega),dp _ _ _ m8,List.drop_drop,List.take_add];simp only[List.append_assoc,Nat.add_assoc]
        obtain⟨φ',dr,aN,fe,ep⟩:=hr.mem.store (e:=⟨key,v,.vec cL rows⟩) hm hL aw (b0:=L.dx) ⟨by omega,rfl⟩ (putCells arr.toList (L.base+off*cL) (news.take (min ys.length len*cL))).toArray v (Nat.le_refl _) (.vec cL (putCells rows off (ys.take len))) (fun _ hb=>hb) (fun φ' kX bX jb=>by
         refine rn (pre:=arr.toList.take L.base) (cs:=putCells ((arr.toList.drop L.base).take (rows.length*cL)) (off*cL) (news.take (min ys.length len*cL))) (rest:=(arr.toList.drop L.base).drop (rows.length*cL)) (elem:=elem) yR (iK.mono jb) ?_ ?_ ?_ ?_ ?_ (fun _=>?_)
         ·simp only[List.length_take,Array.length_toList];omega
         ·intro z hz;exact rp z (by simpa using List.mem_of_mem_take hz)
         ·intro z hz;exact rp z (by simpa using List.mem_of_mem_drop (List.mem_of_mem_drop hz))
         ·rw[bK _ _ _ XB];exact b8.2.1
         ·show _=L.cap*cL;rw[List.length_append,bK _ _ _ (by rw[wg,←Nat.add_mul];simp only[List.length_take,List.length_drop,Array.length_toList];omega),←List.length_append,List.take_append_drop];simp only[List.length_drop,Array.length_toList];omega
         ·rw[EY];exact hh.setRow _ (by show (putCells arr.toList _ _).length=_;rw[bK _ _ _ m8];simp))
        refine⟨_,_,φ',.inl ?_,.d _ _ (.int _ _),dr,aN,ep⟩;have:=EX (P:=P) (ty:=o.type) (u:=u) (ao:=some ⟨L.dx,L.base+off*L.sz,none⟩) (len:=len) (cap:=cap) ht h1 (kN.len w) jy (by rw[yR];exact eB);simp[execOp,ho,resolve,invoke,builtin,bS,this]
     ·trivial
    ·trivial
   ·trivial
  ·trivial
 ·trivial
theorem tf {P:Program} {s:TypeId} {f n b o:Nat} {w:World} (h:uE P s f=some n):(Instr.fieldAt s (.pointer (some ⟨b,o,none⟩)) f).run P w=.ok (.pointer (some ⟨b,o+n,none⟩)) w:=by
 unfold uE at h;split at h
 ·rename_i fs hu;split at h
  ·rename_i fl hf;split at h
   ·rename_i i hi;split at h
    ·cases h
    ·rename_i hz;simp at h;subst h;have hs:(sizeOf fl.type).run P w=.ok i.size w:=run_sizeOf (by simp[fm,hi]);simp[Instr.fieldAt,run_underlying hu,hf,Instr.sureAddr,fieldPlace,hs,hz,fo]
   ·cases h
  ·cases h
 ·cases h
def fieldRm (P:Program) (m:Mem) (s:TypeId) (f:Nat) (p:AV):dj:=
 match uE P s f with
 |some n=>match p with
  | .ptr k aj off=>match Mem.get m k with
   |some ⟨_,v,_⟩=>.val (v=aj) (.ptr k aj (off+n))
   |none=>.no
  | .cG k aj i j=>match Mem.get m k with
   |some ⟨_,v,_⟩=>.val (v=aj) (.cG k aj i (j+n))
   |none=>.no
  | .dG x j=>.val True (.dG x (j+n))
  |_=>.no
 |none=>.no
theorem RA (P:Program) (S:St) (o:Oper) (s:TypeId) (x:Operand) (f:Nat) (ho:o.op=.fieldAddr s x f) (hx:(S.opd x).1=true):aF P S o (fieldRm P S.mem s f (S.opd x).2):=by
 unfold fieldRm;split
 ·rename_i n hn;split
  ·rename_i k aj off hp;split
   ·rename_i key v cont hg;refine aF.pure ?_;rintro rfl φ G a w hr;have hv:=hr.opd x hx;rw[hp]at hv;obtain⟨hm,hk,L,hL,aw,_⟩:=hr.mem.get hg;simp only at aw;have e:=hv.pM hL aw;refine⟨.pointer (some ⟨L.dx,off+n,none⟩),by simp[execOp,ho,e,tf hn],.ptr k v _ _ L hL (by omega) (fun _=>rfl) rfl⟩
   ·trivial
  ·rename_i k aj i j hp;split
   ·rename_i key v cont hg;refine aF.pure ?_;rintro rfl φ G a w hr;have hv:=hr.opd x hx;rw[hp]at hv;obtain⟨hm,hk,L,hL,aw,_⟩:=hr.mem.get hg;simp only at aw;have e:=hv.j7 hL aw;refine⟨.pointer (some ⟨L.dx,L.base+i*L.sz+j+n,none⟩),by simp[execOp,ho,e,tf hn],.cG k v _ _ _ L hL (by omega) (fun _=>by rw[Nat.add_assoc]) rfl⟩
   ·trivial
  ·rename_i d j hp;refine aF.pure ?_;rintro _ φ G a w hr;have hv:=hr.opd x hx;rw[hp]at hv;generalize bX:a.eval x=av at hv;cases hv with
   |dG _ _ b off x' hb hF oI hc=>
    refine⟨.pointer (some ⟨b,off+(j+n),none⟩),by simp[execOp,ho,bX,tf hn,Nat.add_assoc],.dG d (j+n) b off x' hb hF oI hc⟩
  ·trivial
 ·trivial
def nilCheckR (m:Mem) (p:AV):dj:=
 match p with
 | .ptr k aj off=>match Mem.get m k with
  |some ⟨_,v,_⟩=>.val (v=aj) (.ptr k aj off)
  |none=>.no
 | .cG k aj i j=>match Mem.get m k with
  |some ⟨_,v,_⟩=>.val (v=aj) (.cG k aj i j)
  |none=>.no
 | .dG x j=>.val True (.dG x j)
 |_=>.no
theorem H0 (P:Program) (S:St) (o:Oper) (x:Operand) (ho:o.op=.nilCheck x) (hx:(S.opd x).1=true):aF P S o (nilCheckR S.mem (S.opd x).2):=by
 unfold nilCheckR;split
 ·rename_i k aj off hp;split
  ·rename_i key v cont hg;refine aF.pure ?_;rintro rfl φ G a w hr;have hv:=hr.opd x hx;rw[hp]at hv;obtain⟨hm,hk,L,hL,aw,_⟩:=hr.mem.get hg;simp only at aw;have e:=hv.pM hL aw;exact⟨_,by simp only[execOp,ho,e];rfl,.ptr k v _ _ L hL (by omega) (fun _=>rfl) rfl⟩
  ·trivial
 ·rename_i k aj i j hp;split
  ·rename_i key v cont hg;refine aF.pure ?_;rintro rfl φ G a w hr;have hv:=hr.opd x hx;rw[hp]at hv;obtain⟨hm,hk,L,hL,aw,_⟩:=hr.mem.get hg;simp only at aw;have e:=hv.j7 hL aw;exact⟨_,by simp only[execOp,ho,e];rfl,.cG k v _ _ _ L hL (by omega) (fun _=>rfl) rfl⟩
  ·trivial
 ·rename_i d j hp;refine aF.pure ?_;rintro _ φ G a w hr;have hv:=hr.opd x hx;rw[hp]at hv;generalize bX:a.eval x=av at hv;cases hv with
  |dG _ _ b off x' hb hF oI hc=>
   exact⟨.pointer (some ⟨b,off+j,none⟩),by simp only[execOp,ho,bX];rfl,.dG d j b off x' hb hF oI hc⟩
 ·trivial
theorem jz {φ w F k n v} (h:az φ w F (.d (.int k n)) v):v=.int k n:=by cases h with|d _ _ h=>cases h;rfl
theorem qZ {φ w F b v} (h:az φ w F (.d (.bool b)) v):v=.bool b:=by cases h with|d _ _ h=>cases h;rfl
theorem rr {φ w F s v} (h:az φ w F (.d (.str s)) v):∃b:ByteArray,v=.string b∧b.data.toList=s:=by cases h with|d _ _ h=>cases h with|str b _ h=>exact⟨b,rfl,h⟩
theorem ru {P:Program} {t:TypeId} {n e} (h:tk P t=.arr n e):P.underlying t=some (.array n e):=by
 unfold tk at h;split at h<;>simp_all
theorem mL {P:Program} {t:TypeId} (h:tk P t=.str):P.underlying t=some .string:=by
 unfold tk at h;split at h<;>simp_all
theorem Cg {P:Program} {t:TypeId} (h:tk P t=.bool):P.underlying t=some .bool:=by
 unfold tk at h;split at h<;>simp_all
theorem tQ {P:Program} {t:TypeId} {k} (h:tk P t=.int k):P.underlying t=some (.int k):=by
 unfold tk at h;split at h<;>simp_all
def indexR (P:Program) (m:Mem) (t:TypeId) (p i:AV):dj:=
 match i with
 | .d (.int _ n)=>match tk P t with
  | .slice e=>match fm P e with
   |some sz=>match p with
    | .d (.list xs)=>.val (0≤n∧n.toNat<xs.length∧(D.at xs n.toNat).size=sz) (.dG (D.at xs n.toNat) 0)
    | .vec k aj off len=>match Mem.get m k with
     |some ⟨_,v,.vec cL _⟩=>.val (v=aj∧0≤n∧n.toNat<len∧cL=sz) (.cG k aj (off+n.toNat) 0)
     |some ⟨_,v,.vv _ _⟩=>.val (v=aj∧0≤n∧n.toNat<len∧sz=1) (.cG k aj (off+n.toNat) 0)
     |_=>.no
    |_=>.no
   |none=>.no
  | .arr len e=>match fm P e with
   |some sz=>match p with
    | .ptr k aj off=>match Mem.get m k with
     |some ⟨_,v,_⟩=>.val (v=aj∧0≤n∧n.toNat<len) (.ptr k aj (off+n.toNat*sz))
     |none=>.no
    | .cG k aj i j=>match Mem.get m k with
     |some ⟨_,v,.vec cL _⟩=>if cL=1∧sz=1∧j=0 then .val (v=aj∧0≤n∧n.toNat<len) (.cG k aj (i+n.toNat) 0)else .val (v=aj∧0≤n∧n.toNat<len) (.cG k aj i (j+n.toNat*sz))
     |some ⟨_,v,_⟩=>.val (v=aj∧0≤n∧n.toNat<len) (.cG k aj i (j+n.toNat*sz))
     |none=>.no
    | .dG x j=>.val (0≤n∧n.toNat<len) (.dG x (j+n.toNat*sz))
    |_=>.no
   |none=>.no
  |_=>.no
 |_=>.no
theorem oV {P:Program} {t e:TypeId} {sz b o len cap:Nat} {k:IntKind} {n:Int} {w:World} (ht:P.underlying t=some (.slice e)) (hs:fm P e=some sz) (h0:0≤n) (hl:n.toNat<len):
 (Instr.indexAt t (.slice (some ⟨b,o,none⟩) len cap) (.int k n)).run P w=.ok (.pointer (some ⟨b,o+n.toNat*sz,none⟩)) w:=by
 have hn:n<(len:Int):=by omega
 simp[Instr.indexAt,asIntOf,run_underlying ht,run_sizeOf hs,h0,hn,fo]
theorem lI {P:Program} {t e:TypeId} {sz b o len:Nat} {k:IntKind} {n:Int} {w:World} (ht:P.underlying t=some (.array len e)) (hs:fm P e=some sz) (h0:0≤n) (hl:n.toNat<len):
 (Instr.indexAt t (.pointer (some ⟨b,o,none⟩)) (.int k n)).run P w=.ok (.pointer (some ⟨b,o+n.toNat*sz,none⟩)) w:=by
 have hn:n<(len:Int):=by omega
 simp[Instr.indexAt,Instr.sureAddr,asIntOf,run_underlying ht,run_sizeOf hs,h0,hn,fo]
theorem VZ {w F xs b off cap len} (h:aH w F (.list xs) (.slice (some ⟨b,off,none⟩) len cap)) {i sz:Nat} (hi:i<xs.length) (hs:(D.at xs i).size=sz):
 len=xs.length∧b<w.heap.size∧¬F b∧∃v,aH w F (D.at xs i) v∧∀(j:Nat) c,v.cells[j]?=some c→w.cell? ⟨b,off+i*sz+j,none⟩=some c:=by
 generalize hx:D.list xs=x at h;generalize hv:Value.slice (some ⟨b,off,none⟩) len cap=v at h;cases h with
 |nil a c=>simp at hx;subst hx;simp at hi
 |list ys b' arL wi cL vs di hb hF bN NW hc=>
  simp at hx hv;obtain⟨⟨rfl,rfl⟩,rfl,rfl⟩:=hv;subst hx;have:cL=sz:=by rw[←hs,bN _ (List.mem_of_getElem? (ju hi))]
  subst this;exact⟨rfl,hb,hF,vs i,NW i _ (ju hi),fun j c hj=>hc i j c hi hj⟩
 |_=>simp at hx
theorem N3 {w F xs v} (h:aH w F (.list xs) v) (bE:xs≠[]):∃b off cap,v=.slice (some ⟨b,off,none⟩) xs.length cap:=by
 cases h with
 |nil a c=>exact absurd rfl bE
 |list b off cap sz vs=>exact⟨_,_,_,rfl⟩
theorem RB (P:Program) (S:St) (o:Oper) (t:TypeId) (x i:Operand) (ho:o.op=.indexAddr t x i) (hx:(S.opd x).1=true) (hi:(S.opd i).1=true):aF P S o (indexR P S.mem t (S.opd x).2 (S.opd i).2):=by
 unfold indexR;split
 ·rename_i kk n N4;have yT:∀{φ G a w},Rel φ G S a w→a.eval i=.int kk n:=fun hr=>by
   have:=hr.opd i hi;rw[N4]at this;exact jz this
  split
  ·rename_i e gg;have ht:=fJ gg;split
   ·rename_i sz hs;split
    ·rename_i xs hp;refine aF.pure ?_;rintro ⟨h0,hl,bN⟩ φ G a w hr;have hv:=hr.opd x hx;rw[hp]at hv;generalize bX:a.eval x=av at hv;cases hv with
     |d _ _ h=>
      obtain⟨b,off,cap,rfl⟩:=N3 h (by intro hh;subst hh;simp at hl);obtain⟨_,hb,hF,v,hv,hc⟩:=VZ h hl bN;refine⟨_,by simp only[execOp,ho,bX,yT hr,Sem.run_bind,oV ht hs h0 hl];rfl,?_⟩;exact .dG (D.at xs n.toNat) 0 b (off+n.toNat*sz) v hb hF hv hc
    ·rename_i k aj off len hp;split
     ·rename_i key v cL rows hg;refine aF.pure ?_;rintro ⟨rfl,h0,hl,rfl⟩ φ G a w hr;have hv:=hr.opd x hx;rw[hp]at hv;obtain⟨hm,hk,L,hL,aw,b8⟩:=hr.mem.get hg;simp only at aw;generalize bX:a.eval x=av at hv;cases hv with
      |vec _ _ _ _ _ L' bM _ h _=>
       rw[hL]at bM;cases bM;obtain⟨ao,cap,rfl,fX,dg⟩:=h aw.symm;clear h;obtain⟨rfl,mJ⟩:=dg (by omega);refine⟨_,by simp only[execOp,ho,bX,yT hr,Sem.run_bind,oV ht hs h0 hl];rfl,?_⟩;exact .cG k v _ 0 _ L hL (by omega) (fun _=>by rw[b8.1,Nat.add_mul,Nat.add_zero,Nat.add_assoc]) rfl
     ·rename_i key v rows y hg;refine aF.pure ?_;rintro ⟨rfl,h0,hl,rfl⟩ φ G a w hr;have hv:=hr.opd x hx;rw[hp]at hv;obtain⟨hm,hk,L,hL,aw,b8⟩:=hr.mem.get hg;simp only at aw;generalize bX:a.eval x=av at hv;cases hv with
      |vec _ _ _ _ _ L' bM _ h _=>
       rw[hL]at bM;cases bM;obtain⟨ao,cap,rfl,fX,dg⟩:=h aw.symm;clear h;obtain⟨rfl,mJ⟩:=dg (by omega);refine⟨_,by simp only[execOp,ho,bX,yT hr,Sem.run_bind,oV ht hs h0 hl];rfl,?_⟩;exact .cG k v _ 0 _ L hL (by omega) (fun _=>by rw[b8.1.1,Nat.add_mul,Nat.add_zero,Nat.add_assoc]) rfl
     ·trivial
    ·trivial
   ·trivial
  ·rename_i len e gg;have ht:=ru gg;split
   ·rename_i sz hs;split
    ·rename_i k aj off hp;split
     ·rename_i key v cont hg;refine aF.pure ?_;rintro ⟨rfl,h0,hl⟩ φ G a w hr;have hv:=hr.opd x hx;rw[hp]at hv;obtain⟨hm,hk,L,hL,aw,_⟩:=hr.mem.get hg;simp only at aw;have e:=hv.pM hL aw;refine⟨_,by simp only[execOp,ho,e,yT hr,Sem.run_bind,lI ht hs h0 hl];rfl,.ptr k v _ _ L hL (by omega) (fun _=>rfl) rfl⟩
     ·trivial
    ·rename_i k aj i' j hp;split
     ·rename_i key v cL rows hg;split
      ·rename_i h3;obtain⟨rfl,rfl,rfl⟩:=h3;refine aF.pure ?_;rintro ⟨rfl,h0,hl⟩ φ G a w hr;have hv:=hr.opd x hx;rw[hp]at hv;obtain⟨hm,hk,L,hL,aw,b8⟩:=hr.mem.get hg;simp only at aw;have e:=hv.j7 hL aw;have h1:L.sz=1:=b8.1;refine⟨_,by simp only[execOp,ho,e,yT hr,Sem.run_bind,lI ht hs h0 hl];rfl,.cG k v _ _ _ L hL (by omega) (fun _=>by rw[h1];simp[Nat.add_assoc]) rfl⟩
      ·refine aF.pure ?_;rintro ⟨rfl,h0,hl⟩ φ G a w hr;have hv:=hr.opd x hx;rw[hp]at hv;obtain⟨hm,hk,L,hL,aw,_⟩:=hr.mem.get hg;simp only at aw;have e:=hv.j7 hL aw;refine⟨_,by simp only[execOp,ho,e,yT hr,Sem.run_bind,lI ht hs h0 hl];rfl,.cG k v _ _ _ L hL (by omega) (fun _=>by rw[Nat.add_assoc]) rfl⟩
     ·rename_i key v cont _ hg;refine aF.pure ?_;rintro ⟨rfl,h0,hl⟩ φ G a w hr;have hv:=hr.opd x hx;rw[hp]at hv;obtain⟨hm,hk,L,hL,aw,_⟩:=hr.mem.get hg;simp only at aw;have e:=hv.j7 hL aw;refine⟨_,by simp only[execOp,ho,e,yT hr,Sem.run_bind,lI ht hs h0 hl];rfl,.cG k v _ _ _ L hL (by omega) (fun _=>by rw[Nat.add_assoc]) rfl⟩
     ·trivial
    ·rename_i d j hp;refine aF.pure ?_;rintro ⟨h0,hl⟩ φ G a w hr;have hv:=hr.opd x hx;rw[hp]at hv;generalize bX:a.eval x=av at hv;cases hv with
     |dG _ _ b off x' hb hF oI hc=>
      refine⟨.pointer (some ⟨b,off+(j+n.toNat*sz),none⟩),by simp[execOp,ho,bX,yT hr,lI ht hs h0 hl,Nat.add_assoc],.dG d _ b off x' hb hF oI hc⟩
    ·trivial
   ·trivial
  ·trivial
 ·trivial
def intBin (op:BinOp) (k:IntKind) (a b:Int):Option (Bool×D):=
 match op with
 | .add=>some (true,.int k (k.wrap (a+b)))
 | .sub=>some (true,.int k (k.wrap (a-b)))
 | .mul=>some (true,.int k (k.wrap (a*b)))
 | .quo=>some (b≠0,.int k (k.wrap (a.tdiv b)))
 | .rem=>some (b≠0,.int k (a.tmod b))
 | .and=>some (true,.int k (k.wrap (BitVec.ofInt k.bits a &&& BitVec.ofInt k.bits b).toNat))
 | .or=>some (true,.int k (k.wrap (BitVec.ofInt k.bits a ||| BitVec.ofInt k.bits b).toNat))
 | .xor=>some (true,.int k (k.wrap (BitVec.ofInt k.bits a ^^^ BitVec.ofInt k.bits b).toNat))
 | .andNot=>some (true,.int k (k.wrap (BitVec.ofInt k.bits a &&& ~~~BitVec.ofInt k.bits b).toNat))
 | .eql=>some (true,.bool (a == b))
 | .neq=>some (true,.bool (a != b))
 | .lss=>some (true,.bool (decide (a<b)))
 | .leq=>some (true,.bool (decide (a≤b)))
 | .gtr=>some (true,.bool (decide (b<a)))
 | .geq=>some (true,.bool (decide (b≤a)))
 |_=>none
def zH (op:BinOp) (k:IntKind) (a b:Int):Option (Bool×D):=
 match op with
 | .shl=>some (0≤b,.int k (k.wrap (a*2^(min b.toNat k.bits))))
 | .shr=>some (0≤b,.int k (a.fdiv (2^(min b.toNat k.bits))))
 |_=>none
def strBin (op:BinOp) (s t:List UInt8):Option (Bool×D):=
 match op with
 | .add=>some (s.length+t.length≤4611686018427387904,.str (s++t))
 | .eql=>some (true,.bool (s == t))
 | .neq=>some (true,.bool (!(s == t)))
 | .lss=>some (true,.bool (Op.bytesLess s t))
 | .leq=>some (true,.bool (Op.bytesLess s t||s == t))
 | .gtr=>some (true,.bool (!(Op.bytesLess s t||s == t)))
 | .geq=>some (true,.bool (!Op.bytesLess s t))
 |_=>none
def eqFlat:TK→D→D→Option Bool
 | .int _,.int k a,.int k' b=>if k=k' then some (a == b)else none
 | .bool,.bool a,.bool b=>some (a == b)
 | .str,.str a,.str b=>some (a == b)
 |_,_,_=>none
def eqFlats:List TK→List D→List D→Option Bool
 |[],[],[]=>some true
 |k::ks,x::xs,y::ys=>match eqFlat k x y,eqFlats ks xs ys with
  |some a,some b=>some (a&&b)
  |_,_=>none
 |_,_,_=>none
def wB (rec:TypeId→Option (List TK)):List Field→Nat→Option (List TK)
 |[],_=>some []
 |f::fs,o=>if f.name≠ "_" ∧f.offset=o then (match rec f.type with
  |some ks=>match wB rec fs (o+ks.length)with
   |some r=>some (ks++r)
   |none=>none
  |none=>none)else none
def AP (P:Program):Nat→TypeId→Option (List TK)
 |0,_=>none
 |n+1,t=>match tk P t with
  | .int k=>some [.int k]
  | .bool=>some [.bool]
  | .str=>some [.str]
  | .struct=>match P.underlying t with
   |some (.struct fs)=>if P.stoodInHeld t=false then (match wB (AP P n) fs.toList 0 with
    |some ks=>if fm P t=some ks.length then some ks else none
    |none=>none)else none
   |_=>none
  |_=>none
def dI (P:Program) (t:TypeId):Option (List TK):=
 match P.underlying t with
 |some (.struct _)=>if P.eqGuardType P.depth t=false then AP P 8 t else none
 |_=>none
def binR (P:Program) (op:BinOp) (t:TypeId) (x y:AV):dj:=
 match x,y with
 | .d (.int k a),.d (.int k' b)=>match op with
  | .shl=>.val (0≤b) (.d (.int k (k.wrap (a*2^(min b.toNat k.bits)))))
  | .shr=>.val (0≤b) (.d (.int k (a.fdiv (2^(min b.toNat k.bits)))))
  |op=>match intBin op k a b with
   |some (c,d)=>.val (k=k'∧c) (.d d)
   |none=>.no
 | .d (.str a),.d (.str b)=>match strBin op a b with
  |some (c,d)=>.val c (.d d)
  |none=>.no
 | .d (.bool a),.d (.bool b)=>match op with
  | .eql=>.val (tk P t=.bool) (.d (.bool (a == b)))
  | .neq=>.val (tk P t=.bool) (.d (.bool (a != b)))
  |_=>.no
 | .d (.agg a),.d (.agg b)=>match dI P t with
  |some ks=>match eqFlats ks a b with
   |some r=>match op with
    | .eql=>.val True (.d (.bool r))
    | .neq=>.val True (.d (.bool (!r)))
    |_=>.no
   |none=>.no
  |none=>.no
 |_,_=>.no
theorem EZ (P:Program) (w:World) (op:BinOp) (t:TypeId) (x y:Operand) (a b:Value) (h:(∀c,a≠.agg c)∧a≠.nilIface):(eqGuard op t x y a b).run P w=.ok () w:=by
 unfold eqGuard;cases a<;>first|exact absurd rfl (h.1 _)|exact absurd rfl h.2|(cases op<;>simp)
theorem Ld (P:Program) (w:World) (op:BinOp) (t:TypeId) (k:IntKind) (a b:Int) (c d) (h:intBin op k a b=some (c,d)) (hc:c=true):∃v,(binOp op t (.int k a) (.int k b)).run P w=.ok v w∧∀F,aH w F d v:=by
 cases op<;>simp only[intBin,Option.some.injEq,Prod.mk.injEq,reduceCtorEq]at h<;>(try exact h.elim)<;>obtain⟨rfl,rfl⟩:=h<;>(try simp only[decide_eq_true_eq]at hc)<;>
  refine⟨_,by simp only[binOp,Op.intArith,Op.intDiv,Op.intBits,Op.intCmp,ne_eq,not_true_eq_false,if_false,hc,Sem.run_pure,gt_iff_lt,ge_iff_le];rfl,fun F=>by first|exact .int _ _|exact .bool _⟩
theorem wC (P:Program) (w:World) (op:BinOp) (t:TypeId) (k k':IntKind) (a b:Int) (c d) (h:zH op k a b=some (c,d)) (hc:c=true):∃v,(binOp op t (.int k a) (.int k' b)).run P w=.ok v w∧∀F,aH w F d v:=by
 cases op<;>simp only[zH,Option.some.injEq,Prod.mk.injEq,reduceCtorEq]at h<;>(try exact h.elim)<;>obtain⟨rfl,rfl⟩:=h<;>(try simp only[decide_eq_true_eq]at hc)<;>
  refine⟨_,by simp[binOp,Op.shift,show ¬b<0 by omega];rfl,fun F=>by first|exact .int _ _|exact .bool _⟩
theorem Lf (P:Program) (w:World) (op:BinOp) (t:TypeId) (a b:ByteArray) (c d) (h:strBin op a.data.toList b.data.toList=some (c,d)) (hc:c=true):∃v,(binOp op t (.string a) (.string b)).run P w=.ok v w∧∀F,aH w F d v:=by
 have ha:a.size=a.data.toList.length:=by rw[Array.length_toList];rfl
 have hb:b.size=b.data.toList.length:=by rw[Array.length_toList];rfl
 cases op<;>simp only[strBin,Option.some.injEq,Prod.mk.injEq,reduceCtorEq]at h<;>(try exact h.elim)<;>obtain⟨rfl,rfl⟩:=h
 case add=>
  simp only[decide_eq_true_eq]at hc;have hl:¬(9223372036854775807<((a.size:Int)+(b.size:Int))):=by omega
  refine⟨.string (a++b),?_,fun F=>.str _ _ (by simp)⟩;have uI:IntKind.i64.max=9223372036854775807:=by decide
  have:¬(((a.size+b.size:Nat):Int)>IntKind.i64.max):=by rw[uI];push_cast;omega
  simp only[binOp,Op.stringOp,this,if_false,Sem.run_pure]
 all_goals
  refine⟨_,by simp only[binOp,Op.stringOp,ByteArray.toList_eq,Sem.run_pure],fun F=>.bool _⟩
theorem Lg {P:Program} {w:World} {F:Nat→Prop} {x y:D} {a b:Value} {r:Bool} {t:TypeId} (d:Nat) (h:eqFlat (tk P t) x y=some r) (hx:aH w F x a) (hy:aH w F y b):
 (Op.equalIn (d+1) t a b).run P w=.ok r w:=by
 unfold eqFlat at h;split at h
 ·rename_i k' k n k2 m lu;split at h
  ·rename_i he;subst he;simp at h;subst h;cases hx;cases hy;exact run_equalIn_int w d t k _ n m (tQ lu)
  ·cases h
 ·rename_i n m lu;simp at h;subst h;cases hx;cases hy;exact run_equalIn_bool' w d t n m (Cg lu)
 ·rename_i n m lu;simp at h;subst h;cases hx with|str n _ hn=>cases hy with|str m _ hm=>
  subst hn;subst hm;rw[run_equalIn_string w d t n m (mL lu),ByteArray.toList_eq,ByteArray.toList_eq]
 ·cases h
theorem ry {P:Program} {w:World} {t:TypeId} {cs:Array Value} {off:Nat} {v:Value} (h:(tk P t).agg=false) (ho:tk P t≠.other) (hv:cs[off]?=some v):(part t cs off).run P w=.ok v w:=by
 simp[part,pL ho,h,hv]
theorem py:∀{ks:List TK} {xs ys:List D} {r:Bool},eqFlats ks xs ys=some r→xs.length=ks.length∧ys.length=ks.length
 |[],[],[],_,_=>⟨rfl,rfl⟩
 |k::ks,x::xs,y::ys,r,h=>by
  simp only[eqFlats]at h;split at h
  ·rename_i h2;obtain⟨a,b⟩:=py h2;simp[a,b]
  ·cases h
 |[],[],_::_,_,h=>by simp[eqFlats]at h
 |[],_::_,_,_,h=>by simp[eqFlats]at h
 |_::_,[],_,_,h=>by simp[eqFlats]at h
 |_::_,_::_,[],_,h=>by simp[eqFlats]at h
theorem yU:∀{a b:List TK} {xs ys:List D} {r:Bool},eqFlats (a++b) xs ys=some r→∃p q,eqFlats a (xs.take a.length) (ys.take a.length)=some p∧eqFlats b (xs.drop a.length) (ys.drop a.length)=some q∧r=(p&&q)
 |[],b,xs,ys,r,h=>⟨true,r,by simp[eqFlats],by simpa using h,by simp⟩
 |k::a,b,x::xs,y::ys,r,h=>by
  simp only[List.cons_append,eqFlats]at h;split at h
  ·rename_i u v h1 h2;obtain⟨p,q,e1,e2,e3⟩:=yU h2;cases h;refine⟨u&&p,q,?_,by simpa using e2,by rw[e3,Bool.and_assoc]⟩;simp only[List.length_cons,List.take_succ_cons,eqFlats,h1,e1]
  ·cases h
 |_::_,_,[],_,_,h=>by simp[eqFlats]at h
 |_::_,_,_::_,[],_,h=>by simp[eqFlats]at h
theorem uJ {P:Program} {w:World} {F:Nat→Prop} {rec:TypeId→Option (List TK)} {dd:Nat} {xa ya:Array Value}
 (ih:∀(t:TypeId) (ks:List TK),rec t=some ks→∀(o:Nat) (xs ys:List D) (r:Bool),eqFlats ks xs ys=some r→(∀(i:Nat) c v,xs[i]?=some c→xa[o+i]?=some v→aH w F c v)→(∀(i:Nat) c v,ys[i]?=some c→ya[o+i]?=some v→aH w F c v)→
  o+xs.length≤xa.size→o+ys.length≤ya.size→∃a b,(part t xa o).run P w=.ok a w∧(part t ya o).run P w=.ok b w∧(Op.equalIn dd t a b).run P w=.ok r w):
 ∀(fs:List Field) (o:Nat) (ks:List TK),wB rec fs o=some ks→∀(xs ys:List D) (r:Bool),eqFlats ks xs ys=some r→(∀(i:Nat) c v,xs[i]?=some c→xa[o+i]?=some v→aH w F c v)→(∀(i:Nat) c v,ys[i]?=some c→ya[o+i]?=some v→aH w F c v)→
  o+xs.length≤xa.size→o+ys.length≤ya.size→(Op.eqFields dd xa ya fs).run P w=.ok r w
 |[],o,ks,hk,xs,ys,r,h,_,_,_,_=>by
  simp only[wB,Option.some.injEq]at hk;subst hk;cases xs<;>cases ys<;>simp[eqFlats]at h;subst h;simp[Op.eqFields]
 |f::fs,o,ks,hk,xs,ys,r,h,hx,hy,CZ,XF=>by
  simp only[wB]at hk;split at hk
  ·rename_i hf;obtain⟨bE,E0⟩:=hf;split at hk
   ·rename_i k1 h1;split at hk
    ·rename_i k2 h2;cases hk;obtain⟨p,q,e1,e2,rfl⟩:=yU h;obtain⟨l1,l2⟩:=py h;simp only[List.length_append]at l1 l2;obtain⟨a,b,g1,g2,g3⟩:=ih f.type k1 h1 o _ _ p e1 (fun i c v hc hv=>hx i c v (by rw[List.getElem?_take]at hc;split at hc;exact hc;cases hc) hv) (fun i c v hc hv=>hy i c v (by rw[List.getElem?_take]at hc;split at hc;exact hc;cases hc) hv) (by simp;omega) (by simp;omega);have g4:=uJ ih fs (o+k1.length) k2 h2 _ _ q e2 (fun i c v hc hv=>hx (k1.length+i) c v (by rw[List.getElem?_drop]at hc;exact hc) (by rw[←Nat.add_assoc];exact hv)) (fun i c v hc hv=>hy (k1.length+i) c v (by rw[List.getElem?_drop]at hc;exact hc) (by rw[←Nat.add_assoc];exact hv)) (by simp;omega) (by simp;omega);rw[←E0]at g1 g2;simp only[Op.eqFields,bE,ne_eq,not_false_eq_true,if_true,Sem.run_bind,g1,g2,g3,Result.andThen_ok,Sem.run_ite,Sem.run_pure,g4];cases p<;>simp
    ·cases hk
   ·cases hk
  ·cases hk
theorem E1 {P:Program} {w:World} {F:Nat→Prop} (d:Nat):∀(n:Nat) (xa ya:Array Value) (t:TypeId) (ks:List TK),AP P n t=some ks→∀(o:Nat) (xs ys:List D) (r:Bool),eqFlats ks xs ys=some r→
 (∀(i:Nat) c v,xs[i]?=some c→xa[o+i]?=some v→aH w F c v)→(∀(i:Nat) c v,ys[i]?=some c→ya[o+i]?=some v→aH w F c v)→o+xs.length≤xa.size→o+ys.length≤ya.size→
 ∃a b,(part t xa o).run P w=.ok a w∧(part t ya o).run P w=.ok b w∧(Op.equalIn (d+n) t a b).run P w=.ok r w
 |0,_,_,_,_,hk,_,_,_,_,_,_,_,_,_=>by cases hk
 |n+1,xa,ya,t,ks,hk,o,xs,ys,r,h,hx,hy,CZ,XF=>by
  have one:∀k:TK,tk P t=k→k.agg=false→k≠.other→ks=[k]→∃a b,(part t xa o).run P w=.ok a w∧(part t ya o).run P w=.ok b w∧(Op.equalIn (d+(n+1)) t a b).run P w=.ok r w:=by
   rintro k gu ck hk3 rfl;obtain⟨l1,l2⟩:=py h;match xs,ys,l1,l2 with
   |[x],[y],_,_=>
    simp only[eqFlats]at h;split at h
    ·rename_i u v h1 h2;cases h;have hv:v=true:=by simpa using h2.symm
     subst hv;simp only[Bool.and_true];simp only[List.length_cons,List.length_nil]at CZ XF;have e1:=ry (P:=P) (w:=w) (t:=t) (by rw[gu];exact ck) (by rw[gu];exact hk3) (show xa[o]?=some xa[o] by simp[show o<xa.size by omega]);have e2:=ry (P:=P) (w:=w) (t:=t) (by rw[gu];exact ck) (by rw[gu];exact hk3) (show ya[o]?=some ya[o] by simp[show o<ya.size by omega]);exact⟨_,_,e1,e2,Lg (d+n) (by rw[gu];exact h1) (hx 0 x _ rfl (by simp[show o<xa.size by omega])) (hy 0 y _ rfl (by simp[show o<ya.size by omega]))⟩
    ·cases h
  unfold AP at hk;split at hk
  ·rename_i k gu;exact one _ gu rfl (by simp) (by cases hk;rfl)
  ·rename_i gu;exact one _ gu rfl (by simp) (by cases hk;rfl)
  ·rename_i gu;exact one _ gu rfl (by simp) (by cases hk;rfl)
  ·rename_i gu;split at hk
   ·rename_i fs hu;split at hk
    ·rename_i XG;split at hk
     ·rename_i N5 pR;split at hk
      ·rename_i bN;cases hk;obtain⟨l1,l2⟩:=py h;have hp:∀cs:Array Value,(part t cs o).run P w=.ok (.agg (cs.extract o (o+ks.length))) w:=by
        intro cs;have ha:=pL (P:=P) (t:=t) (w:=w) (by rw[gu];simp);simp[part,ha,gu,TK.agg,run_sizeOf bN]
       refine⟨_,_,hp xa,hp ya,?_⟩;have hf:P.fieldsOf t=fs:=by simp[Program.fieldsOf,hu]
       show (Op.equalIn (d+n+1) t _ _).run P w=_;rw[run_equalIn_struct w (d+n) t _ _ (by rw[hf];exact hu) XG,hf];have hex:∀(cs:Array Value) (i:Nat) (v:Value),i<ks.length→(cs.extract o (o+ks.length))[0+i]?=some v→cs[o+i]?=some v:=by
        intro cs i v hi hv;rw[Nat.zero_add,Array.getElem?_extract]at hv;split at hv
        ·exact hv
        ·cases hv
       refine uJ (F:=F) (fun t' N5 aN o' AQ ER r' h' nr mH iR wD=>E1 d n _ _ t' N5 aN o' AQ ER r' h' nr mH iR wD) fs.toList 0 ks pR xs ys r h (fun i c v hc hv=>?_) (fun i c v hc hv=>?_) ?_ ?_
       ·have hi:=(List.getElem?_eq_some_iff.1 hc).1;exact hx i c v hc (hex xa i v (by omega) hv)
       ·have hi:=(List.getElem?_eq_some_iff.1 hc).1;exact hy i c v hc (hex ya i v (by omega) hv)
       ·simp;omega
       ·simp;omega
      ·cases hk
     ·cases hk
    ·cases hk
   ·cases hk
  ·cases hk
theorem IE (P:Program) (S:St) (o:Oper) (op:BinOp) (t t':TypeId) (x y:Operand) (ho:o.op=.binOp op t x y t') (hx:(S.opd x).1=true) (hy:(S.opd y).1=true):aF P S o (binR P op t (S.opd x).2 (S.opd y).2):=by
 have bB:∀(a:Act) (w:World) (v:Value),(∀c,a.eval x≠.agg c)→a.eval x≠.nilIface→(binOp op t (a.eval x) (a.eval y)).run P w=.ok v w→(execOp a.eval o).run P w=.ok (.value v) w:=by
  intro a w v h1 h2 h;simp[execOp,ho,EZ P w op t x y _ (a.eval y) ⟨h1,h2⟩,h]
 unfold binR;split
 ·rename_i k n k' m bF E2;have bS:∀{φ G a w},Rel φ G S a w→a.eval x=.int k n∧a.eval y=.int k' m:=fun hr=>by
   have h1:=hr.opd x hx;have h2:=hr.opd y hy;rw[bF]at h1;rw[E2]at h2;exact⟨jz h1,jz h2⟩
  split
  ·refine aF.pure fun hc φ G a w hr=>?_;obtain⟨v,h1,h2⟩:=wC P w .shl t k k' n m _ _ rfl (decide_eq_true hc);exact⟨v,bB a w v (by simp[(bS hr).1]) (by simp[(bS hr).1]) (by rw[(bS hr).1,(bS hr).2];exact h1),.d _ _ (h2 _)⟩
  ·refine aF.pure fun hc φ G a w hr=>?_;obtain⟨v,h1,h2⟩:=wC P w .shr t k k' n m _ _ rfl (decide_eq_true hc);exact⟨v,bB a w v (by simp[(bS hr).1]) (by simp[(bS hr).1]) (by rw[(bS hr).1,(bS hr).2];exact h1),.d _ _ (h2 _)⟩
  ·split
   ·rename_i c d h;refine aF.pure ?_;rintro ⟨rfl,hc⟩ φ G a w hr;obtain⟨v,h1,h2⟩:=Ld P w op t k n m c d h hc;exact⟨v,bB a w v (by simp[(bS hr).1]) (by simp[(bS hr).1]) (by rw[(bS hr).1,(bS hr).2];exact h1),.d _ _ (h2 _)⟩
   ·trivial
 ·rename_i s u bF E2;split
  ·rename_i c d h;refine aF.px fun hc φ G a w hr=>?_;have h1:=hr.opd x hx;have h2:=hr.opd y hy;rw[bF]at h1;rw[E2]at h2;obtain⟨b1,e1,rfl⟩:=rr h1;obtain⟨b2,e2,rfl⟩:=rr h2;obtain⟨v,h3,h4⟩:=Lf P w op t b1 b2 c d h hc;exact⟨v,bB a w v (by simp[e1]) (by simp[e1]) (by rw[e1,e2];exact h3),.d _ _ (h4 _)⟩
  ·trivial
 ·rename_i n m bF E2;have bS:∀{φ G a w},Rel φ G S a w→a.eval x=.bool n∧a.eval y=.bool m:=fun hr=>by
   have h1:=hr.opd x hx;have h2:=hr.opd y hy;rw[bF]at h1;rw[E2]at h2;exact⟨qZ h1,qZ h2⟩
  split
  ·refine aF.pure fun hc φ G a w hr=>⟨.bool (n == m),bB a w _ (by simp[(bS hr).1]) (by simp[(bS hr).1]) ?_,.d _ _ (.bool _)⟩;rw[(bS hr).1,(bS hr).2];simp[binOp,Op.equal,Op.maxDepth,run_equalIn_bool' w 9999 t n m (Cg hc)]
  ·refine aF.pure fun hc φ G a w hr=>⟨.bool (n != m),bB a w _ (by simp[(bS hr).1]) (by simp[(bS hr).1]) ?_,.d _ _ (.bool _)⟩;rw[(bS hr).1,(bS hr).2];simp[binOp,Op.equal,Op.maxDepth,run_equalIn_bool' w 9999 t n m (Cg hc),bne]
  ·trivial
 ·rename_i xs ys bF E2;split
  ·rename_i ks gZ;split
   ·rename_i r NY;have key:∀{φ G a w},Rel φ G S a w→∃xa ya,a.eval x=.agg xa∧a.eval y=.agg ya∧(Op.equal t (.agg xa) (.agg ya)).run P w=.ok r w∧(eqGuard op t x y (.agg xa) (.agg ya)).run P w=.ok () w:=by
     intro φ G a w hr;have h1:=hr.opd x hx;have h2:=hr.opd y hy;rw[bF]at h1;rw[E2]at h2;generalize a.eval x=xv at h1;generalize a.eval y=yv at h2;cases h1 with|d _ _ h1=>
     cases h2 with|d _ _ h2=>
     cases h1 with|agg _ xa CZ vL oF=>
     cases h2 with|agg _ ya XF hfy kL=>
     unfold dI at gZ;split at gZ
     ·rename_i fs hu;split at gZ
      ·rename_i sd;have hf:P.fieldsOf t=fs:=by simp[Program.fieldsOf,hu]
       have lu:tk P t=.struct:=by simp[tk,hu]
       unfold AP at gZ;simp only[lu,hu]at gZ;split at gZ
       ·rename_i XG;split at gZ
        ·rename_i N5 pR;split at gZ
         ·cases gZ;refine⟨xa,ya,rfl,rfl,?_,?_⟩
          ·unfold Op.equal Op.maxDepth;rw[run_equalIn_struct w 9999 t xa ya (by rw[hf];exact hu) XG,hf];exact uJ (F:=Fo G φ S.mem) (fun t' N5 aN o' AQ ER r' h' nr mH iR wD=>E1 9992 7 _ _ t' N5 aN o' AQ ER r' h' nr mH iR wD) fs.toList 0 ks pR xs ys r NY (fun i c v hc hv=>oF i c v hc (by simpa using hv)) (fun i c v hc hv=>kL i c v hc (by simpa using hv)) (by omega) (by omega)
          ·cases op<;>simp[eqGuard,sd]
         ·cases gZ
        ·cases gZ
       ·cases gZ
      ·cases gZ
     ·cases gZ
    split
    ·refine aF.pure fun _ φ G a w hr=>?_;obtain⟨xa,ya,e1,e2,h1,h2⟩:=key hr;exact⟨.bool r,by simp[execOp,ho,e1,e2,h2,binOp,h1],.d _ _ (.bool _)⟩
    ·refine aF.pure fun _ φ G a w hr=>?_;obtain⟨xa,ya,e1,e2,h1,h2⟩:=key hr;exact⟨.bool (!r),by simp[execOp,ho,e1,e2,h2,binOp,h1],.d _ _ (.bool _)⟩
    ·trivial
   ·trivial
  ·trivial
 ·trivial
def nilR (P:Program) (m:Mem) (neg:Bool) (t:TypeId) (x:AV):Value→dj
 | .slice none 0 0=>match tk P t with
  | .slice _=>match x with
   | .d (.list (_::_))=>.val true (.d (.bool neg))
   | .lit (.slice none 0 0)=>.val true (.d (.bool (!neg)))
   | .nn=>.val true (.d (.bool neg))
   | .vec k aj _ len=>match Mem.get m k with
    |some ⟨_,v,.vec _ _⟩=>.val (v=aj∧0<len) (.d (.bool neg))
    |_=>.no
   |_=>.no
  |_=>.no
 | .pointer none=>match tk P t with
  | .ptr _=>match x with
   | .lit (.pointer none)=>.val true (.d (.bool (!neg)))
   | .ptr k aj _=>match Mem.get m k with
    |some ⟨_,v,_⟩=>.val (v=aj) (.d (.bool neg))
    |_=>.no
   |_=>.no
  |_=>.no
 | .nilIface=>match tk P t with
  | .iface=>match x with
   | .gM _ _=>.val true (.d (.bool neg))
   | .err=>.val true (.d (.bool neg))
   | .lit .nilIface=>.val true (.d (.bool (!neg)))
   |_=>.no
  |_=>.no
 |_=>.no
theorem Lh {φ w F d ds v} (h:az φ w F (.d (.list (d::ds))) v):∃b off cap,v=.slice (some ⟨b,off,none⟩) (ds.length+1) cap:=by
 cases h with|d _ _ h=>
 cases h with|list _ b off cap sz vs=>exact⟨b,off,cap,rfl⟩
theorem XH {P:Program} {t e:TypeId} (h:tk P t=.ptr e):P.underlying t=some (.pointer e):=by
 unfold tk at h;split at h<;>simp_all
theorem RC {P:Program} {t:TypeId} (h:tk P t=.iface):∃ms,P.underlying t=some (.interface ms):=by
 unfold tk at h;split at h<;>simp_all
theorem pz {P:Program} (w:World) (d:Nat) {t e:TypeId} (a:Option Addr) (n c:Nat) (h:P.underlying t=some (.slice e)):
 (Op.equalIn (d+1) t (.slice a n c) (.slice none 0 0)).run P w=.ok a.isNone w:=by
 cases a<;>simp[Op.equalIn,run_underlying h]
theorem C0 {P:Program} (w:World) (d:Nat) {t e:TypeId} (a:Option Addr) (h:P.underlying t=some (.pointer e)):
 (Op.equalIn (d+1) t (.pointer a) (.pointer none)).run P w=.ok a.isNone w:=by
 cases a<;>simp[Op.equalIn,run_underlying h]
theorem yV {P:Program} (w:World) (d:Nat) {t:TypeId} {ms} (tx:TypeId) (v:Value) (h:P.underlying t=some (.interface ms)):
 (Op.equalIn (d+1) t (.iface tx v) .nilIface).run P w=.ok false w:=by
 simp[Op.equalIn,run_underlying h]
theorem E4 {P:Program} (w:World) (d:Nat) {t:TypeId} {ms} (h:P.underlying t=some (.interface ms)):
 (Op.equalIn (d+1) t .nilIface .nilIface).run P w=.ok true w:=by
 simp[Op.equalIn,run_underlying h]
theorem V0 {P:Program} {o:Oper} {neg:Bool} {t t':TypeId} {x:Operand} {v:Value} (ho:o.op=.binOp (if neg then .neq else .eql) t x (.const v) t') {a:Act} {w:World} {b:Bool}
 (h1:∀c,a.eval x≠.agg c) (hvn:v=.slice none 0 0∨v=.pointer none∨v=.nilIface) (wE:(∀k n,a.eval x≠.int k n)∧(∀k n,a.eval x≠.float k n)∧(∀k n m,a.eval x≠.complex k n m)∧(∀s,a.eval x≠.string s))
 (h:(Op.equalIn 10000 t (a.eval x) v).run P w=.ok b w):(execOp a.eval o).run P w=.ok (.value (.bool (if neg then !b else b))) w:=by
 have e:a.eval (.const v)=v:=rfl;have hg:(eqGuard (if neg then .neq else .eql) t x (.const v) (a.eval x) v).run P w=.ok () w:=by
  unfold eqGuard;generalize a.eval x=u at h1⊢;rcases hvn with rfl|rfl|rfl<;>cases u<;>cases neg<;>simp
 have hb:(binOp (if neg then .neq else .eql) t (a.eval x) v).run P w=.ok (.bool (if neg then !b else b)) w:=by
  generalize a.eval x=u at h wE⊢;obtain⟨g1,g2,g3,g4⟩:=wE;rcases hvn with rfl|rfl|rfl<;>cases u<;>cases neg<;>simp_all [binOp,Op.equal,Op.maxDepth]
 simp only[execOp,ho,e,Sem.run_bind,hg,Result.andThen_ok,hb,Sem.run_pure]
theorem IF (P:Program) (S:St) (o:Oper) (neg:Bool) (t t':TypeId) (x:Operand) (v:Value) (ho:o.op=.binOp (if neg then .neq else .eql) t x (.const v) t') (hx:(S.opd x).1=true):aF P S o (nilR P S.mem neg t (S.opd x).2 v):=by
 have go:∀{φ G a w} {b:Bool},Rel φ G S a w→(∀c,a.eval x≠.agg c)→(v=.slice none 0 0∨v=.pointer none∨v=.nilIface)→((∀k n,a.eval x≠.int k n)∧(∀k n,a.eval x≠.float k n)∧(∀k n m,a.eval x≠.complex k n m)∧(∀s,a.eval x≠.string s))→
  (Op.equalIn 10000 t (a.eval x) v).run P w=.ok b w→∃v',(execOp a.eval o).run P w=.ok (.value v') w∧az φ w (Fo G φ S.mem) (.d (.bool (if neg then !b else b))) v':=by
  intro φ G a w b hr h1 h2 h3 h4;exact⟨_,V0 ho h1 h2 h3 h4,.d _ _ (.bool _)⟩
 have eb:∀{b:Bool},(if neg=true then !b else b)=(if neg=true then !b else b):=rfl;unfold nilR;split
 ·split
  ·rename_i e ht;have tR:=fJ ht;split
   ·rename_i d ds bF;refine aF.px fun _ φ G a w hr=>?_;have hv:=hr.opd x hx;rw[bF]at hv;obtain⟨b,off,cap,bS⟩:=Lh hv;have:=go (b:=false) hr (by simp[bS]) (.inl rfl) (by simp[bS]) (by rw[bS];exact pz w 9999 _ _ _ tR);cases neg<;>simpa using this
   ·rename_i bF;refine aF.px fun _ φ G a w hr=>?_;have hv:=hr.opd x hx;rw[bF]at hv;generalize bS:a.eval x=u at hv;cases hv;have:=go (b:=true) hr (by simp[bS]) (.inl rfl) (by simp[bS]) (by rw[bS];exact pz w 9999 _ _ _ tR);cases neg<;>simpa using this
   ·rename_i bF;refine aF.px fun _ φ G a w hr=>?_;have hv:=hr.opd x hx;rw[bF]at hv;generalize bS:a.eval x=u at hv;cases hv;have:=go (b:=false) hr (by simp[bS]) (.inl rfl) (by simp[bS]) (by rw[bS];exact pz w 9999 _ _ _ tR);cases neg<;>simpa using this
   ·rename_i k aj off len bF;split
    ·rename_i key v' sz rows hg;refine aF.pure ?_;rintro ⟨rfl,hlen⟩ φ G a w hr;have hv:=hr.opd x hx;rw[bF]at hv;obtain⟨hm,hk,L,hL,aw,b8⟩:=hr.mem.get hg;generalize bS:a.eval x=u at hv;cases hv with
     |vec _ _ _ _ _ L' bM _ h _=>
      rw[hL]at bM;cases bM;obtain⟨ao,cap,rfl,fX,dg⟩:=h aw.symm;obtain⟨rfl,_⟩:=dg (by omega);have:=go (b:=false) hr (by simp[bS]) (.inl rfl) (by simp[bS]) (by rw[bS];exact pz w 9999 _ _ _ tR);cases neg<;>simpa using this
    ·trivial
   ·trivial
  ·trivial
 ·split
  ·rename_i e ht;have tR:=XH ht;split
   ·rename_i bF;refine aF.px fun _ φ G a w hr=>?_;have hv:=hr.opd x hx;rw[bF]at hv;generalize bS:a.eval x=u at hv;cases hv;have:=go (b:=true) hr (by simp[bS]) (.inr (.inl rfl)) (by simp[bS]) (by rw[bS];exact C0 w 9999 _ tR);cases neg<;>simpa using this
   ·rename_i k aj off bF;split
    ·rename_i key v' c hg;refine aF.pure ?_;rintro rfl φ G a w hr;have hv:=hr.opd x hx;rw[bF]at hv;obtain⟨hm,hk,L,hL,aw,b8⟩:=hr.mem.get hg;have bS:=hv.pM hL aw;have:=go (b:=false) hr (by simp[bS]) (.inr (.inl rfl)) (by simp[bS]) (by rw[bS];exact C0 w 9999 _ tR);cases neg<;>simpa using this
    ·trivial
   ·trivial
  ·trivial
 ·split
  ·rename_i ht;obtain⟨ms,tR⟩:=RC ht;split
   ·rename_i ti xi bF;refine aF.px fun _ φ G a w hr=>?_;have hv:=hr.opd x hx;rw[bF]at hv;generalize bS:a.eval x=u at hv;cases hv;have:=go (b:=false) hr (by simp[bS]) (.inr (.inr rfl)) (by simp[bS]) (by rw[bS];exact yV w 9999 _ _ tR);cases neg<;>simpa using this
   ·rename_i bF;refine aF.px fun _ φ G a w hr=>?_;have hv:=hr.opd x hx;rw[bF]at hv;generalize bS:a.eval x=u at hv;cases hv;have:=go (b:=false) hr (by simp[bS]) (.inr (.inr rfl)) (by simp[bS]) (by rw[bS];exact yV w 9999 _ _ tR);cases neg<;>simpa using this
   ·rename_i bF;refine aF.px fun _ φ G a w hr=>?_;have hv:=hr.opd x hx;rw[bF]at hv;generalize bS:a.eval x=u at hv;cases hv;have:=go (b:=true) hr (by simp[bS]) (.inr (.inr rfl)) (by simp[bS]) (by rw[bS];exact E4 w 9999 tR);cases neg<;>simpa using this
   ·trivial
  ·trivial
 ·trivial
def yd (s:List UInt8) (i:Nat):UInt8:=s[i]?.getD 0
def indexVR (P:Program) (t:TypeId) (x i:AV):dj:=
 match i with
 | .d (.int _ n)=>match x with
  | .d (.str s)=>.val (tk P t=.str∧0≤n∧n.toNat<s.length) (.d (.int .u8 (yd s n.toNat).toNat))
  | .d (.agg cs)=>match tk P t with
   | .arr len e=>match (tk P e).agg,fm P e with
    |false,some 1=>.val (0≤n∧n.toNat<len∧len≤cs.length∧tk P e≠.other) (.d (D.at cs n.toNat))
    |true,some sz=>.val (0≤n∧n.toNat<len∧len*sz≤cs.length) (.d (.agg ((cs.drop (n.toNat*sz)).take sz)))
    |_,_=>.no
   |_=>.no
  |_=>.no
 |_=>.no
theorem N6 (b:ByteArray) (i:Nat):b[i]?=b.data.toList[i]?:=by
 by_cases h:i<b.size
 ·have h':i<b.data.size:=h;rw[getElem?_pos b i h,Array.getElem?_toList,getElem?_pos b.data i h'];rfl
 ·have h':¬i<b.data.size:=h;rw[getElem?_neg b i h,Array.getElem?_toList,getElem?_neg b.data i h']
theorem E5 {P:Program} {w:World} {t:TypeId} {b:ByteArray} {k:IntKind} {n:Int} (ht:tk P t=.str) (h0:0≤n) (hl:n.toNat<b.data.toList.length):
 (Instr.index t (.string b) (.int k n)).run P w=.ok (.int .u8 (yd b.data.toList n.toNat).toNat) w:=by
 have e:b[n.toNat]?=some (yd b.data.toList n.toNat):=by rw[N6];simp only[yd];rw[List.getElem?_eq_getElem hl];rfl
 simp only[Instr.index,asIntOf,Sem.run_bind,Sem.run_pure,Result.andThen_ok,run_underlying (mL ht),h0,if_true,e]
theorem C3 {P:Program} {w:World} {t:TypeId} {cs:Array Value} {off n:Nat} (h:(tk P t).agg=true) (hs:fm P t=some n):(part t cs off).run P w=.ok (.agg (cs.extract off (off+n))) w:=by
 have ho:tk P t≠.other:=by intro h';rw[h']at h;cases h
 simp[part,pL ho,h,run_sizeOf hs]
theorem vM {w F} {cs:List D} {a:Array Value} (h:aH w F (.agg cs) (.agg a)) (o n:Nat) (hle:o+n≤cs.length):aH w F (.agg ((cs.drop o).take n)) (.agg (a.extract o (o+n))):=by
 have hc:=h.cells;cases h with|agg _ _ hl hf hr=>
 have h2:=aH.ni (w:=w) (F:=F) (cs:=(cs.drop o).take n) (vs:=(a.toList.drop o).take n) (by simp;omega)
  (fun v hv=>hc.2.1 v (by simpa [Value.cells]using List.mem_of_mem_drop (List.mem_of_mem_take hv)))
  (fun i c v h1 h2=>by
   rw[List.getElem?_take]at h1 h2;split at h1
   ·rename_i hi;simp only[hi,if_true]at h2;exact hr (o+i) c v (by simpa using h1) (by simpa using h2)
   ·cases h1)
 have e:((a.toList.drop o).take n).toArray=a.extract o (o+n):=by
  apply Array.ext';simp
 rwa [e]at h2
theorem N7 (P:Program) (S:St) (o:Oper) (t:TypeId) (x i:Operand) (ho:o.op=.index t x i) (hx:(S.opd x).1=true) (hi:(S.opd i).1=true):aF P S o (indexVR P t (S.opd x).2 (S.opd i).2):=by
 unfold indexVR;split
 ·rename_i k n N4;split
  ·rename_i s bF;refine aF.pure ?_;rintro ⟨ht,h0,hl⟩ φ G a w hr;have h1:=hr.opd x hx;have h2:=hr.opd i hi;rw[bF]at h1;rw[N4]at h2;obtain⟨b,e1,rfl⟩:=rr h1;exact⟨_,by simp only[execOp,ho,e1,jz h2,Sem.run_bind,E5 ht h0 hl];rfl,.d _ _ (.int _ _)⟩
  ·rename_i cs bF;split
   ·rename_i len e gg;split
    ·rename_i pS hs;refine aF.pure ?_;rintro ⟨h0,hl,hle,bE⟩ φ G a w hr;have h1:=hr.opd x hx;have h2:=hr.opd i hi;rw[bF]at h1;rw[N4]at h2;generalize bX:a.eval x=av at h1;cases h1 with|d _ _ h1=>
     cases h1 with|agg _ xa CZ vL oF=>
     have hn:n<(len:Int):=by omega
     have wE:n.toNat<xa.size:=by omega
     refine⟨xa[n.toNat],?_,.d _ _ (oF n.toNat _ _ (ju (by omega)) (by simp[wE]))⟩;have hp:=ry (P:=P) (w:=w) (t:=e) (cs:=xa) (off:=n.toNat*1) pS bE (v:=xa[n.toNat]) (by simp[wE]);simp only[Nat.mul_one]at hp;simp[execOp,ho,bX,jz h2,Instr.index,asIntOf,run_underlying (ru gg),h0,hn,run_sizeOf hs,hp]
    ·rename_i sz pS hs;refine aF.pure ?_;rintro ⟨h0,hl,hle⟩ φ G a w hr;have h1:=hr.opd x hx;have h2:=hr.opd i hi;rw[bF]at h1;rw[N4]at h2;generalize bX:a.eval x=av at h1;cases h1 with|d _ _ h1=>
     have ly:=h1;cases h1 with|agg _ xa CZ vL oF=>
     have hn:n<(len:Int):=by omega
     have RD:n.toNat*sz+sz≤cs.length:=by
      have:(n.toNat+1)*sz≤len*sz:=Nat.mul_le_mul_right _ hl;rw[Nat.add_mul]at this;omega
     refine⟨_,?_,.d _ _ (vM ly (n.toNat*sz) sz RD)⟩;have hp:=C3 (P:=P) (w:=w) (t:=e) (cs:=xa) (off:=n.toNat*sz) pS hs;simp[execOp,ho,bX,jz h2,Instr.index,asIntOf,run_underlying (ru gg),h0,hn,run_sizeOf hs,hp]
    ·trivial
   ·trivial
  ·trivial
 ·trivial
def bound (m:Option AV) (Li:Int):Option Int:=
 match m with
 |none=>some Li
 |some (.d (.int _ n))=>some n
 |some _=>none
def sliceR (P:Program) (m:Mem) (t:TypeId) (x:AV) (lo hi:Option AV):dj:=
 match x with
 | .d (.str s)=>match bound lo 0,bound hi s.length with
  |some l,some h=>.val (tk P t=.str∧0≤l∧l≤h∧h.toNat≤s.length) (.d (.str ((s.take h.toNat).drop l.toNat)))
  |_,_=>.no
 | .d (.list xs)=>match tk P t with
  | .slice e=>match fm P e,bound lo 0,bound hi xs.length with
   |some sz,some l,some h=>.val (0≤l∧l≤h∧h.toNat≤xs.length∧(∀d∈xs,d.size=sz)) (.d (.list ((xs.take h.toNat).drop l.toNat)))
   |_,_,_=>.no
  |_=>.no
 | .vec k aj off len=>match tk P t,Mem.get m k with
  | .slice e,some ⟨_,v,.vec cL _⟩=>match fm P e,bound lo 0,bound hi len with
   |some sz,some l,some h=>.val (v=aj∧cL=sz∧0≤l∧l≤h∧h.toNat≤len) (.vec k aj (off+l.toNat) (h.toNat-l.toNat))
   |_,_,_=>.no
  | .slice e,some ⟨_,v,.vv _ _⟩=>match fm P e,bound lo 0,bound hi len with
   |some sz,some l,some h=>.val (v=aj∧sz=1∧0≤l∧l≤h∧h.toNat≤len) (.vec k aj (off+l.toNat) (h.toNat-l.toNat))
   |_,_,_=>.no
  |_,_=>.no
 | .cG k aj i j=>match tk P t,Mem.get m k with
  | .arr n e,some ⟨_,v,.vec cL rows⟩=>match fm P e,bound lo 0,bound hi n with
   |some sz,some l,some h=>.val (v=aj∧cL=sz∧i=0∧j=0∧n≤rows.length∧0≤l∧l≤h∧h.toNat≤n) (.vec k aj l.toNat (h.toNat-l.toNat))
   |_,_,_=>.no
  |_,_=>.no
 | .ptr k aj off=>match tk P t,Mem.get m k with
  | .arr n e,some ⟨_,v,.box cs⟩=>match fm P e,bound lo 0,bound hi n with
   |some sz,some l,some h=>.val (v=aj∧sz=1∧off+n≤cs.length∧0≤l∧l≤h∧h.toNat≤n) (.vec k aj (off+l.toNat) (h.toNat-l.toNat))
   |_,_,_=>.no
  |_,_=>.no
 |_=>.no
theorem iB {P:Program} {w:World} {isS:Bool} {len cap:Nat} {lo hi:Option Value} {l h:Int}
 (dc:(lo=none∧l=0)∨∃k,lo=some (.int k l)) (nt:(hi=none∧h=len)∨∃k,hi=some (.int k h)) (h0:0≤l) (hle:l≤h) (di:h.toNat≤cap):
 (Instr.sliceBounds isS len cap lo hi none).run P w=.ok (l.toNat,h.toNat,cap) w:=by
 have h1:h≤(cap:Int):=by omega
 have h2:0≤h:=by omega
 have h3:l≤(h.toNat:Int):=by omega
 rcases dc with ⟨rfl,rfl⟩|⟨k,rfl⟩<;>rcases nt with ⟨rfl,rfl⟩|⟨k',rfl⟩<;>
  simp_all [Instr.sliceBounds,Instr.sliceBound,asIntOf]
theorem gO {S:St} {φ G a w} (hr:Rel φ G S a w) {x:Option Operand} {Li n:Int} (hx:∀y,x=some y→(S.opd y).1=true) (h:bound (x.map fun y=>(S.opd y).2) Li=some n):
 (x.map a.eval=none∧n=Li)∨∃k,x.map a.eval=some (.int k n):=by
 cases x with
 |none=>simp[bound]at h;exact .inl ⟨rfl,h.symm⟩
 |some y=>
  right;simp only[Option.map_some]at h⊢;unfold bound at h;split at h
  ·rename_i heq;cases heq
  ·rename_i k m heq;simp at h heq;subst h;have:=hr.opd y (hx y rfl);rw[heq]at this;exact⟨k,by rw[jz this]⟩
  ·cases h
theorem Lj {w F xs v sz} (h:aH w F (.list xs) v) (hs:∀d∈xs,d.size=sz) {l hh:Nat} (hle:l≤hh) (hlen:hh≤xs.length):
 ∃ao cap,v=.slice ao xs.length cap∧xs.length≤cap∧(ao=none→cap=0)∧∀wi N8,(N8=none→wi=0)→hh-l≤wi→(N8=ao.map (·.add (l*sz))∨(hh-l=0))→aH w F (.list ((xs.take hh).drop l)) (.slice N8 (hh-l) wi):=by
 have hl:((xs.take hh).drop l).length=hh-l:=by simp;omega
 generalize hx:D.list xs=x at h;cases h with
 |nil a c eL=>
  simp at hx;subst hx;refine⟨a,c,rfl,by simp,eL,fun wi N8 sg _ _=>?_⟩;have h1:hh-l=0:=by simp at hlen;omega
  rw[h1];simp;exact .nil _ _ sg
 |list ys b off cap cL vs di hb hF bN hv hc=>
  simp at hx;subst hx;refine⟨_,cap,rfl,di,by simp,fun wi N8 sg dN Uh=>?_⟩;by_cases hz:hh-l=0
  ·have e:(xs.take hh).drop l=[]:=List.eq_nil_of_length_eq_zero (by omega);rw[e,hz];exact .nil _ _ sg
  ·have Uh:=Uh.resolve_right hz;have Xp:cL=sz:=by
    have fG:0<xs.length:=by omega
    rw[←bN xs[0] (List.getElem_mem fG),hs xs[0] (List.getElem_mem fG)]
   subst Xp;simp only[Option.map_some,fo]at Uh;rw[Uh,←hl];refine .list _ b (off+l*cL) wi cL (fun i=>vs (l+i)) (by rw[hl];exact dN) hb hF (fun d hd=>bN d (List.mem_of_mem_take (List.mem_of_mem_drop hd))) (fun i d hd=>?_) (fun i j c hi hj=>?_)
   ·rw[List.getElem?_drop,List.getElem?_take]at hd;split at hd
    ·exact hv _ d hd
    ·cases hd
   ·have:=hc (l+i) j c (by rw[hl]at hi;omega) hj;rw[Nat.add_mul,←Nat.add_assoc]at this;exact this
 |_=>simp at hx
theorem RE (P:Program) (S:St) (o:Oper) (t:TypeId) (x:Operand) (lo hi:Option Operand) (ho:o.op=.slice t x lo hi none) (hx:(S.opd x).1=true) (dc:∀y,lo=some y→(S.opd y).1=true) (nt:∀y,hi=some y→(S.opd y).1=true):
 aF P S o (sliceR P S.mem t (S.opd x).2 (lo.map fun y=>(S.opd y).2) (hi.map fun y=>(S.opd y).2)):=by
 unfold sliceR;split
 ·rename_i s bF;split
  ·rename_i l h hl hh;refine aF.pure ?_;rintro ⟨ht,h0,hle,di⟩ φ G a w hr;have h1:=hr.opd x hx;rw[bF]at h1;obtain⟨b,e1,rfl⟩:=rr h1;have oM:b.size=b.data.toList.length:=by rw[Array.length_toList];rfl
   have wF:=iB (P:=P) (w:=w) (isS:=false) (len:=b.size) (cap:=b.size) (gO hr dc hl) (by have:=gO hr nt hh;rw[←oM]at this;exact this) h0 hle (by rw[oM];exact di);refine⟨.string (b.extract l.toNat h.toNat),?_,.d _ _ (.str _ _ ?_)⟩
   ·simp[execOp,ho,e1,Instr.sliceAt,Instr.slice,run_underlying (mL ht),wF]
   ·simp[ByteArray.data_extract,List.drop_take]
  ·trivial
 ·rename_i xs bF;split
  ·rename_i e gg;split
   ·rename_i sz l h hs hl hh;refine aF.pure ?_;rintro ⟨h0,hle,di,bN⟩ φ G a w hr;have h1:=hr.opd x hx;rw[bF]at h1;generalize bX:a.eval x=av at h1;cases h1 with|d _ _ h1=>
    obtain⟨ao,cap,rfl,hxc,eL,lz⟩:=Lj h1 bN (l:=l.toNat) (hh:=h.toNat) (by omega) di;have hc:h.toNat≤cap:=by omega
    have wF:=iB (P:=P) (w:=w) (isS:=true) (len:=xs.length) (cap:=cap) (gO hr dc hl) (gO hr nt hh) h0 hle hc;refine⟨.slice (if cap=l.toNat then ao else ao.map (·.add (l.toNat*sz))) (h.toNat-l.toNat) (cap-l.toNat),?_,.d _ _ (lz _ _ (fun hn=>?_) (by omega) ?_)⟩
    ·simp[execOp,ho,bX,Instr.sliceAt,Instr.slice,run_underlying (fJ gg),wF,run_sizeOf hs]
    ·have:ao=none:=by split at hn<;>simp_all
     have:=eL this;omega
    ·by_cases aP:cap=l.toNat
     ·exact .inr (by omega)
     ·exact .inl (by simp[aP])
   ·trivial
  ·trivial
 ·rename_i k aj off len bF;split
  ·rename_i e key v cL rows gg hg;split
   ·rename_i sz l h hs hl hh;refine aF.pure ?_;rintro ⟨rfl,rfl,h0,hle,di⟩ φ G a w hr;have h1:=hr.opd x hx;rw[bF]at h1;obtain⟨hm,hk,L,hL,aw,b8⟩:=hr.mem.get hg;simp only at aw;generalize bX:a.eval x=av at h1;cases h1 with
    |vec _ _ _ _ _ L' bM _ E6 _=>
     rw[hL]at bM;cases bM;obtain⟨ao,cap,rfl,fX,dg⟩:=E6 aw.symm;clear E6;have wF:=iB (P:=P) (w:=w) (isS:=true) (len:=len) (cap:=cap) (gO hr dc hl) (gO hr nt hh) h0 hle (by omega);refine⟨.slice (if cap=l.toNat then ao else ao.map (·.add (l.toNat*cL))) (h.toNat-l.toNat) (cap-l.toNat),?_,?_⟩
     ·simp[execOp,ho,bX,Instr.sliceAt,Instr.slice,run_underlying (fJ gg),wF,run_sizeOf hs]
     ·refine .vec k v _ _ _ L hL (by omega) (fun _=>⟨_,_,rfl,by omega,fun hc=>?_⟩) rfl;obtain⟨rfl,mJ⟩:=dg (by omega);refine⟨?_,by omega⟩;rw[if_neg (by omega)];simp only[Option.map_some,fo,b8.1,Nat.add_mul,Nat.add_assoc]
   ·trivial
  ·rename_i e key v rows y gg hg;split
   ·rename_i sz l h hs hl hh;refine aF.pure ?_;rintro ⟨rfl,rfl,h0,hle,di⟩ φ G a w hr;have h1:=hr.opd x hx;rw[bF]at h1;obtain⟨hm,hk,L,hL,aw,b8⟩:=hr.mem.get hg;simp only at aw;generalize bX:a.eval x=av at h1;cases h1 with
    |vec _ _ _ _ _ L' bM _ E6 _=>
     rw[hL]at bM;cases bM;obtain⟨ao,cap,rfl,fX,dg⟩:=E6 aw.symm;clear E6;have wF:=iB (P:=P) (w:=w) (isS:=true) (len:=len) (cap:=cap) (gO hr dc hl) (gO hr nt hh) h0 hle (by omega);refine⟨.slice (if cap=l.toNat then ao else ao.map (·.add (l.toNat*1))) (h.toNat-l.toNat) (cap-l.toNat),?_,?_⟩
     ·simp[execOp,ho,bX,Instr.sliceAt,Instr.slice,run_underlying (fJ gg),wF,run_sizeOf hs]
     ·refine .vec k v _ _ _ L hL (by omega) (fun _=>⟨_,_,rfl,by omega,fun hc=>?_⟩) rfl;obtain⟨rfl,mJ⟩:=dg (by omega);refine⟨?_,by omega⟩;rw[if_neg (by omega)];simp only[Option.map_some,fo,b8.1.1,Nat.add_mul,Nat.add_assoc]
   ·trivial
  ·trivial
 ·rename_i k aj i j bF;split
  ·rename_i n e key v cL rows gg hg;split
   ·rename_i sz l h hs hl hh;refine aF.pure ?_;rintro ⟨rfl,rfl,rfl,rfl,hn,h0,hle,di⟩ φ G a w hr;have h1:=hr.opd x hx;rw[bF]at h1;obtain⟨hm,hk,L,hL,aw,b8⟩:=hr.mem.get hg;simp only at aw;have e1:=h1.j7 hL aw;have wF:=iB (P:=P) (w:=w) (isS:=false) (len:=n) (cap:=n) (gO hr dc hl) (gO hr nt hh) h0 hle di;refine⟨.slice (some (if n=l.toNat then ⟨L.dx,L.base,none⟩else ⟨L.dx,L.base+l.toNat*cL,none⟩)) (h.toNat-l.toNat) (n-l.toNat),?_,?_⟩
    ·simp[execOp,ho,e1,Instr.sliceAt,Instr.sureAddr,run_underlying (ru gg),wF,run_sizeOf hs,fo]
    ·refine .vec k v _ _ _ L hL (by omega) (fun _=>⟨_,_,rfl,by omega,fun hc=>⟨?_,by have:=b8.2.1;omega⟩⟩) rfl;rw[if_neg (by omega),b8.1]
   ·trivial
  ·trivial
 ·rename_i k aj off bF;split
  ·rename_i n e key v cs gg hg;split
   ·rename_i sz l h hs hl hh;refine aF.pure ?_;rintro ⟨rfl,rfl,hn,h0,hle,di⟩ φ G a w hr;have h1:=hr.opd x hx;rw[bF]at h1;obtain⟨hm,hk,L,hL,aw,⟨z1,z2,z3⟩,_⟩:=hr.mem.get hg;simp only at aw;have e1:=h1.pM hL aw;have wF:=iB (P:=P) (w:=w) (isS:=false) (len:=n) (cap:=n) (gO hr dc hl) (gO hr nt hh) h0 hle di;refine⟨.slice (some (if n=l.toNat then ⟨L.dx,off,none⟩else ⟨L.dx,off+l.toNat,none⟩)) (h.toNat-l.toNat) (n-l.toNat),?_,?_⟩
    ·simp[execOp,ho,e1,Instr.sliceAt,Instr.sureAddr,run_underlying (ru gg),wF,run_sizeOf hs,fo]
    ·refine .vec k v _ _ _ L hL (by omega) (fun _=>⟨_,_,rfl,by omega,fun hc=>⟨?_,by omega⟩⟩) rfl;rw[if_neg (by omega),z1,z2];simp
   ·trivial
  ·trivial
 ·trivial
def pickD (t:Bool) (x y:D):D:=
 match x,y with
 | .bool a,.bool b=>.bool (bif t then a else b)
 |x,y=>bif t then x else y
def pickAV (t:Bool) (x y:AV):AV:=
 match x,y with
 | .d x,.d y=>.d (pickD t x y)
 |x,y=>bif t then x else y
def pickR (c a b:Bool×AV):dj:=
 match c.2 with
 | .d (.bool t)=>.val (c.1=true∧(t=true→a.1=true)∧(t=false→b.1=true)) (pickAV t a.2 b.2)
 |_=>.no
theorem V1 (P:Program) (S:St) (o:Oper) (c x y:Operand) (ho:o.op=.pick c x y):aF P S o (pickR (S.opd c) (S.opd x) (S.opd y)):=by
 unfold pickR;split
 ·rename_i t hc;refine aF.pure ?_;rintro ⟨h1,h2,h3⟩ φ G a w hr;have mK:=hr.opd c h1;rw[hc]at mK;have e:=qZ mK;cases t
  ·have hy:=hr.opd y (h3 rfl);refine⟨a.eval y,by simp[execOp,ho,e,asBool],?_⟩;have e2:pickAV false (S.opd x).2 (S.opd y).2=(S.opd y).2:=by
    unfold pickAV;split
    ·rename_i u v h5 h6;rw[h6];congr 1;unfold pickD;split<;>rfl
    ·rfl
   rw[e2];exact hy
  ·have hx:=hr.opd x (h2 rfl);refine⟨a.eval x,by simp[execOp,ho,e,asBool],?_⟩;have e2:pickAV true (S.opd x).2 (S.opd y).2=(S.opd x).2:=by
    unfold pickAV;split
    ·rename_i u v h5 h6;rw[h5];congr 1;unfold pickD;split<;>rfl
    ·rfl
   rw[e2];exact hx
 ·trivial
theorem V2 (P:Program) (S:St) (o:Oper) (x:Operand) (ho:o.op=.move x∨o.op=.assign x) (hx:(S.opd x).1=true):aF P S o (.val True (S.opd x).2):=by
 refine aF.pure fun _ φ G a w hr=>⟨a.eval x,?_,hr.opd x hx⟩;rcases ho with ho|ho<;>simp[execOp,ho]
def unR (op:UnOp) (x:AV):dj:=
 match op,x with
 | .not,.d (.bool b)=>.val True (.d (.bool (!b)))
 | .neg,.d (.int k n)=>.val True (.d (.int k (k.wrap (0-n))))
 | .xor,.d (.int k n)=>.val True (.d (.int k (k.wrap (BitVec.ofInt k.bits (if k.signed then-1 else k.max) ^^^ BitVec.ofInt k.bits n).toNat)))
 |_,_=>.no
theorem acH (P:Program) (S:St) (o:Oper) (op:UnOp) (t:TypeId) (x:Operand) (ho:o.op=.unOp op t x) (hx:(S.opd x).1=true):aF P S o (unR op (S.opd x).2):=by
 unfold unR;split
 ·rename_i b bF;refine aF.pure fun _ φ G a w hr=>?_;have h1:=hr.opd x hx;rw[bF]at h1;exact⟨.bool (!b),by simp[execOp,ho,qZ h1,Op.unary],.d _ _ (.bool _)⟩
 ·rename_i k n bF;refine aF.pure fun _ φ G a w hr=>?_;have h1:=hr.opd x hx;rw[bF]at h1;exact⟨.int k (k.wrap (0-n)),by simp only[execOp,ho,jz h1,Op.unary,Op.intArith,Sem.run_bind,Sem.run_pure,Result.andThen_ok],.d _ _ (.int _ _)⟩
 ·rename_i k n bF;refine aF.pure fun _ φ G a w hr=>?_;have h1:=hr.opd x hx;rw[bF]at h1;exact⟨_,by simp only[execOp,ho,jz h1,Op.unary,Op.intBits,Sem.run_bind,Sem.run_pure,Result.andThen_ok],.d _ _ (.int _ _)⟩
 ·trivial
def extractR (i:Nat) (x:AV):dj:=
 match x with
 | .aU vs=>match vs[i]? with
  |some v=>.val True v
  |none=>.no
 |_=>.no
theorem Lk (P:Program) (S:St) (o:Oper) (x:Operand) (i:Nat) (ho:o.op=.extract x i) (hx:(S.opd x).1=true):aF P S o (extractR i (S.opd x).2):=by
 unfold extractR;split
 ·rename_i vs bF;split
  ·rename_i v hv;refine aF.pure fun _ φ G a w hr=>?_;have h1:=hr.opd x hx;rw[bF]at h1;generalize bX:a.eval x=av at h1;cases h1 with|aU _ xa hl hc=>
   have hi:i<xa.size:=by rw[←hl];exact (List.getElem?_eq_some_iff.1 hv).1
   exact⟨xa[i],by simp[execOp,ho,bX,Instr.extract,hi],hc i v _ hv (by simp[hi])⟩
  ·trivial
 ·trivial
def makeFuncR (f:Fn) (first cap:List AV):dj:=
 match f,first with
 | .func f,[]=>.val (f<bnB) (.fn f cap)
 | .func f,x::r=>match cap with
  |[]=>.val True (.fn (f+bnB) (x::r))
  |_=>.no
 |_,_=>.no
theorem H2 (P:Program) (S:St) (o:Oper) (f:Fn) (first cap:Array Operand) (ho:o.op=.makeFunc f first cap) (hf:∀x∈first.toList,(S.opd x).1=true) (hc:∀x∈cap.toList,(S.opd x).1=true):aF P S o (makeFuncR f (first.toList.map fun x=>(S.opd x).2) (cap.toList.map fun x=>(S.opd x).2)):=by
 have key:∀(l:Array Operand),(∀x∈l.toList,(S.opd x).1=true)→∀φ G a w,Rel φ G S a w→∀(i:Nat) (c:AV) (v:Value),(l.toList.map fun x=>(S.opd x).2)[i]?=some c→(l.map a.eval)[i]?=some v→az φ w (Fo G φ S.mem) c v:=by
  intro l hl φ G a w hr i c v h1 h2;simp only[List.getElem?_map,Array.getElem?_toList,Option.map_eq_some_iff]at h1;simp only[Array.getElem?_map,Option.map_eq_some_iff]at h2;obtain⟨x,hx,rfl⟩:=h1;obtain⟨y,hy,rfl⟩:=h2;rw[hx]at hy;cases hy;exact hr.opd x (hl x (by simpa using Array.mem_of_getElem? hx))
 generalize pR:(first.toList.map fun x=>(S.opd x).2)=fs;generalize kM:(cap.toList.map fun x=>(S.opd x).2)=cs;unfold makeFuncR;split
 ·rename_i f;refine aF.pure fun cg φ G a w hr=>?_;have vN:first=#[]:=by cases first;simp_all
  refine⟨.func (.func f) #[] (cap.map a.eval),by simp[execOp,ho,Instr.makeFunc,vN],.fn f _ _ cg (by simp[←kM]) (fun i c v h1 h2=>?_)⟩;rw[←kM]at h1;exact key cap hc φ G a w hr i c v h1 h2
 ·rename_i f x r;split
  ·refine aF.pure fun _ φ G a w hr=>?_;have hce:cap=#[]:=by cases cap;simp_all
   refine⟨.func (.func f) (first.map a.eval) #[],by simp[execOp,ho,Instr.makeFunc,hce],.qu f _ _ (by rw[←pR];simp) (fun i c v h1 h2=>?_)⟩;rw[←pR]at h1;exact key first hf φ G a w hr i c v h1 h2
  ·trivial
 ·trivial
def makeIfaceR (P:Program) (t:TypeId) (x:AV):dj:=
 match x.norm with
 | .d d=>.val (tk P t≠.iface∧tk P t≠.other) (.gM t d)
 |_=>.no
theorem zI {P:Program} {t:TypeId} (h:tk P t≠.other):∃d,P.underlying t=some d:=by
 unfold tk at h;cases hu:P.underlying t with
 |none=>simp[hu]at h
 |some d=>exact⟨d,rfl⟩
theorem E7 (P:Program) (S:St) (o:Oper) (t:TypeId) (x:Operand) (ho:o.op=.makeInterface t x) (hx:(S.opd x).1=true):aF P S o (makeIfaceR P t (S.opd x).2):=by
 unfold makeIfaceR;split
 ·rename_i d bF;refine aF.pure ?_;rintro ⟨h1,h2⟩ φ G a w hr;have h3:=(hr.opd x hx).norm;rw[bF]at h3;obtain⟨td,hu⟩:=zI h2;refine⟨.iface t (a.eval x),?_,?_⟩
  ·have bE:∀ms,td≠.interface ms:=by rintro ms rfl;simp[tk,hu]at h1
   simp only[execOp,ho,Instr.makeInterface,Sem.run_bind,run_underlying hu,Result.andThen_ok];cases td<;>first|rfl|exact absurd rfl (bE _)
  ·cases h3 with|d _ _ h=>exact .gM t d _ h
 ·trivial
def lenRm (P:Program) (m:Mem) (t:TypeId) (x:AV):dj:=
 match x with
 | .d (.str s)=>.val (tk P t=.str) (.d (.int .i64 s.length))
 | .d (.list xs)=>match tk P t with
  | .slice _=>.val True (.d (.int .i64 xs.length))
  |_=>.no
 | .vec k aj _ len=>match tk P t,Mem.get m k with
  | .slice _,some ⟨_,v,_⟩=>.val (v=aj) (.d (.int .i64 len))
  |_,_=>.no
 | .lit (.slice none 0 0)=>match tk P t with
  | .slice _=>.val True (.d (.int .i64 0))
  |_=>.no
 | .nn=>match tk P t with
  | .slice _=>.val True (.d (.int .i64 0))
  |_=>.no
 |_=>match tk P t with
  | .arr n _=>.val True (.d (.int .i64 n))
  |_=>.no
theorem run_len_slice {P:Program} {w:World} {t ty e:TypeId} {ao len cap} (h:tk P t=.slice e):(Builtin.len_ #[t] ty #[.slice ao len cap]).run P w=.ok (.int .i64 len) w:=by
 simp[Builtin.len_,run_underlying (fJ h),goInt]
theorem XI (P:Program) (S:St) (o:Oper) (x:Operand) (t:TypeId) (ho:o.op=.call {callee:=.builtin .len,args:=#[x],argTypes:=#[t]}) (hx:(S.opd x).1=true):aF P S o (lenRm P S.mem t (S.opd x).2):=by
 have bB:∀(a:Act) (w:World) (v:Value),(Builtin.len_ #[t] o.type #[a.eval x]).run P w=.ok v w→(execOp a.eval o).run P w=.ok (.value v) w:=by
  intro a w v h;simp[execOp,ho,resolve,invoke,builtin,h]
 unfold lenRm;split
 ·rename_i s bF;refine aF.pure fun ht φ G a w hr=>?_;have h1:=hr.opd x hx;rw[bF]at h1;obtain⟨b,e1,rfl⟩:=rr h1;have oM:b.size=b.data.toList.length:=by rw[Array.length_toList];rfl
  refine⟨.int .i64 b.data.toList.length,bB a w _ ?_,.d _ _ (.int _ _)⟩;simp only[Builtin.len_,e1,List.getElem?_toArray,List.getElem?_cons_zero,Sem.run_bind,run_underlying (mL ht),Result.andThen_ok,Sem.run_pure,goInt,←oM]
 ·rename_i xs bF;split
  ·rename_i e gg;refine aF.pure fun _ φ G a w hr=>?_;have h1:=hr.opd x hx;rw[bF]at h1;generalize bX:a.eval x=av at h1;cases h1 with|d _ _ h=>
   have hl:∃ao cap,av=.slice ao xs.length cap:=by cases h<;>exact⟨_,_,rfl⟩
   obtain⟨ao,cap,rfl⟩:=hl;exact⟨_,bB a w _ (by rw[bX];exact run_len_slice gg),.d _ _ (.int _ _)⟩
  ·trivial
 ·rename_i k aj off len bF;split
  ·rename_i e key v cont gg hg;refine aF.pure ?_;rintro rfl φ G a w hr;have h1:=hr.opd x hx;rw[bF]at h1;obtain⟨hm,hk,L,hL,aw,b8⟩:=hr.mem.get hg;simp only at aw;generalize bX:a.eval x=av at h1;cases h1 with
   |vec _ _ _ _ _ L' bM _ E6 _=>
    rw[hL]at bM;cases bM;obtain⟨ao,cap,rfl,fX,dg⟩:=E6 aw.symm;exact⟨_,bB a w _ (by rw[bX];exact run_len_slice gg),.d _ _ (.int _ _)⟩
  ·trivial
 ·rename_i bF;split
  ·rename_i e gg;refine aF.pure fun _ φ G a w hr=>?_;have h1:=hr.opd x hx;rw[bF]at h1;generalize bX:a.eval x=av at h1;cases h1;exact⟨_,bB a w _ (by rw[bX];exact run_len_slice gg),.d _ _ (.int _ _)⟩
  ·trivial
 ·rename_i bF;split
  ·rename_i e gg;refine aF.pure fun _ φ G a w hr=>?_;have h1:=hr.opd x hx;rw[bF]at h1;generalize bX:a.eval x=av at h1;cases h1;exact⟨_,bB a w _ (by rw[bX];exact run_len_slice gg),.d _ _ (.int _ _)⟩
  ·trivial
 ·split
  ·rename_i n e gg;refine aF.pure fun _ φ G a w hr=>?_;refine⟨.int .i64 n,bB a w _ ?_,.d _ _ (.int _ _)⟩;simp[Builtin.len_,run_underlying (ru gg),goInt]
  ·trivial
def foldMax (isMax:Bool):AV→List AV→Option D
 | .d (.int k a),[]=>some (.int k a)
 | .d (.int k a),y::r=>match y with
  | .d (.int _ b)=>foldMax isMax (.d (.int k (if isMax then (if b>a then b else a)else (if b<a then b else a)))) r
  |_=>none
 |_,_=>none
def maxR (isMax:Bool) (xs:List AV):dj:=
 match xs with
 |x::r=>match foldMax isMax x r with
  |some d=>.val True (.d d)
  |none=>.no
 |[]=>.no
theorem H3 {P:Program} {φ w F} (isMax:Bool):∀(xs:List AV) (x:AV) (vs:List Value) (v:Value) (d:D),foldMax isMax x xs=some d→az φ w F x v→xs.length=vs.length→
 (∀(i:Nat) c u,xs[i]?=some c→vs[i]?=some u→az φ w F c u)→
 ∃u,(vs.foldlM (if isMax then Builtin.max2 else Builtin.min2) v).run P w=.ok u w∧aH w F d u:=by
 intro xs;induction xs with
 |nil=>
  intro x vs v d h hx hl hc;have:vs=[]:=List.eq_nil_of_length_eq_zero (by simpa using hl.symm);subst this;unfold foldMax at h;split at h<;>simp_all;subst h;rw[jz hx];exact .int _ _
 |cons y ys ih=>
  intro x vs v d h hx hl hc;cases vs with
  |nil=>simp at hl
  |cons u us=>
   unfold foldMax at h;split at h
   ·simp_all
   ·rename_i k a y' r heq;simp at heq;obtain⟨rfl,rfl⟩:=heq;split at h
    ·rename_i k2 b;have e1:=jz hx;have e2:=jz (hc 0 (.d (.int k2 b)) u (by simp) (by simp));subst e1;subst e2;have dN:∀(i:Nat) c u,ys[i]?=some c→us[i]?=some u→az φ w F c u:=fun i c u h1 h2=>hc (i+1) c u (by simpa using h1) (by simpa using h2);cases isMax
     ·obtain⟨u',h1,h2⟩:=ih _ us (.int k (if b<a then b else a)) d h (.d _ _ (.int _ _)) (by simpa using hl) dN;refine⟨u',?_,h2⟩;simp only[Bool.false_eq_true,if_false]at h1⊢;simp only[List.foldlM_cons,Builtin.min2,pure_bind];exact h1
     ·obtain⟨u',h1,h2⟩:=ih _ us (.int k (if b>a then b else a)) d h (.d _ _ (.int _ _)) (by simpa using hl) dN;refine⟨u',?_,h2⟩;simp only[if_true]at h1⊢;simp only[List.foldlM_cons,Builtin.max2,pure_bind];exact h1
    ·cases h
   ·cases h
theorem N9 (P:Program) (S:St) (o:Oper) (isMax:Bool) (args:Array Operand) (ts:Array TypeId) (ho:o.op=.call {callee:=.builtin (if isMax then .max else .min),args,argTypes:=ts}) (hx:∀x∈args.toList,(S.opd x).1=true):aF P S o (maxR isMax (args.toList.map fun x=>(S.opd x).2)):=by
 unfold maxR;split
 ·rename_i x r heq;split
  ·rename_i d hd;refine aF.pure fun _ φ G a w hr=>?_;obtain⟨l,hl⟩:∃l,args.toList=l:=⟨_,rfl⟩;rw[hl]at heq hx;cases l with
   |nil=>simp at heq
   |cons y ys=>
    simp at heq;obtain⟨rfl,rfl⟩:=heq;obtain⟨u,h1,h2⟩:=H3 (P:=P) (φ:=φ) (w:=w) (F:=Fo G φ S.mem) isMax _ _ (ys.map a.eval) (a.eval y) d hd (hr.opd y (hx y (by simp))) (by simp) (fun i c u h1 h2=>by
     simp only[List.getElem?_map,Option.map_eq_some_iff]at h1 h2;obtain⟨p,hp,rfl⟩:=h1;obtain⟨q,hq,rfl⟩:=h2;rw[hp]at hq;cases hq;exact hr.opd p (hx p (by simp[List.mem_of_getElem? hp])))
    refine⟨u,?_,.d _ _ h2⟩;have wG:(args.map a.eval).toList=a.eval y::ys.map a.eval:=by simp[hl]
    cases isMax
    ·simp only[Bool.false_eq_true,if_false]at h1 ho;simp[execOp,ho,resolve,invoke,builtin,Builtin.min_,hl,h1]
    ·simp only[if_true]at h1 ho;simp[execOp,ho,resolve,invoke,builtin,Builtin.max_,hl,h1]
  ·trivial
 ·trivial
theorem C4 (off:Nat):∀(l:List Value) (k:Nat) (cs:Array Value),off+k+l.length≤cs.size→
 ((l.zipIdx k).foldl (fun cs x=>cs.setIfInBounds (off+x.2) x.1) cs).toList=cs.toList.take (off+k)++l++cs.toList.drop (off+k+l.length)
 |[],k,cs,_=>by simp
 |v::l,k,cs,h=>by
  simp only[List.zipIdx_cons,List.foldl_cons,List.length_cons]at h⊢;rw[C4 off l (k+1) _ (by simp;omega),Array.toList_setIfInBounds];have:=list_seg_step cs.toList (off+k) v l (by simp;omega);rw[show off+(k+1)=off+k+1 by omega,show off+k+(l.length+1)=off+k+1+l.length by omega];simpa [List.length_cons,Nat.add_assoc,Nat.add_comm 1]using this
theorem E8 (cs v:Array Value) (off:Nat) (h:off+v.size≤cs.size):
 (v.zipIdx.foldl (fun cs (x:Value×Nat)=>cs.setIfInBounds (off+x.2) x.1) cs).toList=putCells cs.toList off v.toList:=by
 rw[←Array.foldl_toList,Array.toList_zipIdx,C4 off v.toList 0 cs (by simpa using h),dp _ _ _ (by simpa using h)];simp
def fillA (place:Nat→Option (Nat×Nat)):List (Nat×AV)→Bool→List AV→Option (Bool×List AV)
 |[],c,cs=>some (c,cs)
 |(i,x)::r,c,cs=>match place i with
  |some (off,n)=>fillA place r (c∧x.solid=true∧x.cells.length=n∧off+n≤cs.length) (putCells cs off x.cells)
  |none=>none
theorem wH {φ w F} (place:Nat→Option (Nat×Nat)):∀(ps:List (Nat×AV)) (c0 c:Bool) (cs lq:List AV) (vs:List (Nat×Value)) (va:Array Value),
 fillA place ps c0 cs=some (c,lq)→c=true→cs.length=va.size→(∀v∈va,cn v=true)→(∀(i:Nat) x v,cs[i]?=some x→va[i]?=some v→az φ w F x v)→
 ps.length=vs.length→(∀(i:Nat) p v,ps[i]?=some p→vs[i]?=some v→p.1=v.1∧az φ w F p.2 v.2)→
 ∃vO,Instr.fill place va vs=some vO∧c0=true∧lq.length=vO.size∧(∀v∈vO,cn v=true)∧∀(i:Nat) x v,lq[i]?=some x→vO[i]?=some v→az φ w F x v
 |[],c0,c,cs,lq,vs,va,h,hc,hl,h1,hr,dg,hp=>by
  have:vs=[]:=List.eq_nil_of_length_eq_zero (by simpa using dg.symm);subst this;simp only[fillA,Option.some.injEq,Prod.mk.injEq]at h;obtain⟨rfl,rfl⟩:=h;exact⟨va,rfl,hc,hl,h1,hr⟩
 |(i,x)::ps,c0,c,cs,lq,vs,va,h,hc,hl,h1,hr,dg,hp=>by
  cases vs with
  |nil=>simp at dg
  |cons v vs=>
   obtain⟨j,v⟩:=v;obtain⟨ka,bF⟩:=hp 0 (i,x) (j,v) (by simp) (by simp);simp only at ka bF;subst ka;simp only[fillA]at h;split at h
   ·rename_i off n ahI
    --vK condition of vK rest holds vK condition of this part
    obtain⟨q,hq⟩:∃q:Bool,q=decide (c0=true∧x.solid=true∧x.cells.length=n∧off+n≤cs.length):=⟨_,rfl⟩;have gQ:c=true→q=true:=by
     rw[←hq]at h;clear hq;revert h
     generalize putCells cs off x.cells=cs2;clear hp dg hr h1 hl bF hc;induction ps generalizing q cs2 with
     |nil=>intro h;simp only[fillA,Option.some.injEq,Prod.mk.injEq]at h;obtain⟨rfl,_⟩:=h;exact id
     |cons p ps ih=>
      intro h fu;simp only[fillA]at h;split at h
      ·exact (of_decide_eq_true (ih _ _ h fu)).1
      ·cases h
    have Ui:=gQ hc;rw[hq]at Ui;replace Ui:=of_decide_eq_true Ui;obtain⟨ahJ,Rt,hlen,hle⟩:=Ui;obtain⟨pN,qv⟩:=bF.solid Rt;have m8:off+v.cells.size≤va.size:=by omega
    have jd:=E8 va v.cells off m8;obtain⟨XJ,wI⟩:∃XJ,XJ=v.cells.zipIdx.foldl (fun cs (x:Value×Nat)=>cs.setIfInBounds (off+x.2) x.1) va:=⟨_,rfl⟩;rw[←wI]at jd;have iH:off+v.cells.toList.length≤va.toList.length:=by simpa using m8
    obtain⟨vO,hf,fu,r1,r2,r3⟩:=wH (φ:=φ) (w:=w) (F:=F) place ps _ c _ lq vs XJ h hc
     (by rw[bK _ _ _ (by omega),←Array.length_toList,jd,bK _ _ _ iH];simpa using hl)
     (fun u hu=>by
      rw[←Array.mem_toList_iff,jd]at hu;rcases j9 iH hu with hu|hu
      ·exact h1 u (by simpa using hu)
      ·exact qv u (by simpa using hu))
     (fun i y u hy hu=>by
      rw[←Array.getElem?_toList,jd]at hu;exact rk (R:=fun x v=>az φ w F x v) (by simpa using hl) (by simpa using pN.symm) (by omega) (fun i c v h h'=>hr i c v h (by simpa using h')) (fun i c v h h'=>bF.cells qv pN i c v h (by simpa using h')) i y u hy hu)
     (by simpa using dg) (fun i p v h h'=>hp (i+1) p v (by simpa using h) (by simpa using h'))
    refine⟨vO,?_,ahJ,r1,r2,r3⟩;simp only[Instr.fill,ahI];rw[if_neg (by simp;omega)];rw[←hf,wI]
   ·cases h
def bJ (P:Program) (t:TypeId):Option (List (Nat×Nat)):=
 match P.underlying t with
 |some (.struct fs)=>fs.toList.mapM fun f=>(P.info? f.type).map fun i=>(f.offset,i.size)
 |_=>none
theorem yW {P:Program} {w:World}:∀(fs:List Field) (l:List (Nat×Nat)),(fs.mapM fun f=>(P.info? f.type).map fun i=>(f.offset,i.size))=some l→
 (fs.mapM fun f=>(do pure (f.offset,←sizeOf f.type):Sem (Nat×Nat))).run P w=.ok l w
 |[],l,h=>by simp at h;subst h;simp
 |f::fs,l,h=>by
  simp only[List.mapM_cons]at h⊢;cases hi:P.info? f.type with
  |none=>simp[hi]at h
  |some i=>
   simp only[hi,Option.map_some,Option.pure_def,Option.bind_eq_bind,Option.bind_some]at h;cases hm:(fs.mapM fun f=>(P.info? f.type).map fun i=>(f.offset,i.size))with
   |none=>simp[hm]at h
   |some l'=>
    simp[hm]at h;subst h;have hs:(sizeOf f.type).run P w=.ok i.size w:=run_sizeOf (by simp[fm,hi]);have ih:=yW (P:=P) (w:=w) fs l' hm;simp only[Sem.run_bind,hs,Result.andThen_ok,Sem.run_pure,ih]
def buildR (P:Program) (t:TypeId) (ps:List (Nat×AV)):dj:=
 match se P t with
 |some zs=>match bJ P t with
  |some l=>match fillA (fun i=>l[i]?) ps true zs with
   |some (c,cs)=>.val c (mkAgg cs)
   |none=>.no
  |none=>match tk P t with
   | .arr _ e=>match fm P e with
    |some sz=>match fillA (fun i=>some (i*sz,sz)) ps true zs with
     |some (c,cs)=>.val c (mkAgg cs)
     |none=>.no
    |none=>.no
   |_=>.no
 |none=>.no
theorem RG (P:Program) (S:St) (o:Oper) (t:TypeId) (ps:Array (Nat×Operand)) (ho:o.op=.build t ps) (hx:∀x∈ps.toList,(S.opd x.2).1=true):
 aF P S o (buildR P t (ps.toList.map fun x=>(x.1,(S.opd x.2).2))):=by
 have parts:∀{φ G a w},Rel φ G S a w→∀(i:Nat) (p:Nat×AV) (v:Nat×Value),(ps.toList.map fun x=>(x.1,(S.opd x.2).2))[i]?=some p→(ps.toList.map fun x=>(x.1,a.eval x.2))[i]?=some v→p.1=v.1∧az φ w (Fo G φ S.mem) p.2 v.2:=by
  intro φ G a w hr i p v h1 h2;simp only[List.getElem?_map,Option.map_eq_some_iff]at h1 h2;obtain⟨x,E9,rfl⟩:=h1;obtain⟨y,C5,rfl⟩:=h2;rw[E9]at C5;cases C5;exact⟨rfl,hr.opd _ (hx x (List.mem_of_getElem? E9))⟩
 unfold buildR;split
 ·rename_i zs hz;split
  ·rename_i l hl;split
   ·rename_i c cs hf;refine aF.px fun hc φ G a w hr=>?_;obtain⟨z,bB,bN,h1,ej⟩:=nj hz w;obtain⟨vO,h2,_,h3,h4,h5⟩:=wH (φ:=φ) (w:=w) (F:=Fo G φ S.mem) _ _ _ _ _ _ (ps.toList.map fun x=>(x.1,a.eval x.2)) z.cells hf hc bN.symm h1 (fun i x v h h'=>ej _ _ _ i x v h h') (by simp) (parts hr);unfold bJ at hl;split at hl
    ·rename_i fs hu;have hm:=yW (P:=P) (w:=w) fs.toList l hl;refine⟨.agg vO,?_,?_⟩
     ·have hmA:(fs.mapM fun f=>(do pure (f.offset,←sizeOf f.type):Sem (Nat×Nat))).run P w=.ok l.toArray w:=by
       rw[Array.mapM_eq_mapM_toList];simp only[Sem.run_map,hm,Result.andThen_ok]
      simp only[execOp,ho,Instr.build,Sem.run_bind,bB,Result.andThen_ok,run_underlying hu,hmA];have e:(fun (i:Nat)=>l.toArray[i]?)=fun (i:Nat)=>l[i]?:=by funext i;simp
      have e2:(Array.map (fun x=>(x.1,a.eval x.2)) ps).toList=ps.toList.map fun x=>(x.1,a.eval x.2):=by simp
      rw[e,e2,h2];rfl
     ·have:=we (φ:=φ) (w:=w) (F:=Fo G φ S.mem) (cs:=cs) (vs:=vO.toList) (by simpa using h3) (fun v hv=>h4 v (by simpa using hv)) (fun i c v h h'=>h5 i c v h (by simpa using h'));simpa using this
    ·cases hl
   ·trivial
  ·split
   ·rename_i n e gg;split
    ·rename_i sz hs;split
     ·rename_i c cs hf;refine aF.px fun hc φ G a w hr=>?_;obtain⟨z,bB,bN,h1,ej⟩:=nj hz w;obtain⟨vO,h2,_,h3,h4,h5⟩:=wH (φ:=φ) (w:=w) (F:=Fo G φ S.mem) _ _ _ _ _ _ (ps.toList.map fun x=>(x.1,a.eval x.2)) z.cells hf hc bN.symm h1 (fun i x v h h'=>ej _ _ _ i x v h h') (by simp) (parts hr);refine⟨.agg vO,?_,?_⟩
      ·simp only[execOp,ho,Instr.build,Sem.run_bind,bB,Result.andThen_ok,run_underlying (ru gg),run_sizeOf hs];have e2:(Array.map (fun x=>(x.1,a.eval x.2)) ps).toList=ps.toList.map fun x=>(x.1,a.eval x.2):=by simp
       rw[e2,h2];rfl
      ·have:=we (φ:=φ) (w:=w) (F:=Fo G φ S.mem) (cs:=cs) (vs:=vO.toList) (by simpa using h3) (fun v hv=>h4 v (by simpa using hv)) (fun i c v h h'=>h5 i c v h (by simpa using h'));simpa using this
     ·trivial
    ·trivial
   ·trivial
 ·trivial
end Go.Am
end

/-
  Texts of one proof, one behind the other.
-/
import Derived.SizedLaws
import Derived.Handed
import Derived.Shelf.Vars
import Derived.WalkKit
import Derived.Laws.Rows
import Derived.Laws.CopyRow
import Derived.Laws.StructEq
set_option linter.all false
section
namespace Go.Am
open Go
inductive D where
 | int (k : IntKind) (n : Int)
 | bool (b : Bool)
 | str (s : List UInt8)
 | list (xs : List D)
 | agg (cs : List D)
 | opq
def D.size : D → Nat
 | .agg cs => cs.length
 | _ => 1
def D.flat : D → Bool
 | .agg _ => false
 | _ => true
def cell1 : Value → Bool
 | .agg _ => false
 | .tuple _ => false
 | _ => true
theorem cells_of_cell1 {v : Value} (h : cell1 v = true) : v.cells = #[v] := by cases v <;> simp_all [cell1, Value.cells]
inductive DRel (w : World) (F : Nat → Prop) : D → Value → Prop
 | int (k n) : DRel w F (.int k n) (.int k n)
 | bool (b) : DRel w F (.bool b) (.bool b)
 | opq (v : Value) (h : v = .nilIface ∨ ∃ t p, v = .iface t p) : DRel w F .opq v
 | str (b : ByteArray) (s : List UInt8) (h : b.data.toList = s) : DRel w F (.str s) (.string b)
 | agg (cs : List D) (a : Array Value) (hl : cs.length = a.size)
  (hf : ∀ d ∈ cs, d.flat = true) (hc : ∀ (i : Nat) (d : D) (v : Value), cs[i]? = some d → a[i]? = some v → DRel w F d v) : DRel w F (.agg cs) (.agg a)
 | nil (a : Option Addr) (cap : Nat) (hn : a = none → cap = 0) : DRel w F (.list []) (.slice a 0 cap)
 | list (xs : List D) (b off cap sz : Nat) (vs : Nat → Value) (hcap : xs.length ≤ cap) (hb : b < w.heap.size) (hF : ¬ F b) (hsz : ∀ d ∈ xs, d.size = sz)
  (hv : ∀ (i : Nat) (d : D), xs[i]? = some d → DRel w F d (vs i))
  (hc : ∀ (i j : Nat) (c : Value), i < xs.length → (vs i).cells[j]? = some c → w.cell? ⟨b, off + i * sz + j, none⟩ = some c) :
  DRel w F (.list xs) (.slice (some ⟨b, off, none⟩) xs.length cap)
theorem DRel.size {w F d v} (h : DRel w F d v) : v.cells.size = d.size := by
 cases h
 case opq h => rcases h with rfl | ⟨t, p, rfl⟩ <;> rfl
 all_goals simp_all [D.size, Value.cells]
theorem DRel.one {w F d v} (h : DRel w F d v) (hf : d.flat = true) : cell1 v = true := by
 cases h
 case opq h => rcases h with rfl | ⟨t, p, rfl⟩ <;> rfl
 all_goals simp_all [D.flat, Am.cell1]
theorem cell?_congr {w w' : World} {b o : Nat} (h : w'.heap[b]? = w.heap[b]?) : w'.cell? ⟨b, o, none⟩ = w.cell? ⟨b, o, none⟩ := by
 simp [World.cell?, h]
theorem DRel.mono {w w' : World} {F F' : Nat → Prop} {d v} (h : DRel w F d v)
 (hk : ∀ b, b < w.heap.size → ¬ F b → w'.heap[b]? = w.heap[b]?) (hs : w.heap.size ≤ w'.heap.size) (hF : ∀ b, b < w.heap.size → F' b → F b) : DRel w' F' d v := by
 induction h with
 | int k n => exact .int k n
 | bool b => exact .bool b
 | opq v h => exact .opq v h
 | str b s h => exact .str b s h
 | agg cs a hl hf _ ih => exact .agg cs a hl hf ih
 | nil a cap hn => exact .nil a cap hn
 | list xs b off cap sz vs hcap hb hFb hsz _ hc ih =>
  exact .list xs b off cap sz vs hcap (by omega) (fun h => hFb (hF b hb h)) hsz ih (fun i j c hi hj => by
   rw [cell?_congr (hk b hb hFb)]; exact hc i j c hi hj)
def bnB : Nat := 1000000
inductive AV where
 | junk
 | d (x : D)
 | agg (cs : List AV)
 | ptr (k ver off : Nat)
 | vec (k ver off len : Nat)
 | eptr (k ver i j : Nat)
 | rptr (x : D) (j : Nat)
 | fn (f : FuncId) (cap : List AV)
 | tup (vs : List AV)
 | ifc (t : TypeId) (x : D)
 | lit (v : Value)
 | nn
 | err
structure Loc where
 ver : Nat
 blk : Nat
 sz : Nat
 cap : Nat
 base : Nat
 subs : List (Option Nat) := []
abbrev Phi := Nat → Option Loc
inductive AVRel (φ : Phi) (w : World) (F : Nat → Prop) : AV → Value → Prop
 | junk (v) : AVRel φ w F .junk v
 | d (x v) (h : DRel w F x v) : AVRel φ w F (.d x) v
 | agg (cs : List AV) (a : Array Value) (hl : cs.length = a.size) (h1 : ∀ v ∈ a, cell1 v = true) (hc : ∀ (i : Nat) (c : AV) (v : Value), cs[i]? = some c → a[i]? = some v → AVRel φ w F c v) : AVRel φ w F (.agg cs) (.agg a)
 | ptr (k ver off : Nat) (v : Value) (L : Loc) (hL : φ k = some L) (hv : ver ≤ L.ver) (h : ver = L.ver → v = .pointer (some ⟨L.blk, off, none⟩)) (h1 : cell1 v = true) : AVRel φ w F (.ptr k ver off) v
 | vec (k ver off len : Nat) (v : Value) (L : Loc) (hL : φ k = some L) (hv : ver ≤ L.ver)
  (h : ver = L.ver → ∃ a cap, v = .slice a len cap ∧ len ≤ cap ∧ (cap > 0 → a = some ⟨L.blk, L.base + off * L.sz, none⟩ ∧ off + cap ≤ L.cap)) (h1 : cell1 v = true) : AVRel φ w F (.vec k ver off len) v
 | eptr (k ver i j : Nat) (v : Value) (L : Loc) (hL : φ k = some L) (hv : ver ≤ L.ver) (h : ver = L.ver → v = .pointer (some ⟨L.blk, L.base + i * L.sz + j, none⟩)) (h1 : cell1 v = true) : AVRel φ w F (.eptr k ver i j) v
 | rptr (x : D) (j : Nat) (b off : Nat) (x' : Value) (hb : b < w.heap.size) (hF : ¬ F b) (hx : DRel w F x x')
  (hc : ∀ (i : Nat) (c : Value), x'.cells[i]? = some c → w.cell? ⟨b, off + i, none⟩ = some c) : AVRel φ w F (.rptr x j) (.pointer (some ⟨b, off + j, none⟩))
 | fn (f : FuncId) (cap : List AV) (a : Array Value) (hf : f < bnB) (hl : cap.length = a.size) (hc : ∀ (i : Nat) (c : AV) (v : Value), cap[i]? = some c → a[i]? = some v → AVRel φ w F c v) : AVRel φ w F (.fn f cap) (.func (.func f) #[] a)
 | bnd (f : FuncId) (cap : List AV) (a : Array Value) (hl : cap.length = a.size) (hc : ∀ (i : Nat) (c : AV) (v : Value), cap[i]? = some c → a[i]? = some v → AVRel φ w F c v) : AVRel φ w F (.fn (f + bnB) cap) (.func (.func f) a #[])
 | tup (vs : List AV) (a : Array Value) (hl : vs.length = a.size) (hc : ∀ (i : Nat) (c : AV) (v : Value), vs[i]? = some c → a[i]? = some v → AVRel φ w F c v) : AVRel φ w F (.tup vs) (.tuple a)
 | ifc (t : TypeId) (x : D) (v : Value) (h : DRel w F x v) : AVRel φ w F (.ifc t x) (.iface t v)
 | lit (v) (h1 : cell1 v = true) : AVRel φ w F (.lit v) v
 | nn (a : Addr) (cap : Nat) : AVRel φ w F .nn (.slice (some a) 0 cap)
 | err (t : TypeId) (v : Value) : AVRel φ w F .err (.iface t v)
def Phi.le (φ φ' : Phi) : Prop := ∀ k L, φ k = some L → ∃ L', φ' k = some L' ∧ L.ver ≤ L'.ver ∧ (L'.ver = L.ver → L' = { L with subs := L'.subs })
theorem Phi.le_refl (φ : Phi) : φ.le φ := fun _ L h => ⟨L, h, Nat.le_refl _, fun _ => rfl⟩
theorem Phi.le_trans {φ φ' φ'' : Phi} (h : φ.le φ') (h' : φ'.le φ'') : φ.le φ'' := by
 intro k L hL
 obtain ⟨L1, h1, hv1, he1⟩ := h k L hL
 obtain ⟨L2, h2, hv2, he2⟩ := h' k L1 h1
 refine ⟨L2, h2, by omega, fun e => ?_⟩
 have e1 : L1.ver = L.ver := by omega
 have h3 := he1 e1
 rw [h3] at he2
 exact he2 (by rw [e])
theorem AVRel.mono {φ φ' : Phi} {w w' : World} {F F' : Nat → Prop} {x v} (h : AVRel φ w F x v) (hφ : φ.le φ')
 (hk : ∀ b, b < w.heap.size → ¬ F b → w'.heap[b]? = w.heap[b]?) (hs : w.heap.size ≤ w'.heap.size) (hF : ∀ b, b < w.heap.size → F' b → F b) : AVRel φ' w' F' x v := by
 induction h with
 | junk v => exact .junk v
 | d x v h => exact .d x v (h.mono hk hs hF)
 | agg cs a hl h1 _ ih => exact .agg cs a hl h1 ih
 | ptr k ver off v L hL hv h h1 =>
  obtain ⟨L', hL', hv', he⟩ := hφ k L hL
  exact .ptr k ver off v L' hL' (by omega) (fun e => by have e1 : L'.ver = L.ver := by omega
                                                        have h3 := he e1; rw [h3]; exact h (by rw [e, e1])) h1
 | vec k ver off len v L hL hv h h1 =>
  obtain ⟨L', hL', hv', he⟩ := hφ k L hL
  exact .vec k ver off len v L' hL' (by omega) (fun e => by have e1 : L'.ver = L.ver := by omega
                                                            have h3 := he e1; rw [h3]; exact h (by rw [e, e1])) h1
 | eptr k ver i j v L hL hv h h1 =>
  obtain ⟨L', hL', hv', he⟩ := hφ k L hL
  exact .eptr k ver i j v L' hL' (by omega) (fun e => by have e1 : L'.ver = L.ver := by omega
                                                         have h3 := he e1; rw [h3]; exact h (by rw [e, e1])) h1
 | rptr x j b off x' hb hFb hx hc =>
  exact .rptr x j b off x' (by omega) (fun h => hFb (hF b hb h)) (hx.mono hk hs hF) (fun i c hi => by rw [cell?_congr (hk b hb hFb)]; exact hc i c hi)
 | fn f cap a hf hl _ ih => exact .fn f cap a hf hl ih
 | bnd f cap a hl _ ih => exact .bnd f cap a hl ih
 | tup vs a hl _ ih => exact .tup vs a hl ih
 | ifc t x v h => exact .ifc t x v (h.mono hk hs hF)
 | lit v h1 => exact .lit v h1
 | nn a cap => exact .nn a cap
 | err t v => exact .err t v
inductive Cont where
 | dead
 | box (cs : List AV)
 | vec (sz : Nat) (rows : List D)
 | vv (rows : List (List D)) (y : Option AV)
structure Ent where
 key : Nat
 ver : Nat
 cont : Cont
abbrev Mem := List Ent
def Mem.get : Mem → Nat → Option Ent
 | [], _ => none
 | e :: r, k => if e.key = k then some e else Mem.get r k
def Mem.set : Mem → Ent → Mem
 | [], _ => []
 | e :: r, x => if e.key = x.key then x :: r else e :: Mem.set r x
theorem Mem.get_mem {m : Mem} {k e} (h : Mem.get m k = some e) : e ∈ m ∧ e.key = k := by
 induction m with
 | nil => simp [Mem.get] at h
 | cons x r ih =>
  simp only [Mem.get] at h
  split at h
  · simp_all
  · have := ih h; simp_all
theorem Mem.get_of_mem {m : Mem} {e} (hn : (m.map (·.key)).Nodup) (h : e ∈ m) : Mem.get m e.key = some e := by
 induction m with
 | nil => simp at h
 | cons x r ih =>
  simp only [List.map_cons, List.nodup_cons] at hn
  simp only [Mem.get]
  rcases List.mem_cons.1 h with rfl | h
  · simp
  · have : x.key ≠ e.key := fun he => hn.1 (by rw [he]; exact List.mem_map_of_mem h)
    simp [this, ih hn.2 h]
theorem Mem.set_keys (m : Mem) (x : Ent) : (Mem.set m x).map (·.key) = m.map (·.key) := by
 induction m with
 | nil => rfl
 | cons e r ih =>
  simp only [Mem.set]
  split
  · simp_all
  · simp [ih]
theorem Mem.mem_set {m : Mem} {x e : Ent} (hn : (m.map (·.key)).Nodup) : e ∈ Mem.set m x ↔ (e = x ∧ x.key ∈ m.map (·.key)) ∨ (e ∈ m ∧ e.key ≠ x.key) := by
 induction m with
 | nil => simp [Mem.set]
 | cons y r ih =>
  simp only [List.map_cons, List.nodup_cons] at hn
  simp only [Mem.set]
  split
  · rename_i hy
    constructor
    · intro h
      rcases List.mem_cons.1 h with rfl | h
      · left; simp [hy]
      · right; refine ⟨by simp [h], fun he => hn.1 ?_⟩
        rw [hy, ← he]; exact List.mem_map_of_mem h
    · rintro (⟨rfl, _⟩ | ⟨h, hne⟩)
      · simp
      · rcases List.mem_cons.1 h with rfl | h
        · exact absurd hy hne
        · simp [h]
  · rename_i hy
    simp only [List.mem_cons, ih hn.2, List.map_cons]
    constructor
    · rintro (rfl | ⟨rfl, h⟩ | ⟨h, hne⟩)
      · right; exact ⟨.inl rfl, hy⟩
      · left; exact ⟨rfl, .inr h⟩
      · right; exact ⟨.inr h, hne⟩
    · rintro (⟨rfl, h⟩ | ⟨h, hne⟩)
      · rcases h with h | h
        · exact absurd h.symm hy
        · right; left; exact ⟨rfl, h⟩
      · rcases h with rfl | h
        · left; rfl
        · right; right; exact ⟨h, hne⟩
theorem Mem.get_set_same {m : Mem} {x : Ent} (h : x.key ∈ m.map (·.key)) : Mem.get (Mem.set m x) x.key = some x := by
 induction m with
 | nil => simp at h
 | cons y r ih =>
  simp only [Mem.set]
  split
  · simp [Mem.get]
  · rename_i hy
    simp only [Mem.get, hy, if_false]
    exact ih (by simp only [List.map_cons, List.mem_cons] at h; rcases h with h | h; exact absurd h.symm hy; exact h)
theorem Mem.get_set_ne {m : Mem} {x : Ent} {k : Nat} (h : x.key ≠ k) : Mem.get (Mem.set m x) k = Mem.get m k := by
 induction m with
 | nil => rfl
 | cons y r ih =>
  simp only [Mem.set]
  split
  · rename_i hy
    have : y.key ≠ k := by rw [hy]; exact h
    simp [Mem.get, h, this]
  · simp only [Mem.get, ih]
def Cont.owns (L : Loc) : Cont → Nat → Prop
 | .dead, _ => False
 | .box _, b => L.blk = b
 | .vec _ _, b => 0 < L.cap ∧ L.blk = b
 | .vv _ _, b => (0 < L.cap ∧ L.blk = b) ∨ some b ∈ L.subs
def Own (φ : Phi) (m : Mem) (b : Nat) : Prop := ∃ e ∈ m, ∃ L, φ e.key = some L ∧ e.cont.owns L b
structure Fr where
 g : Nat → Prop
 dv : List Deferred
instance : CoeFun Fr (fun _ => Nat → Prop) := ⟨Fr.g⟩
def Fo (G : Fr) (φ : Phi) (m : Mem) (b : Nat) : Prop := G b ∨ Own φ m b
def RowAt (w : World) (b : Nat) (arr : Array Value) (elem : TypeId) : Prop := ∃ fr : Nat × Nat, w.heap[b]? = some (.cells arr elem fr) ∧ (fr = (0, 0) ∨ arr.size ≤ fr.1)
theorem RowAt.same {w w' : World} {b : Nat} {arr : Array Value} {elem : TypeId} (h : RowAt w b arr elem) (hs : w'.heap[b]? = w.heap[b]?) : RowAt w' b arr elem := by
 obtain ⟨fr, h1, h2⟩ := h
 exact ⟨fr, by rw [hs]; exact h1, h2⟩
theorem RowAt.lt {w : World} {b : Nat} {arr : Array Value} {elem : TypeId} (h : RowAt w b arr elem) : b < w.heap.size := by
 obtain ⟨fr, h1, h2⟩ := h
 exact (Array.getElem?_eq_some_iff.1 h1).1
theorem RowAt.new {w : World} {b : Nat} {arr : Array Value} {elem : TypeId} (h : w.heap[b]? = some (.cells arr elem (0, 0))) : RowAt w b arr elem := ⟨(0, 0), h, .inl rfl⟩
def SubRel (w : World) (F : Nat → Prop) (v : Option Value) (xs : List D) (o : Option Nat) : Prop :=
 match o with
 | none => xs = [] ∧ ∃ a, v = some (.slice a 0 0)
 | some b => ∃ (row : Array Value) (re : TypeId) (off cap : Nat), v = some (.slice (some ⟨b, off, none⟩) xs.length cap) ∧ 0 < cap ∧ xs.length ≤ cap ∧ off + cap ≤ row.size ∧ RowAt w b row re ∧ (∀ u ∈ row, cell1 u = true) ∧
  ∀ (i : Nat) (d : D), xs[i]? = some d → d.size = 1 ∧ ∃ u, DRel w F d u ∧ ∀ (j : Nat) (c : Value), u.cells[j]? = some c → row[off + i * 1 + j]? = some c
theorem SubRel.mono {w w' : World} {F F' : Nat → Prop} {v xs o} (h : SubRel w F v xs o) (hd : ∀ d u, d ∈ xs → DRel w F d u → DRel w' F' d u)
 (hown : ∀ b, o = some b → w'.heap[b]? = w.heap[b]?) : SubRel w' F' v xs o := by
 cases o with
 | none => exact h
 | some b =>
  obtain ⟨row, re, off, cap, h1, h2, h3, h4, h5, h6, h7⟩ := h
  exact ⟨row, re, off, cap, h1, h2, h3, h4, h5.same (hown b rfl), h6, fun j d hj => let ⟨g1, u, g2, g3⟩ := h7 j d hj; ⟨g1, u, hd d u (List.mem_of_getElem? hj) g2, g3⟩⟩
def VRel (φ : Phi) (w : World) (F : Nat → Prop) (L : Loc) (rows : List (List D)) (y : Option AV) : Prop :=
 (L.sz = 1 ∧ rows.length + y.toList.length ≤ L.cap ∧ L.subs.length = rows.length) ∧
  (∀ (i j : Nat) (b : Nat), L.subs[i]? = some (some b) → L.subs[j]? = some (some b) → i = j) ∧ (∀ b, some b ∈ L.subs → 0 < L.cap ∧ b ≠ L.blk) ∧
  (0 < L.cap → ∃ (arr : Array Value) (elem : TypeId), RowAt w L.blk arr elem ∧ arr.size = L.base + L.cap ∧ (∀ v ∈ arr, cell1 v = true) ∧
   (∀ (i : Nat) (xs : List D) (o : Option Nat), rows[i]? = some xs → L.subs[i]? = some o → SubRel w F arr[L.base + i]? xs o) ∧
   ∀ x, y = some x → ∃ v, arr[L.base + rows.length]? = some v ∧ AVRel φ w F x v)
theorem VRel.mono {φ φ' : Phi} {w w' : World} {F F' : Nat → Prop} {L rows y} (f : AV → AV) (h : VRel φ w F L rows y)
 (hd : ∀ xs ∈ rows, ∀ d ∈ xs, ∀ u, DRel w F d u → DRel w' F' d u) (ha : ∀ x, y = some x → ∀ v, AVRel φ w F x v → AVRel φ' w' F' (f x) v)
 (hown : ∀ b, ((0 < L.cap ∧ L.blk = b) ∨ some b ∈ L.subs) → w'.heap[b]? = w.heap[b]?) : VRel φ' w' F' L rows (y.map f) := by
 obtain ⟨h0, h1, h2, h⟩ := h
 refine ⟨by cases y <;> exact h0, h1, h2, fun hc => ?_⟩
 obtain ⟨arr, elem, g1, g2, g3, g4, g5⟩ := h hc
 refine ⟨arr, elem, g1.same (hown _ (.inl ⟨hc, rfl⟩)), g2, g3, fun i xs o hi ho => (g4 i xs o hi ho).mono (fun d u hm => hd xs (List.mem_of_getElem? hi) d hm u) (fun b e => hown b (.inr (by subst e; exact List.mem_of_getElem? ho))), fun x hx => ?_⟩
 cases y with
 | none => cases hx
 | some z =>
  cases hx
  obtain ⟨v, q1, q2⟩ := g5 z rfl
  exact ⟨v, q1, ha z rfl v q2⟩
theorem VRel.mono0 {φ φ' : Phi} {w w' : World} {F F' : Nat → Prop} {L rows y} (h : VRel φ w F L rows y)
 (hd : ∀ xs ∈ rows, ∀ d ∈ xs, ∀ u, DRel w F d u → DRel w' F' d u) (ha : ∀ x, y = some x → ∀ v, AVRel φ w F x v → AVRel φ' w' F' x v)
 (hown : ∀ b, ((0 < L.cap ∧ L.blk = b) ∨ some b ∈ L.subs) → w'.heap[b]? = w.heap[b]?) : VRel φ' w' F' L rows y := by
 have := h.mono id hd ha hown
 cases y <;> exact this
theorem VRel.ver {φ w F L rows y} (h : VRel φ w F L rows y) (v : Nat) : VRel φ w F { L with ver := v } rows y := h
def ContRel (φ : Phi) (w : World) (F : Nat → Prop) (L : Loc) : Cont → Prop
 | .dead => True
 | .box cs => (L.sz = 1 ∧ L.base = 0 ∧ L.cap = cs.length) ∧ ∃ (arr : Array Value) (elem : TypeId), RowAt w L.blk arr elem ∧ arr.size = cs.length ∧ (∀ v ∈ arr, cell1 v = true) ∧
  ∀ (i : Nat) (c : AV) (v : Value), cs[i]? = some c → arr[i]? = some v → AVRel φ w F c v
 | .vec sz rows => L.sz = sz ∧ rows.length ≤ L.cap ∧ (∀ d ∈ rows, d.size = L.sz) ∧ (0 < L.cap → ∃ (arr : Array Value) (elem : TypeId), RowAt w L.blk arr elem ∧
  arr.size = L.base + L.cap * L.sz ∧ (∀ v ∈ arr, cell1 v = true) ∧
  ∀ (i : Nat) (d : D), rows[i]? = some d → ∃ v, DRel w F d v ∧ ∀ (j : Nat) (c : Value), v.cells[j]? = some c → arr[L.base + i * L.sz + j]? = some c)
 | .vv rows y => VRel φ w F L rows y
def EntRel (φ : Phi) (w : World) (F : Nat → Prop) (e : Ent) : Prop := ∃ L, φ e.key = some L ∧ L.ver = e.ver ∧ ContRel φ w F L e.cont
theorem ContRel.lt {φ w F L c b} (h : ContRel φ w F L c) (ho : c.owns L b) : b < w.heap.size := by
 cases c with
 | dead => exact ho.elim
 | box cs => obtain ⟨_, arr, elem, h, _⟩ := h; have : L.blk = b := ho; subst this; exact h.lt
 | vec sz rows => obtain ⟨hc, rfl⟩ := ho; obtain ⟨_, _, _, h⟩ := h; obtain ⟨arr, elem, h, _⟩ := h hc; exact h.lt
 | vv rows y =>
  obtain ⟨⟨_, _, hl⟩, _, h3, h⟩ := h
  rcases ho with ⟨hc, rfl⟩ | ho
  · obtain ⟨arr, elem, h, _⟩ := h hc; exact h.lt
  · obtain ⟨i, hi⟩ := List.getElem?_of_mem ho
    obtain ⟨arr, elem, _, _, _, h5, _⟩ := h (h3 b ho).1
    have hlt := (List.getElem?_eq_some_iff.1 hi).1
    obtain ⟨row, re, _, _, _, _, _, _, g, _⟩ := h5 i (rows[i]'(by omega)) (some b) (by simp [show i < rows.length by omega]) hi
    exact g.lt
theorem ContRel.mono {φ φ' : Phi} {w w' : World} {F F' : Nat → Prop} {L c} (h : ContRel φ w F L c) (hφ : φ.le φ')
 (hk : ∀ b, b < w.heap.size → ¬ F b → w'.heap[b]? = w.heap[b]?) (hs : w.heap.size ≤ w'.heap.size) (hF : ∀ b, b < w.heap.size → F' b → F b)
 (hown : ∀ b, c.owns L b → w'.heap[b]? = w.heap[b]?) : ContRel φ' w' F' L c := by
 cases c with
 | dead => trivial
 | box cs =>
  obtain ⟨h0, arr, elem, h1, h2, h3, h4⟩ := h
  exact ⟨h0, arr, elem, h1.same (hown _ rfl), h2, h3, fun i c v hc hv => (h4 i c v hc hv).mono hφ hk hs hF⟩
 | vec sz rows =>
  obtain ⟨hs', h0, hz, h⟩ := h
  refine ⟨hs', h0, hz, fun hc => ?_⟩
  obtain ⟨arr, elem, h1, h2, h3, h4⟩ := h hc
  exact ⟨arr, elem, h1.same (hown _ ⟨hc, rfl⟩), h2, h3, fun i d hd => let ⟨v, hv, hj⟩ := h4 i d hd; ⟨v, hv.mono hk hs hF, hj⟩⟩
 | vv rows y => exact VRel.mono0 h (fun _ _ _ _ u hu => hu.mono hk hs hF) (fun x _ v hx => hx.mono hφ hk hs hF) hown
structure MemRel (φ : Phi) (G : Fr) (m : Mem) (w : World) : Prop where
 nodup : (m.map (·.key)).Nodup
 dom : ∀ k L, φ k = some L → k ∈ m.map (·.key)
 ents : ∀ e ∈ m, EntRel φ w (Fo G φ m) e
 apart : ∀ e ∈ m, ∀ e' ∈ m, ∀ L L', φ e.key = some L → φ e'.key = some L' → (∃ b, e.cont.owns L b ∧ e'.cont.owns L' b) → e.key = e'.key
 notG : ∀ b, Own φ m b → ¬ G b
 bound : ∀ b, G b → b < w.heap.size
theorem MemRel.own_lt {φ G m w} (h : MemRel φ G m w) {b} (hb : Own φ m b) : b < w.heap.size := by
 obtain ⟨e, he, L, hL, ho⟩ := hb
 obtain ⟨L', hL', _, hc⟩ := h.ents e he
 rw [hL] at hL'; cases hL'
 exact hc.lt ho
structure Keeps (φ : Phi) (m : Mem) (w : World) (φ' : Phi) (m' : Mem) (w' : World) : Prop where
 le : φ.le φ'
 old : ∀ b, b < w.heap.size → ¬ Own φ m b → w'.heap[b]? = w.heap[b]?
 own : ∀ b, b < w.heap.size → Own φ' m' b → Own φ m b
 size : w.heap.size ≤ w'.heap.size
 os : w'.os = w.os
 tape : w'.tape = w.tape
 output : w'.output = w.output
theorem Keeps.refl (φ m w) : Keeps φ m w φ m w := ⟨Phi.le_refl _, fun _ _ _ => rfl, fun _ _ h => h, Nat.le_refl _, rfl, rfl, rfl⟩
theorem Keeps.trans {φ m w φ1 m1 w1 φ2 m2 w2} (h : Keeps φ m w φ1 m1 w1) (k : Keeps φ1 m1 w1 φ2 m2 w2) : Keeps φ m w φ2 m2 w2 where
 le := Phi.le_trans h.le k.le
 old := fun b hb hn => by
  rw [k.old b (Nat.lt_of_lt_of_le hb h.size) (fun h1 => hn (h.own b hb h1)), h.old b hb hn]
 own := fun b hb hn => h.own b hb (k.own b (Nat.lt_of_lt_of_le hb h.size) hn)
 size := Nat.le_trans h.size k.size
 os := k.os.trans h.os
 tape := k.tape.trans h.tape
 output := k.output.trans h.output
theorem Keeps.av {φ m w φ' m' w' G} (h : Keeps φ m w φ' m' w') {x v} (hx : AVRel φ w (Fo G φ m) x v) : AVRel φ' w' (Fo G φ' m') x v :=
 hx.mono h.le (fun b hb hn => h.old b hb (fun ho => hn (.inr ho))) h.size (fun b hb => Or.imp id (h.own b hb))
theorem MemRel.upd {φ G m w w'} (h : MemRel φ G m w) {e e' : Ent} (he : e ∈ m) {L L' : Loc} (hL : φ e.key = some L) (hkey : e'.key = e.key)
 (hver : L.ver ≤ L'.ver) (hsame : L'.ver = L.ver → L' = { L with subs := L'.subs })
 (hv : L'.ver = e'.ver)
 (hold : ∀ b, b < w.heap.size → ¬ e.cont.owns L b → w'.heap[b]? = w.heap[b]?) (hs : w.heap.size ≤ w'.heap.size)
 (hblk : ∀ b, e'.cont.owns L' b → e.cont.owns L b ∨ w.heap.size ≤ b)
 (hos : w'.os = w.os) (htape : w'.tape = w.tape) (hout : w'.output = w.output)
 (hc : ∀ φ' : Phi, φ' = (fun k => if k = e.key then some L' else φ k) → φ.le φ' → ContRel φ' w' (Fo G φ' (Mem.set m e')) L' e'.cont) :
 ∃ φ', MemRel φ' G (Mem.set m e') w' ∧ Keeps φ m w φ' (Mem.set m e') w' ∧ φ' e.key = some L' ∧ ∀ k, k ≠ e.key → φ' k = φ k := by
 have hle : φ.le (fun k => if k = e.key then some L' else φ k) := by
  intro k L0 h0
  by_cases hk : k = e.key
  · subst hk
    rw [hL] at h0; cases h0
    exact ⟨L', by simp, hver, hsame⟩
  · exact ⟨L0, by simp [hk, h0], Nat.le_refl _, fun _ => rfl⟩
 have hinm : e'.key ∈ m.map (·.key) := by rw [hkey]; exact List.mem_map_of_mem he
 have hother : ∀ x ∈ m, x.key ≠ e.key → ∀ Lx, φ x.key = some Lx → ∀ b, x.cont.owns Lx b → e.cont.owns L b → False :=
  fun x hx hne Lx hLx b hox hoe => hne (h.apart x hx e he Lx L hLx hL ⟨b, hox, hoe⟩)
 have hownle : ∀ b, b < w.heap.size → Own (fun k => if k = e.key then some L' else φ k) (Mem.set m e') b → Own φ m b := by
  rintro b hb ⟨x, hx, Lx, hLx, hox⟩
  rcases (Mem.mem_set h.nodup).1 hx with ⟨rfl, _⟩ | ⟨hxm, hne⟩
  · simp [hkey] at hLx; subst hLx
    rcases hblk b hox with hoe | hge
    · exact ⟨e, he, L, hL, hoe⟩
    · omega
  · rw [hkey] at hne
    simp [hne] at hLx
    exact ⟨x, hxm, Lx, hLx, hox⟩
 have hkeep : ∀ b, b < w.heap.size → ¬ Own φ m b → w'.heap[b]? = w.heap[b]? := fun b hb hn =>
  hold b hb fun ho => hn ⟨e, he, L, hL, ho⟩
 refine ⟨_, ⟨by rw [Mem.set_keys]; exact h.nodup, ?_, ?_, ?_, ?_, ?_⟩, ⟨hle, hkeep, hownle, hs, hos, htape, hout⟩, by simp, fun k hk => by simp [hk]⟩
 · intro k L0 h0
   rw [Mem.set_keys]
   by_cases hk : k = e.key
   · subst hk; exact List.mem_map_of_mem he
   · simp [hk] at h0; exact h.dom k L0 h0
 · intro x hx
   rcases (Mem.mem_set h.nodup).1 hx with ⟨rfl, _⟩ | ⟨hxm, hne⟩
   · exact ⟨L', by simp [hkey], hv, hc _ rfl hle⟩
   · rw [hkey] at hne
     obtain ⟨Lx, hLx, hvx, hcx⟩ := h.ents x hxm
     refine ⟨Lx, by simp [hne, hLx], hvx, hcx.mono hle (fun b hb hn => hkeep b hb (fun ho => hn (.inr ho))) hs (fun b hb => Or.imp id (hownle b hb)) (fun b hox => ?_)⟩
     exact hold _ (hcx.lt hox) (fun hoe => hother x hxm hne Lx hLx b hox hoe)
 · rintro x hx y hy Lx Ly hLx hLy ⟨b, hox, hoy⟩
   rcases (Mem.mem_set h.nodup).1 hx with ⟨rfl, _⟩ | ⟨hxm, hnex⟩ <;> rcases (Mem.mem_set h.nodup).1 hy with ⟨rfl, _⟩ | ⟨hym, hney⟩
   · rfl
   · rw [hkey] at hney
     simp [hkey] at hLx; subst hLx
     simp [hney] at hLy
     obtain ⟨Ly', hLy', _, hcy⟩ := h.ents y hym
     rw [hLy] at hLy'; cases hLy'
     rcases hblk b hox with hoe | hge
     · exact (hother y hym hney Ly hLy b hoy hoe).elim
     · have := hcy.lt hoy; omega
   · rw [hkey] at hnex
     simp [hkey] at hLy; subst hLy
     simp [hnex] at hLx
     obtain ⟨Lx', hLx', _, hcx⟩ := h.ents x hxm
     rw [hLx] at hLx'; cases hLx'
     rcases hblk b hoy with hoe | hge
     · exact (hother x hxm hnex Lx hLx b hox hoe).elim
     · have := hcx.lt hox; omega
   · rw [hkey] at hnex hney
     simp [hnex] at hLx; simp [hney] at hLy
     exact h.apart x hxm y hym Lx Ly hLx hLy ⟨b, hox, hoy⟩
 · intro b hb hG
   exact h.notG b (hownle b (h.bound b hG) hb) hG
 · intro b hG; exact Nat.lt_of_lt_of_le (h.bound b hG) hs
theorem MemRel.grow {φ G m w w'} (h : MemRel φ G m w) (hold : ∀ b, b < w.heap.size → w'.heap[b]? = w.heap[b]?) (hs : w.heap.size ≤ w'.heap.size) : MemRel φ G m w' where
 nodup := h.nodup
 dom := h.dom
 ents := fun e he => by
  obtain ⟨L, hL, hv, hc⟩ := h.ents e he
  exact ⟨L, hL, hv, hc.mono (Phi.le_refl _) (fun b hb _ => hold b hb) hs (fun _ _ h => h) (fun b ho => hold _ (hc.lt ho))⟩
 apart := h.apart
 notG := h.notG
 bound := fun b hG => Nat.lt_of_lt_of_le (h.bound b hG) hs
theorem Keeps.grow {φ m w w'} (hold : ∀ b, b < w.heap.size → w'.heap[b]? = w.heap[b]?) (hs : w.heap.size ≤ w'.heap.size) (hos : w'.os = w.os) (ht : w'.tape = w.tape) (ho : w'.output = w.output) : Keeps φ m w φ m w' :=
 ⟨Phi.le_refl _, fun b hb _ => hold b hb, fun _ _ h => h, hs, hos, ht, ho⟩
abbrev Env := List (Nat × Bool × AV)
def Env.lk : Env → Nat → Option (Bool × AV)
 | [], _ => none
 | (t, x) :: r, u => if t = u then some x else Env.lk r u
structure St where
 n : Nat
 gl : List (Nat × D)
 env : Env
 mem : Mem
def GlobRel (w : World) (F : Nat → Prop) (gl : List (Nat × D)) : Prop :=
 ∀ x ∈ gl, (x.1 < w.heap.size ∧ ∀ cs, x.2 = .agg cs → ∃ cur e fz, w.heap[x.1]? = some (.cells cur e fz) ∧ cur.size = cs.length) ∧ ¬ F x.1 ∧ ∃ x', DRel w F x.2 x' ∧ ∀ (i : Nat) (c : Value), x'.cells[i]? = some c → w.cell? ⟨x.1, i, none⟩ = some c
theorem GlobRel.mono {w w' : World} {F F' : Nat → Prop} {gl} (h : GlobRel w F gl) (hk : ∀ b, b < w.heap.size → ¬ F b → w'.heap[b]? = w.heap[b]?) (hs : w.heap.size ≤ w'.heap.size)
 (hF : ∀ b, b < w.heap.size → F' b → F b) : GlobRel w' F' gl := fun x hx => by
 obtain ⟨⟨h1, h0⟩, h2, x', h3, h4⟩ := h x hx
 exact ⟨⟨by omega, by rw [hk _ h1 h2]; exact h0⟩, fun hf => h2 (hF _ h1 hf), x', h3.mono hk hs hF, fun i c hc => by rw [cell?_congr (hk _ h1 h2)]; exact h4 i c hc⟩
theorem Keeps.glob {φ m w φ' m' w' G gl} (h : Keeps φ m w φ' m' w') (hx : GlobRel w (Fo G φ m) gl) : GlobRel w' (Fo G φ' m') gl :=
 hx.mono (fun b hb hn => h.old b hb (fun ho => hn (.inr ho))) h.size (fun b hb => Or.imp id (h.own b hb))
structure Rel (φ : Phi) (G : Fr) (S : St) (a : Act) (w : World) : Prop where
 size : a.tmps.size = S.n
 defers : a.defers = G.dv
 env : ∀ t x, Env.lk S.env t = some (true, x) → AVRel φ w (Fo G φ S.mem) x (a.tmps.getD t undef)
 mem : MemRel φ G S.mem w
 glob : GlobRel w (Fo G φ S.mem) S.gl
def St.put (S : St) (d : Option Nat) (g : Bool) (x : AV) : St :=
 match d with
 | some d => { S with env := (d, g, x) :: S.env }
 | none => S
theorem Rel.put {φ G S a w} (h : Rel φ G S a w) (d : Option Nat) (hd : ∀ t, d = some t → t < S.n) (g : Bool) (x : AV) (v : Value)
 (hx : g = true → AVRel φ w (Fo G φ S.mem) x v) : Rel φ G (S.put d g x) (a.put d v) w := by
 cases d with
 | none => exact h
 | some d =>
  have hd := hd d rfl
  refine ⟨by simp [Act.put, St.put, h.size], by simp [Act.put, h.defers], ?_, h.mem, h.glob⟩
  intro t y hy
  simp only [St.put, Env.lk] at hy
  by_cases ht : d = t
  · subst ht
    simp only [if_true, Option.some.injEq, Prod.mk.injEq] at hy
    obtain ⟨rfl, rfl⟩ := hy
    have : d < a.tmps.size := by rw [h.size]; exact hd
    have e : (a.put (some d) v).tmps.getD d undef = v := by simp [Act.put, this]
    rw [e]; exact hx rfl
  · simp only [ht, if_false] at hy
    have e : (a.put (some d) v).tmps.getD t undef = a.tmps.getD t undef := by simp [Act.put, ht]
    rw [e]; exact h.env t y hy
theorem Rel.turn {φ G S a w φ' m' w'} (h : Rel φ G S a w) (hm : MemRel φ' G m' w') (hk : Keeps φ S.mem w φ' m' w') : Rel φ' G { S with mem := m' } a w' :=
 ⟨h.size, h.defers, fun t x hx => hk.av (h.env t x hx), hm, hk.glob h.glob⟩
theorem oneCell_of_cell1 {v : Value} (h : cell1 v = true) : v.oneCell' = true := by cases v <;> simp_all [cell1, Value.oneCell']
inductive TK where
 | int (k : IntKind)
 | bool
 | str
 | slice (e : TypeId)
 | arr (n : Nat) (e : TypeId)
 | struct
 | iface
 | ptr (e : TypeId)
 | func
 | other
 deriving DecidableEq
def tk (P : Program) (t : TypeId) : TK :=
 match P.underlying t with
 | some (.int k) => .int k
 | some .bool => .bool
 | some .string => .str
 | some (.slice e) => .slice e
 | some (.array n e) => .arr n e
 | some (.struct _) => .struct
 | some (.interface _) => .iface
 | some (.pointer e) => .ptr e
 | some (.func _ _ _) => .func
 | _ => .other
def tsz (P : Program) (t : TypeId) : Option Nat := (P.info? t).map (·.size)
def foff (P : Program) (s : TypeId) (f : Nat) : Option Nat :=
 match P.underlying s with
 | some (.struct fs) => match fs[f]? with
  | some fl => match P.info? fl.type with
   | some i => if i.size = 0 then none else some fl.offset
   | none => none
  | none => none
 | _ => none
def TK.agg : TK → Bool
 | .arr _ _ => true
 | .struct => true
 | _ => false
theorem run_isAgg {P : Program} {t : TypeId} {w : World} (h : tk P t ≠ .other) : (isAgg t).run P w = .ok (tk P t).agg w := by
 unfold isAgg
 cases hu : P.underlying t with
 | none => simp [tk, hu] at h
 | some d =>
  rw [Sem.run_bind, run_underlying hu]
  cases d <;> simp_all [tk, TK.agg]
theorem run_sizeOf {P : Program} {t : TypeId} {n : Nat} {w : World} (h : tsz P t = some n) : (sizeOf t).run P w = .ok n w := by
 unfold tsz at h
 cases hi : P.info? t with
 | none => simp [hi] at h
 | some i => simp [hi] at h; simp [sizeOf, typeInfo, hi, h]
theorem add_none (b o j : Nat) : (⟨b, o, none⟩ : Addr).add j = ⟨b, o + j, none⟩ := by unfold Addr.add; split <;> simp_all
theorem run_load1 {P : Program} {t : TypeId} {w : World} {a : Addr} {v : Value} (ha : (tk P t).agg = false) (ho : tk P t ≠ .other) (hc : w.cell? a = some v) :
 (Instr.loadAt t (.pointer (some a))).run P w = .ok v w := by
 simp [Instr.loadAt, Instr.sureAddr, loadVar, Sem.run_bind, run_isAgg ho, ha, load, Sem.run, hc]
theorem run_loadN {P : Program} {t : TypeId} {w : World} {b o : Nat} {vs : List Value} (ha : (tk P t).agg = true) (hs : tsz P t = some vs.length)
 (hc : ∀ j v, vs[j]? = some v → w.cell? ⟨b, o + j, none⟩ = some v) :
 (Instr.loadAt t (.pointer (some ⟨b, o, none⟩))).run P w = .ok (.agg vs.toArray) w := by
 have ho : tk P t ≠ .other := by intro h; rw [h] at ha; cases ha
 have hl := run_loadCells_list (P := P) w ⟨b, o, none⟩ vs (fun j v h => by rw [add_none]; exact hc j v h)
 simp [Instr.loadAt, Instr.sureAddr, loadVar, Sem.run_bind, run_isAgg ho, ha, run_sizeOf hs, hl]
theorem run_storeCells_atR {P : Program} (g o : Nat) (t : TypeId) (fz : Nat × Nat) : ∀ (vs : List Value) (i : Nat) (cur : Array Value) (w : World), w.heap[g]? = some (.cells cur t fz) → (fz = (0, 0) ∨ cur.size ≤ fz.1) → o + i + vs.length ≤ cur.size → (∀ v ∈ vs, v.oneCell' = true) →
 (storeCells ⟨g, o, none⟩ vs i).run P w = .ok () (w.setRow g (cur.toList.take (o + i) ++ vs ++ cur.toList.drop (o + i + vs.length)).toArray)
 | [], i, cur, w, hg, _, _, _ => by
  simp only [storeCells, List.append_nil, List.length_nil, Nat.add_zero, List.take_append_drop, Array.toArray_toList]
  rw [setRow_self w g cur t fz hg]
  rfl
 | v :: rest, i, cur, w, hg, hfz, hl, h1 => by
  have hi : o + i < cur.size := by simp at hl; omega
  have hadd : (⟨g, o, none⟩ : Addr).add i = ⟨g, o + i, none⟩ := by unfold Addr.add; split <;> simp_all
  have hcell : w.cell? ⟨g, o + i, none⟩ = some cur[o + i] := by simp [World.cell?, hg, hi]
  have hfro : w.frozen? ⟨g, o + i, none⟩ = false := by
   obtain ⟨lo, hi'⟩ := fz
   simp only [World.frozen?, hg, Bool.and_eq_false_iff, decide_eq_false_iff_not]
   rcases hfz with h | h
   · cases h; omega
   · simp only at h; omega
  have hst : (store ((⟨g, o, none⟩ : Addr).add i) v).run P w = .ok () (w.setRow g (cur.setIfInBounds (o + i) v)) := by
   rw [hadd, run_store P w _ v _ (h1 v (by simp)), hcell]
   simp [hfro, setCell_eq_setRow w g (o + i) cur t fz v hg]
  have ih := run_storeCells_atR (P := P) g o t fz rest (i + 1) (cur.setIfInBounds (o + i) v) (w.setRow g (cur.setIfInBounds (o + i) v)) (setRow_heap w g cur _ t _ hg) (by simpa using hfz) (by simp at hl ⊢; omega) (fun x hx => h1 x (by simp [hx]))
  simp only [storeCells, Sem.run_bind, hst, Result.andThen_ok, ih, setRow_setRow]
  congr 3
  have e := list_seg_step cur.toList (o + i) v rest (by simp at hl ⊢; omega)
  simpa [Array.toList_setIfInBounds, Nat.add_assoc] using e
theorem run_storeAt {P : Program} {t : TypeId} {w : World} {b o : Nat} {arr : Array Value} {elem : TypeId} {v : Value} (hs : tsz P t = some v.cells.size)
 (hg : RowAt w b arr elem) (hl : o + v.cells.size ≤ arr.size) (h1 : ∀ x ∈ v.cells, cell1 x = true) :
 (Instr.storeAt t (.pointer (some ⟨b, o, none⟩)) v).run P w = .ok () (w.setRow b (arr.toList.take o ++ v.cells.toList ++ arr.toList.drop (o + v.cells.size)).toArray) := by
 obtain ⟨fz, hg, hfz⟩ := hg
 have h := run_storeCells_atR (P := P) b o elem fz v.cells.toList 0 arr w hg hfz (by simpa using hl) (fun x hx => oneCell_of_cell1 (h1 x (by simpa using hx)))
 simp only [Nat.add_zero, Array.length_toList] at h
 simp [Instr.storeAt, Instr.sureAddr, storeVar, Sem.run_bind, run_sizeOf hs, h]
def D.cells : D → List D
 | .agg cs => cs
 | x => [x]
def D.at (xs : List D) (i : Nat) : D := xs[i]?.getD (.bool false)
def D.cell (x : D) (j : Nat) : D := x.cells[j]?.getD (.bool false)
def toD1 : AV → Option D
 | .d x => some x
 | .lit (.slice none 0 0) => some (.list [])
 | .nn => some (.list [])
 | _ => none
def toDs : List AV → Option (List D)
 | [] => some []
 | x :: r => match x, toDs r with
  | .d y, some ys => some (y :: ys)
  | _, _ => none
def toDsN : List AV → Option (List D)
 | [] => some []
 | x :: r => match toD1 x, toDsN r with
  | some y, some ys => some (y :: ys)
  | _, _ => none
def mkAgg (cs : List AV) : AV := match toDs cs with | some ds => .d (.agg ds) | none => .agg cs
def AV.norm : AV → AV
 | .agg cs => match toDsN cs with | some ds => .d (.agg ds) | none => .agg cs
 | .lit (.slice none 0 0) => .d (.list [])
 | .nn => .d (.list [])
 | x => x
def AV.cells : AV → List AV
 | .agg cs => cs
 | .d (.agg ds) => ds.map .d
 | x => [x]
theorem D.cells_length (x : D) : x.cells.length = x.size := by cases x <;> rfl
theorem single_rel {w : World} {F : Nat → Prop} {x : D} {v : Value} (hf : x.flat = true) (h : DRel w F x v) (hx : x.cells = [x]) (hv : v.cells = #[v]) :
 v.cells.toList.length = x.cells.length ∧ (∀ u ∈ v.cells, cell1 u = true) ∧ ∀ (i : Nat) (c : D) (u : Value), x.cells[i]? = some c → v.cells[i]? = some u → DRel w F c u ∧ c.flat = true := by
 rw [hx, hv]
 refine ⟨rfl, fun u hu => by simp at hu; subst hu; exact h.one hf, fun i c u h1 h2 => ?_⟩
 cases i with
 | zero => simp at h1 h2; subst h1; subst h2; exact ⟨h, hf⟩
 | succ i => simp at h1
theorem DRel.cells {w F x v} (h : DRel w F x v) : v.cells.toList.length = x.cells.length ∧ (∀ u ∈ v.cells, cell1 u = true) ∧ ∀ (i : Nat) (c : D) (u : Value), x.cells[i]? = some c → v.cells[i]? = some u → DRel w F c u ∧ c.flat = true := by
 cases hd : x with
 | agg cs =>
  subst hd
  cases h with
  | agg cs a hl hf hc =>
   refine ⟨by simp [D.cells, Value.cells, hl], ?_, fun i c u h1 h2 => ⟨hc i c u h1 h2, hf c (List.mem_of_getElem? h1)⟩⟩
   intro u hu
   have hu : u ∈ a := hu
   obtain ⟨i, hi, rfl⟩ := Array.mem_iff_getElem.1 hu
   have hi' : i < cs.length := by rw [hl]; exact hi
   exact (hc i cs[i] a[i] (by simp [hi']) (by simp [hi])).one (hf _ (List.getElem_mem hi'))
 | _ => subst hd; exact single_rel rfl h rfl (cells_of_cell1 (h.one rfl))
theorem DRel.ofCells {w F} {cs : List D} {vs : List Value} (hl : cs.length = vs.length) (h1 : ∀ v ∈ vs, cell1 v = true)
 (hc : ∀ (i : Nat) c v, cs[i]? = some c → vs[i]? = some v → DRel w F c v) : DRel w F (.agg cs) (.agg vs.toArray) := by
 refine .agg cs vs.toArray (by simpa using hl) ?_ (fun i d v h h' => hc i d v h (by simpa using h'))
 intro d hd
 obtain ⟨i, hi, rfl⟩ := List.mem_iff_getElem.1 hd
 have hi' : i < vs.length := by omega
 have h3 := hc i cs[i] vs[i] (by simp [hi]) (by simp [hi'])
 have h2 := h1 vs[i] (List.getElem_mem hi')
 revert h3 h2
 generalize vs[i] = v
 generalize cs[i] = c
 intro h3 h2
 cases h3 <;> simp_all [D.flat, cell1]
theorem toDs_rel {φ w F} : ∀ {cs : List AV} {ds : List D} {vs : List Value}, toDs cs = some ds → (∀ (i : Nat) c v, cs[i]? = some c → vs[i]? = some v → AVRel φ w F c v) →
 cs.length = ds.length ∧ ∀ (i : Nat) d v, ds[i]? = some d → vs[i]? = some v → DRel w F d v
 | [], ds, vs, h, _ => by simp [toDs] at h; subst h; simp
 | x :: r, ds, vs, h, hc => by
  simp only [toDs] at h
  split at h <;> simp at h
  rename_i y ys hy
  subst h
  cases vs with
  | nil =>
   have ih := toDs_rel (φ := φ) (w := w) (F := F) (vs := []) hy (fun i c v _ h2 => by simp at h2)
   exact ⟨by simp [ih.1], fun i d v _ h2 => by simp at h2⟩
  | cons v0 vs =>
   have ih := toDs_rel (vs := vs) hy (fun i c v h1 h2 => hc (i + 1) c v (by simpa using h1) (by simpa using h2))
   refine ⟨by simp [ih.1], fun i d v h1 h2 => ?_⟩
   cases i with
   | zero =>
    simp at h1 h2; subst h1; subst h2
    have := hc 0 (.d y) v0 (by simp) (by simp)
    cases this with | d _ _ h => exact h
   | succ i => exact ih.2 i d v (by simpa using h1) (by simpa using h2)
theorem toD1_rel {φ w F x d v} (h : toD1 x = some d) (hx : AVRel φ w F x v) : DRel w F d v := by
 unfold toD1 at h
 split at h <;> simp at h
 · subst h; cases hx with | d _ _ h => exact h
 · subst h; cases hx; exact .nil none 0 fun _ => rfl
 · subst h; cases hx; exact .nil _ _ (by simp)
theorem toDsN_rel {φ w F} : ∀ {cs : List AV} {ds : List D} {vs : List Value}, toDsN cs = some ds → (∀ (i : Nat) c v, cs[i]? = some c → vs[i]? = some v → AVRel φ w F c v) →
 cs.length = ds.length ∧ ∀ (i : Nat) d v, ds[i]? = some d → vs[i]? = some v → DRel w F d v
 | [], ds, vs, h, _ => by simp [toDsN] at h; subst h; simp
 | x :: r, ds, vs, h, hc => by
  simp only [toDsN] at h
  split at h <;> simp at h
  rename_i y ys hx hy
  subst h
  cases vs with
  | nil =>
   have ih := toDsN_rel (φ := φ) (w := w) (F := F) (vs := []) hy (fun i c v _ h2 => by simp at h2)
   exact ⟨by simp [ih.1], fun i d v _ h2 => by simp at h2⟩
  | cons v0 vs =>
   have ih := toDsN_rel (vs := vs) hy (fun i c v h1 h2 => hc (i + 1) c v (by simpa using h1) (by simpa using h2))
   refine ⟨by simp [ih.1], fun i d v h1 h2 => ?_⟩
   cases i with
   | zero =>
    simp at h1 h2; subst h1; subst h2
    exact toD1_rel hx (hc 0 x v0 (by simp) (by simp))
   | succ i => exact ih.2 i d v (by simpa using h1) (by simpa using h2)
theorem mkAgg_rel {φ w F} {cs : List AV} {vs : List Value} (hl : cs.length = vs.length) (h1 : ∀ v ∈ vs, cell1 v = true)
 (hc : ∀ (i : Nat) c v, cs[i]? = some c → vs[i]? = some v → AVRel φ w F c v) : AVRel φ w F (mkAgg cs) (.agg vs.toArray) := by
 unfold mkAgg
 split
 · rename_i ds hds
   have := toDs_rel hds hc
   exact .d _ _ (.ofCells (by omega) h1 this.2)
 · exact .agg cs vs.toArray (by simpa using hl) (fun v hv => h1 v (by simpa using hv)) (fun i c v h h' => hc i c v h (by simpa using h'))
theorem AVRel.norm {φ w F x v} (h : AVRel φ w F x v) : AVRel φ w F x.norm v := by
 unfold AV.norm
 split
 · rename_i cs
   split
   · rename_i ds hds
     cases h with
     | agg _ a hl h1 hc =>
      have := toDsN_rel (vs := a.toList) hds (fun i c v h h' => hc i c v h (by simpa using h'))
      have h2 := DRel.ofCells (w := w) (F := F) (cs := ds) (vs := a.toList) (by simp; omega) (fun v hv => h1 v (by simpa using hv)) this.2
      rw [Array.toArray_toList] at h2
      exact .d _ _ h2
   · exact h
 · cases h; exact .d _ _ (.nil none 0 fun _ => rfl)
 · cases h; exact .d _ _ (.nil _ _ (by simp))
 · exact h
theorem AVRel.cells {φ w F x v} (h : AVRel φ w F x v) (h1 : ∀ u ∈ v.cells, cell1 u = true) (hl : v.cells.size = x.cells.length) :
 ∀ (i : Nat) c u, x.cells[i]? = some c → v.cells[i]? = some u → AVRel φ w F c u := by
 cases h with
 | agg cs a hl h1 hc => exact fun i c u hc' hu => hc i c u hc' hu
 | d x v h =>
  intro i c u hc' hu
  have := h.cells
  cases x with
  | agg cs =>
   simp only [AV.cells, List.getElem?_map, Option.map_eq_some_iff] at hc'
   obtain ⟨y, hy, rfl⟩ := hc'
   exact .d _ _ (this.2.2 i y u hy hu).1
  | _ =>
   simp only [AV.cells] at hc'
   cases i with
   | zero => simp at hc'; subst hc'; exact .d _ _ (this.2.2 0 _ u rfl hu).1
   | succ i => simp at hc'
 | junk v =>
  intro i c u hc' hu
  cases i with
  | zero => simp [AV.cells] at hc'; subst hc'; exact .junk _
  | succ i => simp [AV.cells] at hc'
 | ptr k ver off v L hL hv h h2 =>
  intro i c u hc' hu
  rw [cells_of_cell1 h2] at hu
  cases i with
  | zero => simp [AV.cells] at hc' hu; subst hc'; subst hu; exact .ptr k ver off v L hL hv h h2
  | succ i => simp [AV.cells] at hc'
 | vec k ver off len v L hL hv h h2 =>
  intro i c u hc' hu
  rw [cells_of_cell1 h2] at hu
  cases i with
  | zero => simp [AV.cells] at hc' hu; subst hc'; subst hu; exact .vec k ver off len v L hL hv h h2
  | succ i => simp [AV.cells] at hc'
 | eptr k ver p j v L hL hv h h2 =>
  intro i c u hc' hu
  rw [cells_of_cell1 h2] at hu
  cases i with
  | zero => simp [AV.cells] at hc' hu; subst hc'; subst hu; exact .eptr k ver p j v L hL hv h h2
  | succ i => simp [AV.cells] at hc'
 | rptr x j b off x' hb hF hx hc =>
  intro i c u hc' hu
  cases i with
  | zero => simp [AV.cells, Value.cells] at hc' hu; subst hc'; subst hu; exact .rptr x j b off x' hb hF hx hc
  | succ i => simp [AV.cells] at hc'
 | fn f cap a hf hl' hc =>
  intro i c u hc' hu
  cases i with
  | zero => simp [AV.cells, Value.cells] at hc' hu; subst hc'; subst hu; exact .fn f cap a hf hl' hc
  | succ i => simp [AV.cells] at hc'
 | bnd f cap a hl' hc =>
  intro i c u hc' hu
  cases i with
  | zero => simp [AV.cells, Value.cells] at hc' hu; subst hc'; subst hu; exact .bnd f cap a hl' hc
  | succ i => simp [AV.cells] at hc'
 | tup vs a hl hc =>
  have := h1 (.tuple a) (by simp [Value.cells])
  simp [cell1] at this
 | ifc t x v h =>
  intro i c u hc' hu
  cases i with
  | zero => simp [AV.cells, Value.cells] at hc' hu; subst hc'; subst hu; exact .ifc t x v h
  | succ i => simp [AV.cells] at hc'
 | lit v h2 =>
  intro i c u hc' hu
  rw [cells_of_cell1 h2] at hu
  cases i with
  | zero => simp [AV.cells] at hc' hu; subst hc'; subst hu; exact .lit _ h2
  | succ i => simp [AV.cells] at hc'
 | nn a cap =>
  intro i c u hc' hu
  cases i with
  | zero => simp [AV.cells, Value.cells] at hc' hu; subst hc'; subst hu; exact .nn a cap
  | succ i => simp [AV.cells] at hc'
 | err t v =>
  intro i c u hc' hu
  cases i with
  | zero => simp [AV.cells, Value.cells] at hc' hu; subst hc'; subst hu; exact .err t v
  | succ i => simp [AV.cells] at hc'
def constAV : Value → AV
 | .int k n => .d (.int k n)
 | .bool b => .d (.bool b)
 | .string s => .d (.str s.data.toList)
 | .agg _ => .junk
 | .tuple _ => .junk
 | v => .lit v
theorem constAV_rel (φ w F v) : AVRel φ w F (constAV v) v := by
 cases v <;> first | exact .d _ _ (.int _ _) | exact .d _ _ (.bool _) | exact .d _ _ (.str _ _ rfl) | exact .junk _ | exact .lit _ rfl
def glk : List (Nat × D) → Nat → Option D
 | [], _ => none
 | (g, d) :: r, k => if g = k then some d else glk r k
theorem glk_mem : ∀ {l : List (Nat × D)} {g d}, glk l g = some d → (g, d) ∈ l
 | [], g, d, h => by simp [glk] at h
 | (g', d') :: r, g, d, h => by
  simp only [glk] at h
  split at h
  · rename_i hg; subst hg; cases h; simp
  · have := glk_mem h; simp [this]
def St.opd (S : St) : Operand → Bool × AV
 | .tmp t => (Env.lk S.env t).getD (true, .junk)
 | .const v => (true, constAV v)
 | .global g => match glk S.gl g with
  | some d => (true, .rptr d 0)
  | none => (true, .lit (.pointer (some ⟨g, 0, none⟩)))
 | .func f => (decide (f < bnB), .fn f [])
theorem Rel.opd {φ G S a w} (h : Rel φ G S a w) (x : Operand) (hx : (S.opd x).1 = true) : AVRel φ w (Fo G φ S.mem) (S.opd x).2 (a.eval x) := by
 cases x with
 | tmp t =>
  simp only [St.opd] at hx ⊢
  cases hl : Env.lk S.env t with
  | none => exact .junk _
  | some y =>
   obtain ⟨g, x⟩ := y
   rw [hl] at hx
   simp only [Option.getD_some] at hx ⊢
   subst hx
   exact h.env t x hl
 | const v => exact constAV_rel ..
 | global g =>
  simp only [St.opd] at hx ⊢
  split
  · rename_i d hd
    obtain ⟨⟨h1, _⟩, h2, x', h3, h4⟩ := h.glob _ (glk_mem hd)
    have e : a.eval (.global g) = .pointer (some ⟨g, 0 + 0, none⟩) := rfl
    rw [e]
    exact .rptr d 0 g 0 x' h1 h2 h3 (fun i c hi => by simpa using h4 i c hi)
  · exact .lit _ rfl
 | func f => exact .fn f [] #[] (by simpa [St.opd] using hx) rfl (by simp)
inductive Res where
 | no
 | val (c : Bool) (x : AV)
 | upd (c : Bool) (x : AV) (e : Ent)
def Ran (P : Program) (o : Oper) (a : Act) (w : World) (v : Value) (w' : World) : Prop :=
 (execOp a.eval o).run P w = .ok (.value v) w' ∨ ((execOp a.eval o).run P w = .ok .skip w' ∧ v = undef)
def ResOk (P : Program) (S : St) (o : Oper) : Res → Prop
 | .no => True
 | .val c x => c = true → ∀ φ G a w, Rel φ G S a w → ∃ v w', Ran P o a w v w' ∧ AVRel φ w' (Fo G φ S.mem) x v ∧
  (∀ b, b < w.heap.size → w'.heap[b]? = w.heap[b]?) ∧ w.heap.size ≤ w'.heap.size ∧ w'.os = w.os ∧ w'.tape = w.tape ∧ w'.output = w.output
 | .upd c x e => c = true → ∀ φ G a w, Rel φ G S a w → ∃ v w' φ', Ran P o a w v w' ∧ AVRel φ' w' (Fo G φ' (Mem.set S.mem e)) x v ∧
  MemRel φ' G (Mem.set S.mem e) w' ∧ Keeps φ S.mem w φ' (Mem.set S.mem e) w' ∧ ∀ k, k ≠ e.key → φ' k = φ k
theorem ResOk.pure {P S o x} {c : Prop} [Decidable c] (h : c → ∀ φ G a w, Rel φ G S a w → ∃ v, (execOp a.eval o).run P w = .ok (.value v) w ∧ AVRel φ w (Fo G φ S.mem) x v) : ResOk P S o (.val (decide c) x) := by
 intro hc φ G a w hr
 obtain ⟨v, h1, h2⟩ := h (of_decide_eq_true hc) φ G a w hr
 exact ⟨v, w, .inl h1, h2, fun _ _ => rfl, Nat.le_refl _, rfl, rfl, rfl⟩
theorem ResOk.updI {P S o x e} {c : Prop} [Decidable c] (h : c → ∀ φ G a w, Rel φ G S a w → ∃ v w' φ', Ran P o a w v w' ∧ AVRel φ' w' (Fo G φ' (Mem.set S.mem e)) x v ∧
 MemRel φ' G (Mem.set S.mem e) w' ∧ Keeps φ S.mem w φ' (Mem.set S.mem e) w' ∧ ∀ k, k ≠ e.key → φ' k = φ k) : ResOk P S o (.upd (decide c) x e) := fun hc => h (of_decide_eq_true hc)
theorem ResOk.valI {P S o x} {c : Prop} [Decidable c] (h : c → ∀ φ G a w, Rel φ G S a w → ∃ v w', Ran P o a w v w' ∧ AVRel φ w' (Fo G φ S.mem) x v ∧
 (∀ b, b < w.heap.size → w'.heap[b]? = w.heap[b]?) ∧ w.heap.size ≤ w'.heap.size ∧ w'.os = w.os ∧ w'.tape = w.tape ∧ w'.output = w.output) : ResOk P S o (.val (decide c) x) := fun hc => h (of_decide_eq_true hc)
theorem ResOk.pureB {P S o x} {c : Bool} (h : c = true → ∀ φ G a w, Rel φ G S a w → ∃ v, (execOp a.eval o).run P w = .ok (.value v) w ∧ AVRel φ w (Fo G φ S.mem) x v) : ResOk P S o (.val c x) := by
 intro hc φ G a w hr
 obtain ⟨v, h1, h2⟩ := h hc φ G a w hr
 exact ⟨v, w, .inl h1, h2, fun _ _ => rfl, Nat.le_refl _, rfl, rfl, rfl⟩
def PureOk (P : Program) (S : St) (o : Oper) : Res → Prop
 | .no => True
 | .val c x => c = true → ∀ φ G a w, Rel φ G S a w → ∃ v, (execOp a.eval o).run P w = .ok (.value v) w ∧ AVRel φ w (Fo G φ S.mem) x v
 | .upd _ _ _ => False
theorem PureOk.of {P S o x} {c : Prop} [Decidable c] (h : c → ∀ φ G a w, Rel φ G S a w → ∃ v, (execOp a.eval o).run P w = .ok (.value v) w ∧ AVRel φ w (Fo G φ S.mem) x v) : PureOk P S o (.val (decide c) x) := fun hc => h (of_decide_eq_true hc)
theorem PureOk.res {P S o r} (h : PureOk P S o r) : ResOk P S o r := by
 cases r with
 | no => trivial
 | val c x =>
  intro hc φ G a w hr
  obtain ⟨v, h1, h2⟩ := h hc φ G a w hr
  exact ⟨v, w, .inl h1, h2, fun _ _ => rfl, Nat.le_refl _, rfl, rfl, rfl⟩
 | upd c x e => exact h.elim
def loadR (P : Program) (m : Mem) (t : TypeId) (p : AV) : Res :=
 match p with
 | .ptr k ver off => match Mem.get m k with
  | some ⟨_, v, .box cs⟩ => match (tk P t).agg with
   | true => match tsz P t with
    | some n => .val (v = ver ∧ off + n ≤ cs.length) (mkAgg ((cs.drop off).take n))
    | none => .no
   | false => .val (v = ver ∧ tk P t ≠ .other ∧ off < cs.length) (cs[off]?.getD .junk)
  | _ => .no
 | .eptr k ver i j => match Mem.get m k with
  | some ⟨_, v, .vec sz rows⟩ => match (tk P t).agg with
   | true => .val (v = ver ∧ i < rows.length ∧ tsz P t = some sz ∧ j = 0 ∧ (D.at rows i).flat = false) (.d (D.at rows i))
   | false => .val (v = ver ∧ tk P t ≠ .other ∧ i < rows.length ∧ j < sz) (.d (D.cell (D.at rows i) j))
  | some ⟨_, v, .vv rows (some y)⟩ => match (tk P t).agg with
   | true => .no
   | false => .val (v = ver ∧ tk P t ≠ .other ∧ i = rows.length ∧ j = 0) y
  | _ => .no
 | .rptr x j => match (tk P t).agg with
  | true => match j with
   | 0 => .val (tsz P t = some x.size ∧ x.flat = false) (.d x)
   | j => match tsz P t with
    | some n => .val (j + n ≤ x.size) (.d (.agg ((x.cells.drop j).take n)))
    | none => .no
  | false => .val (tk P t ≠ .other ∧ j < x.size) (.d (x.cell j))
 | _ => .no
theorem MemRel.get {φ G m w} (h : MemRel φ G m w) {k e} (hg : Mem.get m k = some e) : e ∈ m ∧ e.key = k ∧ ∃ L, φ k = some L ∧ L.ver = e.ver ∧ ContRel φ w (Fo G φ m) L e.cont := by
 obtain ⟨hm, hk⟩ := Mem.get_mem hg
 obtain ⟨L, h1, h2, h3⟩ := h.ents e hm
 rw [hk] at h1
 exact ⟨hm, hk, L, h1, h2, h3⟩
theorem AVRel.ptr_eq {φ w F k ver off v L} (h : AVRel φ w F (.ptr k ver off) v) (hL : φ k = some L) (hv : L.ver = ver) : v = .pointer (some ⟨L.blk, off, none⟩) := by
 cases h with | ptr _ _ _ _ L' hL' _ h _ => rw [hL] at hL'; cases hL'; exact h hv.symm
theorem AVRel.eptr_eq {φ w F k ver i j v L} (h : AVRel φ w F (.eptr k ver i j) v) (hL : φ k = some L) (hv : L.ver = ver) : v = .pointer (some ⟨L.blk, L.base + i * L.sz + j, none⟩) := by
 cases h with | eptr _ _ _ _ _ L' hL' _ h _ => rw [hL] at hL'; cases hL'; exact h hv.symm
theorem cell?_row {w : World} {b : Nat} {arr : Array Value} {e : TypeId} {fr} (h : w.heap[b]? = some (.cells arr e fr)) (o : Nat) : w.cell? ⟨b, o, none⟩ = arr[o]? := by
 simp [World.cell?, h]
theorem cell?_rowA {w : World} {b : Nat} {arr : Array Value} {e : TypeId} (h : RowAt w b arr e) (o : Nat) : w.cell? ⟨b, o, none⟩ = arr[o]? := by
 obtain ⟨fr, h, _⟩ := h
 exact cell?_row h o
theorem getD_at {xs : List D} {i : Nat} (h : i < xs.length) : xs[i]? = some (D.at xs i) := by simp [D.at, h]
theorem agg_of_flat {w F x v} (h : DRel w F x v) (hf : x.flat = false) : ∃ arr, v = .agg arr := by
 cases h <;> simp_all [D.flat]
theorem load_ok (P : Program) (S : St) (o : Oper) (t : TypeId) (x : Operand) (ho : o.op = .load t x) (hx : (S.opd x).1 = true) : PureOk P S o (loadR P S.mem t (S.opd x).2) := by
 have hrun : ∀ (a : Act) (w : World) (v : Value), (Instr.loadAt t (a.eval x)).run P w = .ok v w → (execOp a.eval o).run P w = .ok (.value v) w := by
  intro a w v h
  simp [execOp, ho, h]
 unfold loadR
 split
 · rename_i k ver off hp
   split
   · rename_i key v cs hg
     split
     · rename_i hagg
       split
       · rename_i n hn
         refine PureOk.of ?_
         rintro ⟨rfl, hle⟩ φ G a w hr
         have hv := hr.opd x hx
         rw [hp] at hv
         obtain ⟨hm, hk, L, hL, hver, _, arr, elem, hh, hsz, h1, hrel⟩ := hr.mem.get hg
         have e := hv.ptr_eq hL hver
         have hlen : ((arr.toList.drop off).take n).length = n := by simp; omega
         refine ⟨.agg ((arr.toList.drop off).take n).toArray, hrun a w _ ?_, ?_⟩
         · rw [e]
           refine run_loadN hagg (by rw [hlen]; exact hn) (fun j v hj => ?_)
           rw [cell?_rowA hh]
           rw [List.getElem?_take] at hj
           split at hj
           · simpa using hj
           · cases hj
         · refine mkAgg_rel (by rw [hlen]; simp; omega) (fun v hv => h1 v ?_) (fun i c v hc hv => ?_)
           · have := List.mem_of_mem_take hv
             simpa using List.mem_of_mem_drop this
           · rw [List.getElem?_take] at hc hv
             split at hc
             · rename_i hi
               simp only [hi, if_true] at hv
               exact hrel (off + i) c v (by simpa using hc) (by simpa using hv)
             · cases hc
       · trivial
     · rename_i hagg
       refine PureOk.of ?_
       rintro ⟨rfl, hne, hlt⟩ φ G a w hr
       have hv := hr.opd x hx
       rw [hp] at hv
       obtain ⟨hm, hk, L, hL, hver, _, arr, elem, hh, hsz, h1, hrel⟩ := hr.mem.get hg
       have e := hv.ptr_eq hL hver
       have hlt' : off < arr.size := by omega
       refine ⟨arr[off], hrun a w _ ?_, hrel off _ _ ?_ (by simp [hlt'])⟩
       · rw [e]; exact run_load1 hagg hne (by rw [cell?_rowA hh]; simp [hlt'])
       · simp [hlt]
   · trivial
 · rename_i k ver i j hp
   split
   · rename_i key v sz rows hg
     split
     · rename_i hagg
       refine PureOk.of ?_
       rintro ⟨rfl, hlt, hts, rfl, hf⟩ φ G a w hr
       have hv := hr.opd x hx
       rw [hp] at hv
       obtain ⟨hm, hk, L, hL, hver, hLsz, hcap, hrs, hrow⟩ := hr.mem.get hg
       have e := hv.eptr_eq hL hver
       obtain ⟨arr, elem, hh, hsz, h1, hrel⟩ := hrow (by omega)
       obtain ⟨u, hu, huc⟩ := hrel i _ (getD_at hlt)
       obtain ⟨ua, rfl⟩ := agg_of_flat hu hf
       refine ⟨.agg ua, hrun a w _ ?_, .d _ _ hu⟩
       rw [e]
       have hus : ua.toList.length = sz := by
        have h3 := hu.size
        rw [hrs _ (List.mem_of_getElem? (getD_at hlt)), hLsz] at h3
        simpa [Value.cells] using h3
       have := run_loadN (P := P) (t := t) (w := w) (b := L.blk) (o := L.base + i * L.sz + 0) (vs := ua.toList) hagg (by rw [hus]; exact hts) (fun j v hj => by
        rw [cell?_rowA hh]
        exact huc j v (by simpa [Value.cells] using hj))
       simpa using this
     · rename_i hagg
       refine PureOk.of ?_
       rintro ⟨rfl, hne, hlt, hj⟩ φ G a w hr
       have hv := hr.opd x hx
       rw [hp] at hv
       obtain ⟨hm, hk, L, hL, hver, hLsz, hcap, hrs, hrow⟩ := hr.mem.get hg
       have e := hv.eptr_eq hL hver
       obtain ⟨arr, elem, hh, hsz, h1, hrel⟩ := hrow (by omega)
       obtain ⟨u, hu, huc⟩ := hrel i _ (getD_at hlt)
       have hus : (D.at rows i).size = sz := by rw [hrs _ (List.mem_of_getElem? (getD_at hlt)), hLsz]
       have hj' : j < u.cells.size := by rw [hu.size, hus]; exact hj
       have hjd : j < (D.at rows i).cells.length := by rw [D.cells_length, hus]; exact hj
       refine ⟨u.cells[j], hrun a w _ ?_, .d _ _ (hu.cells.2.2 j _ _ (by simp [D.cell, hjd]) (by simp [hj'])).1⟩
       rw [e]
       exact run_load1 hagg hne (by rw [cell?_rowA hh]; exact huc j _ (by simp [hj']))
   · rename_i key v rows y hg
     split
     · trivial
     · rename_i hagg
       refine PureOk.of ?_
       rintro ⟨rfl, hne, rfl, rfl⟩ φ G a w hr
       have hv := hr.opd x hx
       rw [hp] at hv
       obtain ⟨hm, hk, L, hL, hver, ⟨hz1, hcap, _⟩, _, _, hrow⟩ := hr.mem.get hg
       have e := hv.eptr_eq hL hver
       simp only [Option.toList_some, List.length_singleton] at hcap
       obtain ⟨arr, elem, hh, hsz, h1, _, hrel⟩ := hrow (by omega)
       obtain ⟨u, hu, hyu⟩ := hrel y rfl
       refine ⟨u, hrun a w _ ?_, hyu⟩
       rw [e]
       exact run_load1 hagg hne (by rw [cell?_rowA hh, hz1, Nat.mul_one, Nat.add_zero]; exact hu)
   · trivial
 · rename_i d j hp
   split
   · rename_i hagg
     split
     · refine PureOk.of ?_
       rintro ⟨hts, hf⟩ φ G a w hr
       have hv := hr.opd x hx
       rw [hp] at hv
       generalize hav : a.eval x = av at hv
       cases hv with
       | rptr _ _ b off x' hb hF hxr hc =>
        obtain ⟨ua, rfl⟩ := agg_of_flat hxr hf
        refine ⟨.agg ua, hrun a w _ ?_, .d _ _ hxr⟩
        rw [hav]
        exact run_loadN (vs := ua.toList) hagg (by rw [hts]; have := hxr.size; simp [Value.cells] at this; simp [this]) (fun j v hj => hc j v (by simpa [Value.cells] using hj))
     · split
       · rename_i n hn
         refine PureOk.of ?_
         intro hle φ G a w hr
         have hv := hr.opd x hx
         rw [hp] at hv
         generalize hav : a.eval x = av at hv
         cases hv with
         | rptr _ _ b off x' hb hF hxr hc =>
          have hcs := hxr.cells
          have hl : x'.cells.toList.length = d.size := by rw [hcs.1, D.cells_length]
          have hlen : ((x'.cells.toList.drop j).take n).length = n := by simp at hl ⊢; omega
          refine ⟨.agg ((x'.cells.toList.drop j).take n).toArray, hrun a w _ ?_, .d _ _ (.ofCells ?_ ?_ ?_)⟩
          · rw [hav]
            refine run_loadN hagg (by rw [hlen]; exact hn) (fun i v hi => ?_)
            rw [List.getElem?_take] at hi
            split at hi
            · rw [show off + j + i = off + (j + i) by omega]
              exact hc (j + i) v (by simpa using hi)
            · cases hi
          · rw [hlen]; simp [D.cells_length]; omega
          · intro v hv
            exact hcs.2.1 v (by simpa using List.mem_of_mem_drop (List.mem_of_mem_take hv))
          · intro i c v h1 h2
            rw [List.getElem?_take] at h1 h2
            split at h1
            · rename_i hi
              simp only [hi, if_true] at h2
              exact (hcs.2.2 (j + i) c v (by simpa using h1) (by simpa using h2)).1
            · cases h1
       · trivial
   · rename_i hagg
     refine PureOk.of ?_
     rintro ⟨hne, hj⟩ φ G a w hr
     have hv := hr.opd x hx
     rw [hp] at hv
     generalize hav : a.eval x = av at hv
     cases hv with
     | rptr _ _ b off x' hb hF hxr hc =>
      have hj' : j < x'.cells.size := by rw [hxr.size]; exact hj
      have hjd : j < d.cells.length := by rw [D.cells_length]; exact hj
      refine ⟨x'.cells[j], hrun a w _ ?_, .d _ _ (hxr.cells.2.2 j _ _ (by simp [D.cell, hjd]) (by simp [hj'])).1⟩
      rw [hav]
      exact run_load1 hagg hne (hc j _ (by simp [hj']))
 · trivial
def AV.solid : AV → Bool
 | .junk => false
 | .tup _ => false
 | _ => true
theorem AVRel.solid {φ w F x v} (h : AVRel φ w F x v) (hs : x.solid = true) : v.cells.size = x.cells.length ∧ ∀ u ∈ v.cells, cell1 u = true := by
 have one : ∀ {v : Value} {x : AV}, cell1 v = true → x.cells.length = 1 → v.cells.size = x.cells.length ∧ ∀ u ∈ v.cells, cell1 u = true := by
  intro v x h1 hl
  rw [cells_of_cell1 h1, hl]
  exact ⟨rfl, fun u hu => by simp at hu; subst hu; exact h1⟩
 cases h with
 | junk => simp [AV.solid] at hs
 | tup => simp [AV.solid] at hs
 | d x v h =>
  have hc := h.cells
  refine ⟨?_, hc.2.1⟩
  have := hc.1
  cases x <;> simp_all [AV.cells, D.cells]
 | agg cs a hl h1 hc => exact ⟨by simp [Value.cells, AV.cells, hl], h1⟩
 | ptr _ _ _ _ _ _ _ _ h1 => exact one h1 rfl
 | vec _ _ _ _ _ _ _ _ _ h1 => exact one h1 rfl
 | eptr _ _ _ _ _ _ _ _ _ h1 => exact one h1 rfl
 | rptr => exact one rfl rfl
 | fn => exact one rfl rfl
 | bnd => exact one rfl rfl
 | ifc => exact one rfl rfl
 | lit _ h1 => exact one h1 rfl
 | nn => exact one rfl rfl
 | err => exact one rfl rfl
def putCells {α : Type} (cs : List α) (off : Nat) (ys : List α) : List α :=
 match ys with
 | [y] => cs.set off y
 | ys => cs.take off ++ ys ++ cs.drop (off + ys.length)
theorem putCells_eq {α : Type} (cs : List α) (off : Nat) (ys : List α) (h : off + ys.length ≤ cs.length) : putCells cs off ys = cs.take off ++ ys ++ cs.drop (off + ys.length) := by
 unfold putCells
 split
 · rename_i y
   simp at h
   rw [List.set_eq_take_append_cons_drop, if_pos (by omega)]
   simp
 · rfl
theorem putCells_length {α : Type} (cs : List α) (off : Nat) (ys : List α) (h : off + ys.length ≤ cs.length) : (putCells cs off ys).length = cs.length := by
 rw [putCells_eq cs off ys h]; simp; omega
theorem putCells_get {α : Type} (cs : List α) (off : Nat) (ys : List α) (h : off + ys.length ≤ cs.length) (i : Nat) :
 (putCells cs off ys)[i]? = if i < off then cs[i]? else if i < off + ys.length then ys[i - off]? else cs[i]? := by
 rw [putCells_eq cs off ys h]
 by_cases h1 : i < off
 · rw [if_pos h1, List.append_assoc, List.getElem?_append_left (by simp; omega), List.getElem?_take, if_pos h1]
 · rw [if_neg h1, List.append_assoc, List.getElem?_append_right (by simp; omega)]
   simp only [List.length_take, Nat.min_eq_left (show off ≤ cs.length by omega)]
   by_cases h2 : i < off + ys.length
   · rw [if_pos h2, List.getElem?_append_left (by omega)]
   · rw [if_neg h2, List.getElem?_append_right (by omega), List.getElem?_drop]
     congr 1; omega
theorem putCells_rel {α β : Type} {R : α → β → Prop} {cs ys : List α} {vs us : List β} {off : Nat} (hl : cs.length = vs.length) (hl' : ys.length = us.length) (h : off + ys.length ≤ cs.length)
 (hc : ∀ (i : Nat) c v, cs[i]? = some c → vs[i]? = some v → R c v) (hy : ∀ (i : Nat) c v, ys[i]? = some c → us[i]? = some v → R c v) :
 ∀ (i : Nat) c v, (putCells cs off ys)[i]? = some c → (putCells vs off us)[i]? = some v → R c v := by
 intro i c v
 rw [putCells_get cs off ys h, putCells_get vs off us (by omega), ← hl']
 split
 · exact hc i c v
 · split
   · exact hy _ c v
   · exact hc i c v
theorem fo_bound {φ G m w} (h : MemRel φ G m w) : ∀ b, Fo G φ m b → b < w.heap.size := fun b hb => hb.elim (h.bound b) (fun ho => h.own_lt ho)
theorem setRow_other' (w : World) (g k : Nat) (cs : Array Value) (h : k ≠ g) : (w.setRow g cs).heap[k]? = w.heap[k]? := by
 simp only [World.setRow, Array.getElem?_modify]; rw [if_neg (fun e => h e.symm)]
theorem MemRel.storeL {φ G m w} (h : MemRel φ G m w) {e : Ent} (he : e ∈ m) {L : Loc} (hL : φ e.key = some L) (hver : L.ver = e.ver) {b0 : Nat} (ho : e.cont.owns L b0) (arr' : Array Value)
 (L' : Loc) (hv : e.ver ≤ L'.ver) (hsame : L'.ver = L.ver → L' = { L with subs := L'.subs }) (c' : Cont) (hblk : ∀ b, c'.owns L' b → e.cont.owns L b)
 (hc : ∀ φ' : Phi, φ.le φ' → (∀ x v, AVRel φ w (Fo G φ m) x v → AVRel φ' (w.setRow b0 arr') (Fo G φ' (Mem.set m ⟨e.key, L'.ver, c'⟩)) x v) →
  (∀ x v, DRel w (Fo G φ m) x v → DRel (w.setRow b0 arr') (Fo G φ' (Mem.set m ⟨e.key, L'.ver, c'⟩)) x v) →
  ContRel φ' (w.setRow b0 arr') (Fo G φ' (Mem.set m ⟨e.key, L'.ver, c'⟩)) L' c') :
 ∃ φ', MemRel φ' G (Mem.set m ⟨e.key, L'.ver, c'⟩) (w.setRow b0 arr') ∧ Keeps φ m w φ' (Mem.set m ⟨e.key, L'.ver, c'⟩) (w.setRow b0 arr') ∧ φ' e.key = some L' ∧ ∀ k, k ≠ e.key → φ' k = φ k := by
 have hown : Own φ m b0 := ⟨e, he, L, hL, ho⟩
 refine h.upd (e' := ⟨e.key, L'.ver, c'⟩) he hL rfl (L' := L') (by rw [hver]; exact hv) hsame rfl
  (fun b hb hn => setRow_other' w b0 b arr' (fun heq => hn (heq ▸ ho))) (by simp) (fun b hb => .inl (hblk b hb)) rfl rfl rfl ?_
 intro φ' hφ hle
 have hF : ∀ b, b < w.heap.size → Fo G φ' (Mem.set m ⟨e.key, L'.ver, c'⟩) b → Fo G φ m b := by
  rintro b hbl (hG | ⟨x, hx, Lx, hLx, hox⟩)
  · exact .inl hG
  · right
    rcases (Mem.mem_set h.nodup).1 hx with ⟨rfl, _⟩ | ⟨hxm, hne⟩
    · subst hφ; simp at hLx; subst hLx; exact ⟨e, he, L, hL, hblk b hox⟩
    · subst hφ; simp at hne; simp [hne] at hLx; exact ⟨x, hxm, Lx, hLx, hox⟩
 have hk : ∀ b, b < w.heap.size → ¬ Fo G φ m b → (w.setRow b0 arr').heap[b]? = w.heap[b]? :=
  fun b hb hn => setRow_other' w b0 b arr' (fun heq => hn (.inr (heq ▸ hown)))
 exact hc φ' hle (fun x v hx => hx.mono hle hk (by simp) hF) (fun x v hx => hx.mono hk (by simp) hF)
theorem MemRel.store {φ G m w} (h : MemRel φ G m w) {e : Ent} (he : e ∈ m) {L : Loc} (hL : φ e.key = some L) (hver : L.ver = e.ver) {b0 : Nat} (ho : e.cont.owns L b0) (arr' : Array Value)
 (ver' : Nat) (hv : e.ver ≤ ver') (c' : Cont) (hblk : ∀ b, c'.owns { L with ver := ver' } b → e.cont.owns L b)
 (hc : ∀ φ' : Phi, φ.le φ' → (∀ x v, AVRel φ w (Fo G φ m) x v → AVRel φ' (w.setRow b0 arr') (Fo G φ' (Mem.set m ⟨e.key, ver', c'⟩)) x v) →
  (∀ x v, DRel w (Fo G φ m) x v → DRel (w.setRow b0 arr') (Fo G φ' (Mem.set m ⟨e.key, ver', c'⟩)) x v) →
  ContRel φ' (w.setRow b0 arr') (Fo G φ' (Mem.set m ⟨e.key, ver', c'⟩)) { L with ver := ver' } c') :
 ∃ φ', MemRel φ' G (Mem.set m ⟨e.key, ver', c'⟩) (w.setRow b0 arr') ∧ Keeps φ m w φ' (Mem.set m ⟨e.key, ver', c'⟩) (w.setRow b0 arr') ∧ φ' e.key = some { L with ver := ver' } ∧ ∀ k, k ≠ e.key → φ' k = φ k :=
 h.storeL he hL hver ho arr' { L with ver := ver' } hv (fun hh => by simp at hh; cases L; simp_all) c' hblk hc
theorem MemRel.freshS {φ G m w} (h : MemRel φ G m w) {e : Ent} (he : e ∈ m) {L : Loc} (hL : φ e.key = some L) (hver : L.ver = e.ver) (w1 : World) (hw1 : w1.heap = w.heap) (hos : w1.os = w.os) (htp : w1.tape = w.tape) (hout : w1.output = w.output)
 (arr : Array Value) (elem : TypeId) (c' : Cont) (L' : Loc) (hv : L'.ver = e.ver + 1) (hblk : ∀ b, c'.owns L' b → e.cont.owns L b ∨ w.heap.size = b)
 (hc : ∀ φ' : Phi, φ.le φ' → (∀ x v, AVRel φ w (Fo G φ m) x v → AVRel φ' (w1.alloc (.cells arr elem)) (Fo G φ' (Mem.set m ⟨e.key, e.ver + 1, c'⟩)) x v) →
  (∀ x v, DRel w (Fo G φ m) x v → DRel (w1.alloc (.cells arr elem)) (Fo G φ' (Mem.set m ⟨e.key, e.ver + 1, c'⟩)) x v) →
  (w1.alloc (.cells arr elem)).heap[w.heap.size]? = some (.cells arr elem (0, 0)) → (∀ b, b < w.heap.size → (w1.alloc (.cells arr elem)).heap[b]? = w.heap[b]?) →
  ContRel φ' (w1.alloc (.cells arr elem)) (Fo G φ' (Mem.set m ⟨e.key, e.ver + 1, c'⟩)) L' c') :
 ∃ φ', MemRel φ' G (Mem.set m ⟨e.key, e.ver + 1, c'⟩) (w1.alloc (.cells arr elem)) ∧ Keeps φ m w φ' (Mem.set m ⟨e.key, e.ver + 1, c'⟩) (w1.alloc (.cells arr elem)) ∧
  φ' e.key = some L' ∧ ∀ k, k ≠ e.key → φ' k = φ k := by
 have hold : ∀ b, b < w.heap.size → (w1.alloc (.cells arr elem)).heap[b]? = w.heap[b]? := fun b hb => by rw [RowKit.Below.heap_alloc w1 _ b (by rw [hw1]; exact hb), hw1]
 have hsz : w.heap.size ≤ (w1.alloc (.cells arr elem)).heap.size := by simp [hw1]
 refine h.upd (e' := ⟨e.key, e.ver + 1, c'⟩) he hL rfl (L' := L') (by rw [hver, hv]; simp) (fun hh => by simp [hver, hv] at hh) hv
  (fun b hb _ => hold b hb) hsz (fun b hb => (hblk b hb).imp id (fun e => by omega)) hos htp hout ?_
 intro φ' hφ hle
 have hF : ∀ b, b < w.heap.size → Fo G φ' (Mem.set m ⟨e.key, e.ver + 1, c'⟩) b → Fo G φ m b := by
  rintro b hb (hG | ⟨x, hx, Lx, hLx, hox⟩)
  · exact .inl hG
  · right
    rcases (Mem.mem_set h.nodup).1 hx with ⟨rfl, _⟩ | ⟨hxm, hne⟩
    · subst hφ; simp at hLx; subst hLx
      rcases hblk b hox with h' | h'
      · exact ⟨e, he, L, hL, h'⟩
      · omega
    · subst hφ; simp at hne; simp [hne] at hLx; exact ⟨x, hxm, Lx, hLx, hox⟩
 refine hc φ' hle (fun x v hx => hx.mono hle (fun b hb _ => hold b hb) hsz hF) (fun x v hx => hx.mono (fun b hb _ => hold b hb) hsz hF) ?_ hold
 have := heap_alloc_new w1 (.cells arr elem)
 rwa [hw1] at this
theorem MemRel.fresh {φ G m w} (h : MemRel φ G m w) {e : Ent} (he : e ∈ m) {L : Loc} (hL : φ e.key = some L) (hver : L.ver = e.ver) (w1 : World) (hw1 : w1.heap = w.heap) (hos : w1.os = w.os) (htp : w1.tape = w.tape) (hout : w1.output = w.output)
 (arr : Array Value) (elem : TypeId) (sz cap : Nat) (c' : Cont) (hblk : ∀ b, c'.owns ⟨e.ver + 1, w.heap.size, sz, cap, 0, []⟩ b → w.heap.size = b)
 (hc : ∀ φ' : Phi, φ.le φ' → (∀ x v, AVRel φ w (Fo G φ m) x v → AVRel φ' (w1.alloc (.cells arr elem)) (Fo G φ' (Mem.set m ⟨e.key, e.ver + 1, c'⟩)) x v) →
  (∀ x v, DRel w (Fo G φ m) x v → DRel (w1.alloc (.cells arr elem)) (Fo G φ' (Mem.set m ⟨e.key, e.ver + 1, c'⟩)) x v) →
  (w1.alloc (.cells arr elem)).heap[w.heap.size]? = some (.cells arr elem (0, 0)) →
  ContRel φ' (w1.alloc (.cells arr elem)) (Fo G φ' (Mem.set m ⟨e.key, e.ver + 1, c'⟩)) ⟨e.ver + 1, w.heap.size, sz, cap, 0, []⟩ c') :
 ∃ φ', MemRel φ' G (Mem.set m ⟨e.key, e.ver + 1, c'⟩) (w1.alloc (.cells arr elem)) ∧ Keeps φ m w φ' (Mem.set m ⟨e.key, e.ver + 1, c'⟩) (w1.alloc (.cells arr elem)) ∧
  φ' e.key = some ⟨e.ver + 1, w.heap.size, sz, cap, 0, []⟩ ∧ ∀ k, k ≠ e.key → φ' k = φ k :=
 h.freshS he hL hver w1 hw1 hos htp hout arr elem c' _ rfl (fun b hb => .inr (hblk b hb)) (fun φ' h1 h2 h3 h4 _ => hc φ' h1 h2 h3 h4)
def D.setCells (r : D) (j : Nat) (y : D) : D := .agg (putCells r.cells j y.cells)
def storeV (P : Program) (t : TypeId) (k ver i j : Nat) (x : AV) : Option Ent → Res
 | some ⟨_, v, .vv rows (some _)⟩ => match x with
  | .vec a b c d => .upd (v = ver ∧ i = rows.length ∧ j = 0 ∧ tsz P t = some 1) .junk ⟨k, ver, .vv rows (some (.vec a b c d))⟩
  | _ => .no
 | _ => .no
def storeR (P : Program) (m : Mem) (t : TypeId) (p x : AV) : Res :=
 match p with
 | .ptr k ver off => match Mem.get m k with
  | some ⟨_, v, .box cs⟩ => .upd (v = ver ∧ x.solid = true ∧ tsz P t = some x.cells.length ∧ off + x.cells.length ≤ cs.length) .junk ⟨k, ver, .box (putCells cs off x.cells)⟩
  | _ => .no
 | .eptr k ver i j => match Mem.get m k, x.norm with
  | some ⟨_, v, .vec sz rows⟩, .d y => match tk P t with
   | .struct => .upd (v = ver ∧ i < rows.length ∧ tsz P t = some sz ∧ y.size = sz ∧ j = 0) .junk ⟨k, ver, .vec sz (rows.set i y)⟩
   | _ => match sz with
    | 1 => .upd (v = ver ∧ i < rows.length ∧ tsz P t = some 1 ∧ y.size = 1 ∧ j = 0) .junk ⟨k, ver, .vec 1 (rows.set i y)⟩
    | sz => .upd (v = ver ∧ i < rows.length ∧ tsz P t = some y.size ∧ j + y.size ≤ sz ∧ (D.at rows i).flat = false) .junk ⟨k, ver, .vec sz (rows.set i ((D.at rows i).setCells j y))⟩
  | e, _ => storeV P t k ver i j x e
 | _ => .no
theorem store_row_rel {w w' : World} {F F' : Nat → Prop} {arr : Array Value} {rows : List D} {base sz cap i o : Nat} {us : List Value} {r' : D} {v' : Value} (hs : arr.size = base + cap * sz) (hcap : rows.length ≤ cap) (hi : i < rows.length)
 (ho : base + i * sz ≤ o) (hou : o + us.length ≤ base + i * sz + sz)
 (hrel : ∀ (n : Nat) (d : D), rows[n]? = some d → ∃ v, DRel w F d v ∧ ∀ (j : Nat) (c : Value), v.cells[j]? = some c → arr[base + n * sz + j]? = some c)
 (hsize : ∀ d ∈ rows, d.size = sz)
 (hm : ∀ x v, DRel w F x v → DRel w' F' x v) (hr' : DRel w' F' r' v') (hrs : r'.size = sz)
 (hv' : ∀ (j : Nat) (c : Value), v'.cells[j]? = some c → (putCells arr.toList o us)[base + i * sz + j]? = some c) :
 ∀ (n : Nat) (d : D), (rows.set i r')[n]? = some d → ∃ v, DRel w' F' d v ∧ ∀ (j : Nat) (c : Value), v.cells[j]? = some c → (putCells arr.toList o us).toArray[base + n * sz + j]? = some c := by
 have hin : base + i * sz + sz ≤ arr.size := by
  have : i * sz + sz ≤ cap * sz := by rw [← Nat.succ_mul]; exact Nat.mul_le_mul_right _ (by omega)
  omega
 intro n d hd
 by_cases hn : n = i
 · subst hn
   simp [hi] at hd
   subst hd
   exact ⟨v', hr', fun j c hj => by simpa using hv' j c hj⟩
 · rw [List.getElem?_set_ne (fun h => hn h.symm)] at hd
   obtain ⟨v, hv, hvc⟩ := hrel n d hd
   refine ⟨v, hm d v hv, fun j c hj => ?_⟩
   have hjs : j < sz := by
    have h1 := hv.size
    rw [hsize d (List.mem_of_getElem? hd)] at h1
    have := (Array.getElem?_eq_some_iff.1 hj).1
    omega
   rw [List.getElem?_toArray, putCells_get arr.toList o us (by simp; omega)]
   have key : ¬ (o ≤ base + n * sz + j ∧ base + n * sz + j < o + us.length) := by
    rintro ⟨h1, h2⟩
    rcases Nat.lt_or_gt_of_ne hn with hlt | hgt
    · have : n * sz + sz ≤ i * sz := by rw [← Nat.succ_mul]; exact Nat.mul_le_mul_right _ hlt
      omega
    · have : i * sz + sz ≤ n * sz := by rw [← Nat.succ_mul]; exact Nat.mul_le_mul_right _ hgt
      omega
   have hh := hvc j c hj
   split
   · simpa using hh
   · rw [if_neg (by omega)]; simpa using hh
theorem run_storeAt' {P : Program} {t : TypeId} {w : World} {b o : Nat} {arr : Array Value} {elem : TypeId} {v : Value} (hs : tsz P t = some v.cells.size)
 (hg : RowAt w b arr elem) (hl : o + v.cells.size ≤ arr.size) (h1 : ∀ x ∈ v.cells, cell1 x = true) :
 (Instr.storeAt t (.pointer (some ⟨b, o, none⟩)) v).run P w = .ok () (w.setRow b (putCells arr.toList o v.cells.toList).toArray) := by
 rw [run_storeAt hs hg hl h1, putCells_eq _ _ _ (by simpa using hl)]
 simp
theorem heap_setRow {w : World} {b : Nat} {arr : Array Value} {elem : TypeId} {fr} (hg : w.heap[b]? = some (.cells arr elem fr)) (arr' : Array Value) : (w.setRow b arr').heap[b]? = some (.cells arr' elem fr) := setRow_heap w b arr arr' elem fr hg
theorem RowAt.setRow {w : World} {b : Nat} {arr : Array Value} {elem : TypeId} (hg : RowAt w b arr elem) (arr' : Array Value) (hs : arr'.size = arr.size) : RowAt (w.setRow b arr') b arr' elem := by
 obtain ⟨fr, h1, h2⟩ := hg
 exact ⟨fr, heap_setRow h1 arr', by rw [hs]; exact h2⟩
theorem mem_putCells {α : Type} {cs ys : List α} {off : Nat} {x : α} (h : off + ys.length ≤ cs.length) (hx : x ∈ putCells cs off ys) : x ∈ cs ∨ x ∈ ys := by
 rw [putCells_eq cs off ys h] at hx
 simp only [List.mem_append] at hx
 rcases hx with (hx | hx) | hx
 · exact .inl (List.mem_of_mem_take hx)
 · exact .inr hx
 · exact .inl (List.mem_of_mem_drop hx)
theorem storeV_ok (P : Program) (S : St) (o : Oper) (t : TypeId) (p x : Operand) (ho : o.op = .store t p x) (hp : (S.opd p).1 = true) (hx : (S.opd x).1 = true) {k ver i j : Nat} (hpv : (S.opd p).2 = .eptr k ver i j) :
 ResOk P S o (storeV P t k ver i j (S.opd x).2 (Mem.get S.mem k)) := by
 unfold storeV
 split
 · rename_i key v rows y hg
   split
   · rename_i a b c d hxv
     refine ResOk.updI ?_
     rintro ⟨rfl, rfl, rfl, hts⟩ φ G aa w hr
     have hk : key = k := (Mem.get_mem hg).2
     subst hk
     have hv := hr.opd p hp
     have hu := hr.opd x hx
     rw [hpv] at hv
     rw [hxv] at hu
     obtain ⟨hm, _, L, hL, hver, hcr⟩ := hr.mem.get hg
     obtain ⟨⟨hz1, hcap, hl⟩, hinj, hne, hrow⟩ := hcr
     have e := hv.eptr_eq hL hver
     simp only [Option.toList_some, List.length_singleton] at hcap
     have hcap0 : 0 < L.cap := by omega
     obtain ⟨arr, elem, hh, hsz, h1, hsub, _⟩ := hrow hcap0
     generalize hev : aa.eval x = u at hu
     have hu1 : cell1 u = true := by cases hu; assumption
     have huc : u.cells = #[u] := cells_of_cell1 hu1
     have hput : L.base + rows.length + [u].length ≤ arr.toList.length := by simp; omega
     obtain ⟨φ', hm', hk', hφk, hφo⟩ := hr.mem.store (e := ⟨key, v, .vv rows (some y)⟩) hm hL hver (b0 := L.blk) (.inl ⟨hcap0, rfl⟩) (putCells arr.toList (L.base + rows.length) [u]).toArray v (Nat.le_refl _) (.vv rows (some (.vec a b c d))) (fun _ hb => hb) (fun φ' hle' hav hdr => by
      refine ⟨⟨hz1, by simpa using hcap, hl⟩, hinj, hne, fun _ => ⟨_, elem, hh.setRow _ (by rw [List.size_toArray, putCells_length _ _ _ hput]; simp), ?_, ?_, ?_, ?_⟩⟩
      · rw [List.size_toArray, putCells_length _ _ _ hput]
        simpa using hsz
      · intro z hz
        rcases mem_putCells hput (by simpa using hz) with hz | hz
        · exact h1 z (by simpa using hz)
        · simp at hz; subst hz; exact hu1
      · intro n xs q hn hq
        have hnl := (List.getElem?_eq_some_iff.1 hn).1
        have := hsub n xs q hn hq
        rw [show (putCells arr.toList (L.base + rows.length) [u]).toArray[L.base + n]? = arr[L.base + n]? by
         rw [List.getElem?_toArray, putCells_get _ _ _ hput, if_pos (by omega)]; simp]
        refine this.mono (fun d u _ hd => hdr d u hd) (fun b hb => ?_)
        subst hb
        exact setRow_other' w L.blk b _ (fun heq => (hne b (List.mem_of_getElem? hq)).2 heq)
      · intro z hz
        cases hz
        refine ⟨u, ?_, hav _ _ hu⟩
        show (putCells arr.toList (L.base + rows.length) [u]).toArray[L.base + rows.length]? = some u
        rw [List.getElem?_toArray, putCells_get _ _ _ hput, if_neg (by omega), if_pos (by simp)]
        simp)
     refine ⟨undef, _, φ', ?_, .junk _, hm', hk', hφo⟩
     have hst := run_storeAt' (P := P) (t := t) (w := w) (b := L.blk) (o := L.base + rows.length) (v := u) (by rw [huc]; exact hts) hh (by rw [huc]; simpa using hput) (by rw [huc]; simpa using hu1)
     rw [huc] at hst
     refine .inr ⟨?_, rfl⟩
     rw [hz1, Nat.mul_one, Nat.add_zero] at e
     simp [execOp, ho, e, hev, hst]
   · trivial
 · trivial
theorem store_ok (P : Program) (S : St) (o : Oper) (t : TypeId) (p x : Operand) (ho : o.op = .store t p x) (hp : (S.opd p).1 = true) (hx : (S.opd x).1 = true) : ResOk P S o (storeR P S.mem t (S.opd p).2 (S.opd x).2) := by
 have hrun : ∀ (a : Act) (w w' : World), (Instr.storeAt t (a.eval p) (a.eval x)).run P w = .ok () w' → Ran P o a w undef w' := by
  intro a w w' h
  exact .inr ⟨by simp [execOp, ho, h], rfl⟩
 unfold storeR
 split
 · rename_i k ver off hpv
   split
   · rename_i key v cs hg
     refine ResOk.updI ?_
     rintro ⟨rfl, hsol, hts, hle⟩ φ G a w hr
     have hv := hr.opd p hp
     have hxv := hr.opd x hx
     rw [hpv] at hv
     obtain ⟨hm, hk, L, hL, hver, hL0, arr, elem, hh, hsz, h1, hrel⟩ := hr.mem.get hg
     have e := hv.ptr_eq hL hver
     obtain ⟨hs1, hs2⟩ := hxv.solid hsol
     simp only at hk
     subst hk
     have hput : off + (a.eval x).cells.toList.length ≤ arr.toList.length := by simp only [Array.length_toList, hs1, hsz]; exact hle
     obtain ⟨φ', hm', hk', hφk, hφo⟩ := hr.mem.store (e := ⟨key, v, .box cs⟩) hm hL hver rfl (putCells arr.toList off (a.eval x).cells.toList).toArray v (Nat.le_refl _) (.box (putCells cs off (S.opd x).2.cells)) (fun _ hb => hb) (fun φ' hle' hav hdr => by
      refine ⟨⟨hL0.1, hL0.2.1, by rw [putCells_length _ _ _ hle]; exact hL0.2.2⟩, _, elem, hh.setRow _ (by show (putCells arr.toList _ _).length = _; rw [putCells_length _ _ _ hput]; simp), ?_, ?_, ?_⟩
      · rw [putCells_length _ _ _ hle, ← hsz]
        show (putCells arr.toList off _).length = _
        rw [putCells_length _ _ _ hput]
        simp
      · intro u hu
        rcases mem_putCells hput (by simpa using hu) with hu | hu
        · exact h1 u (by simpa using hu)
        · exact hs2 u (by simpa using hu)
      · intro i c u hc hu
        refine hav c u ?_
        exact putCells_rel (vs := arr.toList) (us := (a.eval x).cells.toList) (by simp [hsz]) (by simpa using hs1.symm) hle (fun i c v h h' => hrel i c v h (by simpa using h'))
         (fun i c v h h' => hxv.cells hs2 hs1 i c v h (by simpa using h')) i c u hc (by simpa using hu))
     refine ⟨undef, _, φ', hrun a w _ ?_, .junk _, hm', hk', hφo⟩
     rw [e]
     exact run_storeAt' (by rw [hs1]; exact hts) hh (by omega) hs2
   · trivial
 · rename_i k ver i j hpv
   have vec : ∀ (c : Prop) [Decidable c] (sz : Nat) (rows : List D) (y r' : D) (v : Nat), Mem.get S.mem k = some ⟨k, v, .vec sz rows⟩ → (S.opd x).2.norm = .d y →
    (c → v = ver ∧ i < rows.length ∧ tsz P t = some y.size ∧ j + y.size ≤ sz ∧ ((D.at rows i).size = sz → r'.size = sz) ∧
     ∀ w F (u v : Value), (D.at rows i).size = sz → DRel w F (D.at rows i) v → DRel w F y u → ∃ v', DRel w F r' v' ∧ v'.cells.toList = putCells v.cells.toList j u.cells.toList) →
    ResOk P S o (.upd (decide c) .junk ⟨k, ver, .vec sz (rows.set i r')⟩) := by
    intro c _ sz rows y r' v hg hy hcc
    refine ResOk.updI fun hc φ G a w hr => ?_
    obtain ⟨rfl, hlt, hts, hj, hrs0, hmk⟩ := hcc hc
    have hv := hr.opd p hp
    have hxv := (hr.opd x hx).norm
    rw [hy] at hxv
    rw [hpv] at hv
    obtain ⟨hm, hk, L, hL, hver, hLsz, hcap, hrs, hrow⟩ := hr.mem.get hg
    have e := hv.eptr_eq hL hver
    have hcap0 : 0 < L.cap := by omega
    obtain ⟨arr, elem, hh, hsz, h1, hrel⟩ := hrow hcap0
    have hrs' : r'.size = sz := hrs0 (by rw [hrs _ (List.mem_of_getElem? (getD_at hlt)), hLsz])
    cases hxv with
    | d _ u hu =>
     generalize hev : a.eval x = u at hu
     have hus : u.cells.size = y.size := hu.size
     have hin : L.base + i * L.sz + L.sz ≤ arr.size := by
      have : i * L.sz + L.sz ≤ L.cap * L.sz := by rw [← Nat.succ_mul]; exact Nat.mul_le_mul_right _ (by omega)
      omega
     obtain ⟨rv, hrv, hrvc⟩ := hrel i _ (getD_at hlt)
     have hrvs : rv.cells.size = L.sz := by rw [hrv.size]; exact hrs _ (List.mem_of_getElem? (getD_at hlt))
     have hput : L.base + i * L.sz + j + u.cells.toList.length ≤ arr.toList.length := by simp [hus]; omega
     obtain ⟨φ', hm', hk', hφk, hφo⟩ := hr.mem.store (e := ⟨k, v, .vec sz rows⟩) hm hL hver ⟨hcap0, rfl⟩ (putCells arr.toList (L.base + i * L.sz + j) u.cells.toList).toArray v (Nat.le_refl _) (.vec sz (rows.set i r')) (fun _ hb => hb) (fun φ' hle' hav hdr => by
      refine ⟨hLsz, by simpa using hcap, ?_, fun _ => ⟨_, elem, hh.setRow _ (by show (putCells arr.toList _ _).length = _; rw [putCells_length _ _ _ hput]; simp), ?_, ?_, ?_⟩⟩
      · intro d hd
        rcases List.mem_or_eq_of_mem_set hd with hd | rfl
        · exact hrs d hd
        · show _ = L.sz; rw [hLsz]; exact hrs'
      · show (putCells arr.toList _ _).length = _
        rw [putCells_length _ _ _ hput]
        simpa using hsz
      · intro z hz
        rcases mem_putCells hput (by simpa using hz) with hz | hz
        · exact h1 z (by simpa using hz)
        · exact hu.cells.2.1 z (by simpa using hz)
      · obtain ⟨v', hv', hvc'⟩ := hmk _ _ u rv (by rw [hrs _ (List.mem_of_getElem? (getD_at hlt)), hLsz]) (hdr _ _ hrv) (hdr _ _ hu)
        refine store_row_rel (F := Fo G φ S.mem) (base := L.base) (cap := L.cap) (sz := L.sz) hsz hcap hlt (by omega) (by simp [hus]; omega) hrel hrs hdr hv' (by rw [hrs', hLsz]) ?_
        intro q c hq
        have hq' : (putCells rv.cells.toList j u.cells.toList)[q]? = some c := by rw [← hvc']; simpa using hq
        have hql : q < L.sz := by
         have := (List.getElem?_eq_some_iff.1 hq').1
         rw [putCells_length _ _ _ (by simp [hus, hrvs]; omega)] at this
         simpa [hrvs] using this
        rw [putCells_get _ _ _ (by simp [hus, hrvs]; omega)] at hq'
        rw [putCells_get _ _ _ hput]
        by_cases h1 : q < j
        · rw [if_pos h1] at hq'; rw [if_pos (by omega)]
          simpa using hrvc q c (by simpa using hq')
        · rw [if_neg h1] at hq'; rw [if_neg (by omega)]
          by_cases h2 : q < j + u.cells.toList.length
          · rw [if_pos h2] at hq'; rw [if_pos (by omega)]
            rw [show L.base + i * L.sz + q - (L.base + i * L.sz + j) = q - j by omega]; exact hq'
          · rw [if_neg h2] at hq'; rw [if_neg (by omega)]
            simpa using hrvc q c (by simpa using hq'))
     refine ⟨undef, _, φ', hrun a w _ ?_, .junk _, hm', hk', hφo⟩
     rw [e, hev]
     exact run_storeAt' (by rw [hus]; exact hts) hh (by simpa using hput) hu.cells.2.1
   have whole : ∀ (y r : D), y.size = r.size → ∀ w F (u v : Value), DRel w F r v → DRel w F y u → ∃ v', DRel w F y v' ∧ v'.cells.toList = putCells v.cells.toList 0 u.cells.toList := by
    intro y r hyr w F u v hr hy
    refine ⟨u, hy, ?_⟩
    have h1 := hr.size
    have h2 := hy.size
    rw [putCells_eq _ _ _ (by simp; omega)]
    simp; omega
   split
   · rename_i key v sz rows y hg hy
     have hk : key = k := (Mem.get_mem hg).2
     subst hk
     split
     · exact vec _ sz rows y y v hg hy (fun ⟨h1, h2, h3, h4, h5⟩ => ⟨h1, h2, by rw [h4]; exact h3, by omega, fun _ => h4, by
        subst h5
        intro w F u v hs hr' hy'
        exact whole y _ (by rw [hs, h4]) w F u v hr' hy'⟩)
     · split
       · exact vec _ 1 rows y y v hg hy (fun ⟨h1, h2, h3, h4, h5⟩ => ⟨h1, h2, by rw [h4]; exact h3, by omega, fun _ => h4, by
          subst h5
          intro w F u v hs hr' hy'
          exact whole y _ (by rw [hs, h4]) w F u v hr' hy'⟩)
       · refine vec _ sz rows y _ v hg hy (fun ⟨h1, h2, h3, h4, h5⟩ => ⟨h1, h2, h3, h4, ?_, ?_⟩)
         · intro h6
           show (putCells _ _ _).length = sz
           rw [putCells_length _ _ _ (by rw [D.cells_length, D.cells_length, h6]; exact h4), D.cells_length, h6]
         · intro w F u v hs hr' hy'
           obtain ⟨ra, rfl⟩ := agg_of_flat hr' h5
           have hcr := hr'.cells
           have hcy := hy'.cells
           have hl : j + y.cells.length ≤ (D.at rows i).cells.length := by rw [D.cells_length, D.cells_length, hs]; exact h4
           refine ⟨.agg (putCells ra.toList j u.cells.toList).toArray, .ofCells ?_ ?_ ?_, by simp [Value.cells]⟩
           · have h6 := hcr.1
             simp only [Value.cells] at h6
             rw [putCells_length _ _ _ hl, putCells_length _ _ _ (by rw [hcy.1, h6]; exact hl), ← h6]
           · intro z hz
             have h6 := hcr.1
             simp only [Value.cells] at h6
             rcases mem_putCells (by rw [hcy.1, h6]; exact hl) hz with hz | hz
             · exact hcr.2.1 z (by simpa [Value.cells] using hz)
             · exact hcy.2.1 z (by simpa using hz)
           · exact putCells_rel (by simpa [Value.cells] using hcr.1.symm) (by simpa using hcy.1.symm) hl (fun i c v h h' => (hcr.2.2 i c v h (by simpa [Value.cells] using h')).1) (fun i c v h h' => (hcy.2.2 i c v h (by simpa using h')).1)
   · exact storeV_ok P S o t p x ho hp hx hpv
 · trivial
theorem run_newRow (P : Program) (w : World) (e : TypeId) (cs : Array Value) : (newRow e cs).run P w = .ok ⟨w.heap.size, 0, none⟩ (w.alloc (.cells cs e)) := rfl
def keyOf (o : Oper) : Nat := 100 + 50 * o.dst.getD 100000
def tzero (P : Program) (t : TypeId) : Option (List AV) :=
 match P.info? t with
 | some i => match i.zero with
  | some z => if z.cells.all cell1 then some (z.cells.toList.map constAV) else none
  | none => none
 | none => none
theorem tzero_rel {P : Program} {t : TypeId} {zs : List AV} (h : tzero P t = some zs) (w : World) : ∃ z, (zeroValue t).run P w = .ok z w ∧ z.cells.size = zs.length ∧ (∀ v ∈ z.cells, cell1 v = true) ∧
 ∀ φ w' F (i : Nat) c v, zs[i]? = some c → z.cells[i]? = some v → AVRel φ w' F c v := by
 unfold tzero at h
 split at h
 · rename_i i hi
   split at h
   · rename_i z hz
     split at h
     · rename_i hall
       simp at h
       subst h
       refine ⟨z, by simp [zeroValue, typeInfo, hi, hz], by simp, ?_, ?_⟩
       · intro v hv; exact Array.all_eq_true'.1 hall v hv
       · intro φ w' F i c v hc hv
         simp only [List.getElem?_map, Array.getElem?_toList, Option.map_eq_some_iff] at hc
         obtain ⟨u, hu, rfl⟩ := hc
         rw [hv] at hu; cases hu
         exact constAV_rel ..
     · cases h
   · cases h
 · cases h
def boxR (m : Mem) (k : Nat) (c : Bool) (cs : List AV) : Res :=
 match Mem.get m k with
 | some ⟨_, v, _⟩ => .upd c (.ptr k (v + 1) 0) ⟨k, v + 1, .box cs⟩
 | none => .no
theorem box_new {P : Program} {S : St} {o : Oper} {k : Nat} {c : Bool} {cs : List AV}
 (h : c = true → ∀ φ G a w, Rel φ G S a w → ∃ (arr : Array Value) (elem : TypeId), (execOp a.eval o).run P w = .ok (.value (.pointer (some ⟨w.heap.size, 0, none⟩))) (w.alloc (.cells arr elem)) ∧
  arr.size = cs.length ∧ (∀ v ∈ arr, cell1 v = true) ∧ ∀ (i : Nat) c v, cs[i]? = some c → arr[i]? = some v → AVRel φ w (Fo G φ S.mem) c v) : ResOk P S o (boxR S.mem k c cs) := by
 unfold boxR
 split
 · rename_i key v cont hg
   intro hc φ G a w hr
   obtain ⟨arr, elem, hrun, hsz, h1, hrel⟩ := h hc φ G a w hr
   obtain ⟨hm, hk, L, hL, hver, _⟩ := hr.mem.get hg
   simp only at hk hver
   subst hk
   obtain ⟨φ', hm', hk', hφk, hφo⟩ := hr.mem.fresh (e := ⟨key, v, cont⟩) hm hL hver w rfl rfl rfl rfl arr elem 1 cs.length (.box cs) (fun _ hb => hb) (fun φ' hle hav hdr hnew =>
    ⟨⟨rfl, rfl, rfl⟩, arr, elem, RowAt.new hnew, hsz, h1, fun i c u hc hu => hav c u (hrel i c u hc hu)⟩)
   exact ⟨_, _, φ', .inl hrun, .ptr key (v + 1) 0 _ _ hφk (Nat.le_refl _) (fun _ => rfl) rfl, hm', hk', hφo⟩
 · trivial
theorem box_ok (P : Program) (S : St) (o : Oper) (t : TypeId) (x : Operand) (ho : o.op = .box t x) (hx : (S.opd x).1 = true) : ResOk P S o (boxR S.mem (keyOf o) (S.opd x).2.solid (S.opd x).2.cells) := by
 refine box_new fun hs φ G a w hr => ?_
 have hv := hr.opd x hx
 obtain ⟨h1, h2⟩ := hv.solid hs
 refine ⟨(a.eval x).cells, t, ?_, h1, h2, hv.cells h2 h1⟩
 simp [execOp, ho, Instr.box, newVar, run_newRow]
theorem alloc_ok (P : Program) (S : St) (o : Oper) (t : TypeId) (ho : o.op = .alloc t) (zs : List AV) (hz : tzero P t = some zs) : ResOk P S o (boxR S.mem (keyOf o) true zs) := by
 refine box_new fun _ φ G a w hr => ?_
 obtain ⟨z, hrun, hsz, h1, hrel⟩ := tzero_rel hz w
 refine ⟨z.cells, t, ?_, hsz, h1, fun i c v hc hv => hrel _ _ _ i c v hc hv⟩
 simp [execOp, ho, Instr.alloc, newVar, run_newRow, hrun]
def tzeroD (P : Program) (t : TypeId) : Option D :=
 match tzero P t, (tk P t).agg with
 | some zs, true => (toDsN zs).map .agg
 | some [z], false => toD1 z
 | _, _ => none
def tbytes (P : Program) (t : TypeId) : Option Nat := (P.info? t).map (·.bytes)
theorem tzeroD_rel {P : Program} {t : TypeId} {d : D} (h : tzeroD P t = some d) (w : World) : ∃ z, (zeroValue t).run P w = .ok z w ∧ z.cells.size = d.size ∧ (∀ v ∈ z.cells, cell1 v = true) ∧
 ∀ w' F, ∃ v, DRel w' F d v ∧ v.cells = z.cells := by
 unfold tzeroD at h
 split at h
 · rename_i zs hz hagg
   simp only [Option.map_eq_some_iff] at h
   obtain ⟨ds, hds, rfl⟩ := h
   obtain ⟨z, hrun, hsz, h1, hrel⟩ := tzero_rel hz w
   have hl : ∀ w' F, zs.length = ds.length ∧ ∀ (i : Nat) d v, ds[i]? = some d → z.cells.toList[i]? = some v → DRel w' F d v := fun w' F =>
    toDsN_rel (φ := fun _ => none) (w := w') (F := F) (vs := z.cells.toList) hds (fun i c v hc hv => hrel _ _ _ i c v hc (by simpa using hv))
   refine ⟨z, hrun, by rw [hsz, (hl w (fun _ => False)).1]; rfl, h1, fun w' F => ⟨.agg z.cells, ?_, rfl⟩⟩
   have := DRel.ofCells (w := w') (F := F) (cs := ds) (vs := z.cells.toList) (by rw [← (hl w' F).1]; simpa using hsz.symm) (fun v hv => h1 v (by simpa using hv)) (hl w' F).2
   simpa using this
 · rename_i z0 hz hagg
   obtain ⟨z, hrun, hsz, h1, hrel⟩ := tzero_rel hz w
   obtain ⟨u, hu⟩ : ∃ u, z.cells = #[u] := by
    have : z.cells.size = 1 := hsz
    exact ⟨z.cells[0], by apply Array.ext <;> simp_all⟩
   have hd : ∀ w' F, DRel w' F d u := fun w' F => toD1_rel (φ := fun _ => none) h (hrel _ _ _ 0 z0 u (by simp) (by simp [hu]))
   have hu1 : cell1 u = true := h1 u (by simp [hu])
   refine ⟨z, hrun, by rw [hu, ← (hd w (fun _ => False)).size, cells_of_cell1 hu1], h1, fun w' F => ⟨u, hd w' F, by rw [cells_of_cell1 hu1, hu]⟩⟩
 · cases h
def RowsAt (w : World) (F : Nat → Prop) (sz : Nat) (rows : List D) (cs : List Value) : Prop :=
 cs.length = rows.length * sz ∧ (∀ v ∈ cs, cell1 v = true) ∧ (∀ d ∈ rows, d.size = sz) ∧ ∀ (i : Nat) d, rows[i]? = some d → ∃ v, DRel w F d v ∧ ∀ (j : Nat) c, v.cells[j]? = some c → cs[i * sz + j]? = some c
theorem row_lt {sz : Nat} {w : World} {F : Nat → Prop} {d : D} {v : Value} (h : DRel w F d v) (hs : d.size = sz) {j : Nat} {c : Value} (hj : v.cells[j]? = some c) : j < sz := by
 have h1 := h.size
 have := (Array.getElem?_eq_some_iff.1 hj).1
 omega
theorem RowsAt.append {w F sz xs ys cs cs'} (h : RowsAt w F sz xs cs) (h' : RowsAt w F sz ys cs') : RowsAt w F sz (xs ++ ys) (cs ++ cs') := by
 obtain ⟨a1, a2, a3, a4⟩ := h
 obtain ⟨b1, b2, b3, b4⟩ := h'
 refine ⟨by simp [a1, b1, Nat.add_mul], ?_, ?_, ?_⟩
 · intro v hv; rcases List.mem_append.1 hv with hv | hv; exact a2 v hv; exact b2 v hv
 · intro v hv; rcases List.mem_append.1 hv with hv | hv; exact a3 v hv; exact b3 v hv
 · intro i d hd
   by_cases hi : i < xs.length
   · rw [List.getElem?_append_left hi] at hd
     obtain ⟨v, hv, hvc⟩ := a4 i d hd
     refine ⟨v, hv, fun j c hj => ?_⟩
     have hjs := row_lt hv (a3 d (List.mem_of_getElem? hd)) hj
     rw [List.getElem?_append_left]
     · exact hvc j c hj
     · rw [a1]
       have : i * sz + sz ≤ xs.length * sz := by rw [← Nat.succ_mul]; exact Nat.mul_le_mul_right _ hi
       omega
   · rw [List.getElem?_append_right (by omega)] at hd
     obtain ⟨v, hv, hvc⟩ := b4 _ d hd
     refine ⟨v, hv, fun j c hj => ?_⟩
     have e : xs.length * sz + (i - xs.length) * sz = i * sz := by rw [← Nat.add_mul]; congr 1; omega
     rw [List.getElem?_append_right (by rw [a1]; omega), a1, show i * sz + j - xs.length * sz = (i - xs.length) * sz + j by omega]
     exact hvc j c hj
theorem RowsAt.take {w F sz xs cs} (h : RowsAt w F sz xs cs) (n : Nat) (hn : n ≤ xs.length) : RowsAt w F sz (xs.take n) (cs.take (n * sz)) := by
 obtain ⟨a1, a2, a3, a4⟩ := h
 have hle : n * sz ≤ xs.length * sz := Nat.mul_le_mul_right _ hn
 refine ⟨by simp only [List.length_take, a1]; rw [Nat.min_eq_left hn, Nat.min_eq_left hle], fun v hv => a2 v (List.mem_of_mem_take hv), fun v hv => a3 v (List.mem_of_mem_take hv), ?_⟩
 intro i d hd
 rw [List.getElem?_take] at hd
 split at hd
 · rename_i hi
   obtain ⟨v, hv, hvc⟩ := a4 i d hd
   refine ⟨v, hv, fun j c hj => ?_⟩
   have hjs := row_lt hv (a3 d (List.mem_of_getElem? hd)) hj
   have : i * sz + sz ≤ n * sz := by rw [← Nat.succ_mul]; exact Nat.mul_le_mul_right _ hi
   rw [List.getElem?_take, if_pos (by omega)]
   exact hvc j c hj
 · cases hd
theorem RowsAt.drop {w F sz xs cs} (h : RowsAt w F sz xs cs) (n : Nat) : RowsAt w F sz (xs.drop n) (cs.drop (n * sz)) := by
 obtain ⟨a1, a2, a3, a4⟩ := h
 refine ⟨by simp [a1, Nat.sub_mul], fun v hv => a2 v (List.mem_of_mem_drop hv), fun v hv => a3 v (List.mem_of_mem_drop hv), ?_⟩
 intro i d hd
 rw [List.getElem?_drop] at hd
 obtain ⟨v, hv, hvc⟩ := a4 _ d hd
 refine ⟨v, hv, fun j c hj => ?_⟩
 rw [List.getElem?_drop, show n * sz + (i * sz + j) = (n + i) * sz + j by rw [Nat.add_mul]; omega]
 exact hvc j c hj
theorem RowsAt.mono {w F w' F' sz xs cs} (h : RowsAt w F sz xs cs) (hm : ∀ x v, DRel w F x v → DRel w' F' x v) : RowsAt w' F' sz xs cs :=
 ⟨h.1, h.2.1, h.2.2.1, fun i d hd => let ⟨v, hv, hc⟩ := h.2.2.2 i d hd; ⟨v, hm _ _ hv, hc⟩⟩
theorem RowsAt.nil (w F sz) : RowsAt w F sz [] [] := ⟨by simp, by simp, by simp, by simp⟩
theorem vec_of_rowsB {φ w F} {L : Loc} {rows : List D} {pre cs rest : List Value} {sz : Nat} {elem : TypeId} (hsz : L.sz = sz) (hr : RowsAt w F sz rows cs) (hpre : pre.length = L.base) (h0 : ∀ v ∈ pre, cell1 v = true) (h1 : ∀ v ∈ rest, cell1 v = true)
 (hcap : rows.length ≤ L.cap) (hl : (cs ++ rest).length = L.cap * sz) (hh : 0 < L.cap → RowAt w L.blk (pre ++ (cs ++ rest)).toArray elem) : ContRel φ w F L (.vec sz rows) := by
 obtain ⟨a1, a2, a3, a4⟩ := hr
 subst hsz
 refine ⟨rfl, hcap, a3, fun hc => ⟨_, elem, hh hc, by simp only [List.size_toArray, List.length_append] at hl ⊢; omega, ?_, ?_⟩⟩
 · intro v hv
   simp at hv
   rcases hv with hv | hv | hv
   · exact h0 v hv
   · exact a2 v hv
   · exact h1 v hv
 · intro i d hd
   obtain ⟨v, hv, hvc⟩ := a4 i d hd
   refine ⟨v, hv, fun j c hj => ?_⟩
   have hjs := row_lt hv (a3 d (List.mem_of_getElem? hd)) hj
   have hlt : i < rows.length := (List.getElem?_eq_some_iff.1 hd).1
   have : i * L.sz + L.sz ≤ rows.length * L.sz := by rw [← Nat.succ_mul]; exact Nat.mul_le_mul_right _ hlt
   rw [List.getElem?_toArray, List.getElem?_append_right (by omega), hpre, show L.base + i * L.sz + j - L.base = i * L.sz + j by omega, List.getElem?_append_left (by rw [a1]; omega)]
   exact hvc j c hj
theorem vec_of_rows {φ w F} {L : Loc} {rows : List D} {cs rest : List Value} {sz : Nat} {elem : TypeId} (hsz : L.sz = sz) (hb : L.base = 0) (hr : RowsAt w F sz rows cs) (h1 : ∀ v ∈ rest, cell1 v = true)
 (hcap : rows.length ≤ L.cap) (hl : (cs ++ rest).length = L.cap * sz) (hh : 0 < L.cap → RowAt w L.blk (cs ++ rest).toArray elem) : ContRel φ w F L (.vec sz rows) :=
 vec_of_rowsB (pre := []) hsz hr (by simp [hb]) (by simp) h1 hcap hl hh
theorem rows_of_vec {φ w F} {L : Loc} {rows : List D} {sz : Nat} (h : ContRel φ w F L (.vec sz rows)) (hc : 0 < L.cap) : ∃ (arr : Array Value) (elem : TypeId), RowAt w L.blk arr elem ∧ arr.size = L.base + L.cap * sz ∧
 (∀ v ∈ arr, cell1 v = true) ∧ RowsAt w F sz rows ((arr.toList.drop L.base).take (rows.length * sz)) := by
 obtain ⟨hs, hcap, hrs, hrow⟩ := h
 obtain ⟨arr, elem, hh, hsz, h1, hrel⟩ := hrow hc
 subst hs
 refine ⟨arr, elem, hh, hsz, h1, ?_, fun v hv => h1 v (by simpa using List.mem_of_mem_drop (List.mem_of_mem_take hv)), hrs, ?_⟩
 · simp only [List.length_take, List.length_drop, Array.length_toList, hsz]; exact Nat.min_eq_left (by rw [Nat.add_sub_cancel_left]; exact Nat.mul_le_mul_right _ hcap)
 · intro i d hd
   obtain ⟨v, hv, hvc⟩ := hrel i d hd
   refine ⟨v, hv, fun j c hj => ?_⟩
   have hjs := row_lt hv (hrs d (List.mem_of_getElem? hd)) hj
   have hlt : i < rows.length := (List.getElem?_eq_some_iff.1 hd).1
   have : i * L.sz + L.sz ≤ rows.length * L.sz := by rw [← Nat.succ_mul]; exact Nat.mul_le_mul_right _ hlt
   rw [List.getElem?_take, if_pos (by omega), List.getElem?_drop, ← Nat.add_assoc]
   simpa using hvc j c hj
theorem rows_of_list {w F} {xs : List D} {ao : Option Addr} {m cap sz : Nat} (h : DRel w F (.list xs) (.slice ao m cap)) (hs : ∀ d ∈ xs, d.size = sz) :
 m = xs.length ∧ ∃ cs, RowsAt w F sz xs cs ∧ (xs ≠ [] → ∃ b off, ao = some ⟨b, off, none⟩ ∧ b < w.heap.size ∧ ¬ F b ∧ ∀ (j : Nat) v, cs[j]? = some v → w.cell? ⟨b, off + j, none⟩ = some v) := by
 generalize hx : D.list xs = x at h
 generalize hv : Value.slice ao m cap = v at h
 cases h with
 | nil a c =>
  simp at hx hv
  subst hx
  exact ⟨by simp [hv.2.1], [], RowsAt.nil .., fun h => absurd rfl h⟩
 | list ys b off cap' sz' vs hcap hb hF hsz hvr hc =>
  simp at hx hv
  obtain ⟨rfl, rfl, rfl⟩ := hv
  subst hx
  refine ⟨rfl, ?_⟩
  -- the cells, row by row
  have hsz' : xs ≠ [] → sz' = sz := fun hne => by
   cases xs with
   | nil => exact absurd rfl hne
   | cons d r => rw [← hsz d (by simp), hs d (by simp)]
  by_cases hne : xs = []
  · subst hne; exact ⟨[], RowsAt.nil .., fun h => absurd rfl h⟩
  have hsz' := hsz' hne
  subst hsz'
  have hrow : ∀ (i j : Nat), i < xs.length → j < sz' → ∃ c, (vs i).cells[j]? = some c ∧ w.cell? ⟨b, off + (i * sz' + j), none⟩ = some c ∧ cell1 c = true := by
   intro i j hi hj
   have h1 := hvr i xs[i] (by simp [hi])
   have h2 := h1.size
   rw [hs _ (List.getElem_mem hi)] at h2
   have hj' : j < (vs i).cells.size := by omega
   refine ⟨(vs i).cells[j], by simp [hj'], ?_, h1.cells.2.1 _ (by simp)⟩
   have := hc i j _ hi (show (vs i).cells[j]? = some (vs i).cells[j] by simp [hj'])
   rw [← Nat.add_assoc]; exact this
  refine ⟨(List.range (xs.length * sz')).map (fun j => (w.cell? ⟨b, off + j, none⟩).getD undef), ⟨by simp, ?_, hs, ?_⟩, fun _ => ⟨b, off, rfl, hb, hF, ?_⟩⟩
  · intro v hv
    simp only [List.mem_map, List.mem_range] at hv
    obtain ⟨j, hj, rfl⟩ := hv
    have hpos : 0 < sz' := by rcases Nat.eq_zero_or_pos sz' with h0 | h0; simp [h0] at hj; exact h0
    obtain ⟨c, _, h2, h3⟩ := hrow (j / sz') (j % sz') (Nat.div_lt_of_lt_mul (by rw [Nat.mul_comm]; exact hj)) (Nat.mod_lt _ hpos)
    rw [Nat.mul_comm, Nat.div_add_mod] at h2
    simp [h2, h3]
  · intro i d hd
    have hi : i < xs.length := (List.getElem?_eq_some_iff.1 hd).1
    refine ⟨vs i, hvr i d hd, fun j c hj => ?_⟩
    have hjs := row_lt (hvr i d hd) (hs d (List.mem_of_getElem? hd)) hj
    obtain ⟨c', h1, h2, _⟩ := hrow i j hi hjs
    rw [hj] at h1; cases h1
    have : i * sz' + sz' ≤ xs.length * sz' := by rw [← Nat.succ_mul]; exact Nat.mul_le_mul_right _ hi
    simp [h2, show i * sz' + j < xs.length * sz' by omega]
  · intro j v hv
    simp only [List.getElem?_map, Option.map_eq_some_iff] at hv
    obtain ⟨k, hk, rfl⟩ := hv
    have hj : j < xs.length * sz' := by
     rcases Nat.lt_or_ge j (xs.length * sz') with h | h
     · exact h
     · simp [List.getElem?_eq_none (l := List.range (xs.length * sz')) (by simpa using h)] at hk
    simp [hj] at hk
    subst hk
    have hpos : 0 < sz' := by rcases Nat.eq_zero_or_pos sz' with h0 | h0; simp [h0] at hj; exact h0
    obtain ⟨c, _, h2, _⟩ := hrow (j / sz') (j % sz') (Nat.div_lt_of_lt_mul (by rw [Nat.mul_comm]; exact hj)) (Nat.mod_lt _ hpos)
    rw [Nat.mul_comm, Nat.div_add_mod] at h2
    simp [h2]
 | _ => simp at hx
def srcRows (m : Mem) (sz : Nat) : AV → Option (Bool × List D)
 | .d (.list ys) => some (true, ys)
 | .d (.str s) => some (sz = 1, s.map fun b => .int .u8 b.toNat)
 | .lit (.slice none 0 0) => some (true, [])
 | .nn => some (true, [])
 | .vec k ver off len => match Mem.get m k with
  | some ⟨_, v, .vec _ rows⟩ => some (v = ver ∧ off + len ≤ rows.length, (rows.drop off).take len)
  | _ => none
 | _ => none
structure SrcAt (P : Program) (w : World) (F : Nat → Prop) (sz : Nat) (ys : List D) (x : Value) (news : List Value) : Prop where
 len : ∀ w', (Builtin.lenOf x).run P w' = .ok ys.length w'
 firstn : ∀ n, n ≤ ys.length → ∀ w', (∀ b, b < w.heap.size → w'.heap[b]? = w.heap[b]?) → (Builtin.firstCells sz n x).run P w' = .ok (news.take (n * sz)).toArray w'
 rows : RowsAt w F sz ys news
theorem SrcAt.first {P w F sz ys x news} (h : SrcAt P w F sz ys x news) (w' : World) (hw : ∀ b, b < w.heap.size → w'.heap[b]? = w.heap[b]?) : (Builtin.firstCells sz ys.length x).run P w' = .ok news.toArray w' := by
 rw [h.firstn _ (Nat.le_refl _) w' hw, List.take_of_length_le (by rw [h.rows.1]; exact Nat.le_refl _)]
theorem src_ok {P : Program} {S : St} {φ G w} (hm : MemRel φ G S.mem w) {x : AV} {v : Value} (hx : AVRel φ w (Fo G φ S.mem) x v) {c ys} {sz : Nat} (hs : srcRows S.mem sz x = some (c, ys)) (hc : c = true) (hsz : ∀ d ∈ ys, d.size = sz) :
 ∃ news, SrcAt P w (Fo G φ S.mem) sz ys v news := by
 unfold srcRows at hs
 split at hs
 · rename_i ys'
   simp at hs; obtain ⟨_, rfl⟩ := hs
   cases hx with
   | d _ _ h =>
    have hv : ∃ ao m cap, v = .slice ao m cap := by cases h <;> exact ⟨_, _, _, rfl⟩
    obtain ⟨ao, m, cap, rfl⟩ := hv
    obtain ⟨rfl, cs, hr, hne⟩ := rows_of_list h hsz
    refine ⟨cs, ⟨fun w' => by simp [Builtin.lenOf], fun n hn w' hw => ?_, hr⟩⟩
    by_cases hnil : ys' = []
    · subst hnil
      have : cs = [] := List.eq_nil_of_length_eq_zero (by simpa using hr.1)
      subst this
      have hn0 : n = 0 := by simpa using hn
      subst hn0
      cases ao with
      | none => simp [Builtin.firstCells]
      | some a => simp [Builtin.firstCells, loadCells, loadCellsFrom]
    · obtain ⟨b, off, rfl, hb, _, hcell⟩ := hne hnil
      exact run_firstCells_some (P := P) w' sz n ⟨b, off, none⟩ ys'.length cap _ (hr.take n hn |>.1.trans (by simp [hn])) (fun j u hj => by
       rw [add_none, cell?_congr (hw b hb)]
       rw [List.getElem?_take] at hj
       split at hj
       · exact hcell j u hj
       · cases hj)
 · rename_i s
   simp only [Option.some.injEq, Prod.mk.injEq] at hs
   obtain ⟨rfl, rfl⟩ := hs
   simp only [decide_eq_true_eq] at hc
   subst hc
   cases hx with
   | d _ _ h =>
    cases h with
    | str b _ hb =>
     subst hb
     have hsize : b.size = b.data.toList.length := by rw [Array.length_toList]; rfl
     refine ⟨b.data.toList.map fun x => Value.int .u8 x.toNat, ⟨fun w' => by simp only [Builtin.lenOf, List.length_map, ← hsize]; rfl, fun n hn w' _ => ?_, ?_, ?_, ?_, ?_⟩⟩
     · simp only [Builtin.firstCells, Sem.run_pure]
       congr 1
       apply Array.ext'
       simp
     · simp
     · intro v hv; simp only [List.mem_map] at hv; obtain ⟨y, _, rfl⟩ := hv; rfl
     · exact hsz
     · intro i d hd
       simp only [List.getElem?_map, Option.map_eq_some_iff] at hd
       obtain ⟨y, hy, rfl⟩ := hd
       refine ⟨.int .u8 y.toNat, .int _ _, fun j c hj => ?_⟩
       cases j with
       | zero => simp only [Value.cells] at hj; simp at hj; subst hj; simp only [List.getElem?_map, Nat.mul_one, Nat.add_zero, hy]; rfl
       | succ j => simp [Value.cells] at hj
 · simp at hs; obtain ⟨_, rfl⟩ := hs
   cases hx with
   | lit => exact ⟨[], ⟨fun w' => by simp [Builtin.lenOf], fun n _ w' _ => by simp [Builtin.firstCells], RowsAt.nil ..⟩⟩
 · simp at hs; obtain ⟨_, rfl⟩ := hs
   cases hx with
   | nn a cap => exact ⟨[], ⟨fun w' => by simp [Builtin.lenOf], fun n hn w' _ => by
    have hn0 : n = 0 := by simpa using hn
    subst hn0
    simp [Builtin.firstCells, loadCells, loadCellsFrom], RowsAt.nil ..⟩⟩
 · rename_i k ver off len
   split at hs
   · rename_i key v' sz' rows hg
     simp only [Option.some.injEq, Prod.mk.injEq] at hs
     obtain ⟨rfl, rfl⟩ := hs
     simp only [decide_eq_true_eq] at hc
     obtain ⟨rfl, hle⟩ := hc
     obtain ⟨hmem, hk, L, hL, hver, hcr⟩ := hm.get hg
     have hlen : ((rows.drop off).take len).length = len := by simp; omega
     cases hx with
     | vec _ _ _ _ _ L' hL' _ h h1 =>
      rw [hL] at hL'; cases hL'
      obtain ⟨ao, cap, rfl, hlc, hpl⟩ := h hver.symm
      clear h h1
      by_cases hl0 : len = 0
      · subst hl0
        refine ⟨[], ⟨fun w' => by simp [Builtin.lenOf], fun n hn w' _ => ?_, by simpa using RowsAt.nil ..⟩⟩
        have hn0 : n = 0 := by simpa using hn
        subst hn0
        cases ao with
        | none => simp [Builtin.firstCells]
        | some a => simp [Builtin.firstCells, loadCells, loadCellsFrom]
      · obtain ⟨rfl, hcapeq⟩ := hpl (by omega)
        obtain ⟨arr, elem, hh, hasz, ha1, hr⟩ := rows_of_vec hcr (by omega)
        have hss : sz' = sz := by
         have hl1 : 0 < ((rows.drop off).take len).length := by omega
         have h2 := hsz (((rows.drop off).take len)[0]'hl1) (List.getElem_mem hl1)
         have h3 := hr.2.2.1 (((rows.drop off).take len)[0]'hl1) (List.mem_of_mem_drop (List.mem_of_mem_take (List.getElem_mem hl1)))
         rw [← h2, ← h3]
        subst hss
        have hLs : L.sz = sz' := hcr.1
        have hr2 := (hr.drop off).take len (by simp; omega)
        refine ⟨_, ⟨fun w' => by simp [Builtin.lenOf, hlen], fun n hn w' hw => ?_, hr2⟩⟩
        have hb : L.blk < w.heap.size := hh.lt
        exact run_firstCells_some (P := P) w' sz' n ⟨L.blk, L.base + off * L.sz, none⟩ len cap _ ((hr2.take n hn).1.trans (by rw [List.length_take, Nat.min_eq_left hn])) (fun j u hj => by
         rw [add_none, cell?_congr (hw L.blk hb), cell?_rowA hh, hLs]
         rw [List.getElem?_take] at hj
         split at hj
         · rw [List.getElem?_take] at hj
           split at hj
           · rw [List.getElem?_drop, List.getElem?_take] at hj
             split at hj
             · rw [List.getElem?_drop] at hj
               rw [Nat.add_assoc]
               simpa using hj
             · cases hj
           · cases hj
         · cases hj)
   · cases hs
 · cases hs
section
variable {P : Program}
def srcTy (P : Program) (u : TypeId) : Bool :=
 match P.underlying u with
 | some (.slice _) => true
 | some .string => true
 | _ => false
theorem srcTy_run {u : TypeId} (h : srcTy P u = true) : (∃ e, P.underlying u = some (.slice e)) ∨ P.underlying u = some .string := by
 unfold srcTy at h
 split at h
 · rename_i e hd; exact .inl ⟨e, hd⟩
 · rename_i hd; exact .inr hd
 · cases h
structure ASrc (P : Program) (w : World) (F : Nat → Prop) (u : TypeId) (sz : Nat) (z : Value) (ys : List D) (x : Value) (news : List Value) : Prop where
 rows : RowsAt w F sz ys news
 kind : (srcTy P u = true ∧ SrcAt P w F sz ys x news) ∨ ((∃ k, P.underlying u = some (.int k)) ∧ (∃ kk, x = .int kk ys.length) ∧ ys.length ≤ 4611686018427387904 ∧ z.cells.size = sz ∧ news = (Builtin.zeroCells z.cells ys.length).toList)
theorem wrapNs {n : Nat} (h : n ≤ 4611686018427387904) : IntKind.i64.wrap (n : Int) = (n : Int) := IntWalk.i64_in _ (by omega)
theorem zeroCells_none {z : Array Value} {n : Nat} (h : n * z.size = 0) : Builtin.zeroCells z n = #[] := by
 apply Array.eq_empty_of_size_eq_zero
 rw [size_zeroCells]; exact h
theorem run_append_nothing {w : World} {t u ty e : TypeId} {i : TypeInfo} {z : Value} (ht : P.underlying t = some (.slice e)) (hi : P.info? e = some i) (hz : i.zero = some z)
 {ao : Option Addr} {len cap : Nat} {F x news} (hs : ASrc P w F u i.size z [] x news) (hle : len ≤ cap) :
 (Builtin.append_ #[t, u] ty #[.slice ao len cap, x]).run P w = .ok (.slice ao len cap) w := by
 rcases hs.kind with ⟨hu, hs⟩ | ⟨⟨k, hd⟩, ⟨kk, rfl⟩, _, hzs, rfl⟩
 · have hn : news = [] := List.eq_nil_of_length_eq_zero (by simpa using hs.rows.1)
   subst hn
   have hl := hs.len w
   have hf := hs.first w (fun _ _ => rfl)
   simp only [List.length_nil] at hl hf
   rcases srcTy_run hu with ⟨e2, hd⟩ | hd <;> cases ao <;>
    simp [Builtin.append_, run_underlying ht, run_underlying hd, sizeOf, typeInfo, hi, hl, hf, hle, storeCells]
 · have w0 := wrapNs (n := 0) (by omega)
   simp only [Int.ofNat_zero, Int.natCast_zero] at w0
   cases ao <;> simp [Builtin.append_, run_underlying ht, run_underlying hd, sizeOf, typeInfo, hi, w0, asInt, asIntOf, hle, storeCells]
theorem run_append_fits {w : World} {t u ty e : TypeId} {i : TypeInfo} {z : Value} (ht : P.underlying t = some (.slice e)) (hi : P.info? e = some i) (hz : i.zero = some z)
 {g b len cap : Nat} {F ys x news} (hs : ASrc P w F u i.size z ys x news) {cur : Array Value} {e' : TypeId} (hg : RowAt w g cur e')
 (hroom : len + ys.length ≤ cap) (hfit : b + len * i.size + news.length ≤ cur.size) (hbb : ys.length * i.bytes ≤ 140737488355328) :
 (Builtin.append_ #[t, u] ty #[.slice (some ⟨g, b, none⟩) len cap, x]).run P w = .ok (.slice (some ⟨g, b, none⟩) (len + ys.length) cap) (w.setRow g (putCells cur.toList (b + len * i.size) news).toArray) := by
 obtain ⟨fz, hg, hfz⟩ := hg
 have hst := run_storeCells_atR (P := P) g (b + len * i.size) e' fz news 0 cur w hg hfz (by simpa using hfit) (fun x hx => oneCell_of_cell1 (hs.rows.2.1 x hx))
 simp only [Nat.add_zero] at hst
 rw [putCells_eq _ _ _ (by simpa using hfit)]
 rcases hs.kind with ⟨hu, hs⟩ | ⟨⟨k, hd⟩, ⟨kk, rfl⟩, hsm, hzs, rfl⟩
 · have hf := hs.first w (fun _ _ => rfl)
   rcases srcTy_run hu with ⟨e2, hd⟩ | hd <;> simp [Builtin.append_, run_underlying ht, run_underlying hd, sizeOf, typeInfo, hi, hs.len, hroom, hf, add_none, hst]
 · have wn := wrapNs hsm
   have h1 : ¬ ((ys.length : Int) < 0) := by omega
   have h2 : ¬ (281474976710656 < (ys.length : Int) * (i.bytes : Int)) := by
    have : (ys.length : Int) * (i.bytes : Int) = ((ys.length * i.bytes : Nat) : Int) := by simp
    rw [this]; omega
   by_cases h0 : ys.length * i.size = 0
   · have hz0 := zeroCells_none (z := z.cells) (n := ys.length) (by rw [hzs]; exact h0)
     rw [hz0] at hst ⊢
     simp only [Array.toList_empty] at hst
     simp [Builtin.append_, run_underlying ht, run_underlying hd, sizeOf, typeInfo, hi, wn, asInt, asIntOf, h1, h2, h0, hroom, add_none, hst]
   · simp [Builtin.append_, run_underlying ht, run_underlying hd, sizeOf, typeInfo, zeroValue, hi, hz, wn, asInt, asIntOf, h1, h2, h0, hroom, add_none, hst]
theorem run_append_grows {w : World} {t u ty e : TypeId} {i : TypeInfo} {z : Value} (ht : P.underlying t = some (.slice e)) (hi : P.info? e = some i) (hz : i.zero = some z)
 {ao : Option Addr} {len cap : Nat} {F ys x news} (hs : ASrc P w F u i.size z ys x news) (olds : List Value)
 (hold : ∀ w', w'.heap = w.heap → (Builtin.firstCells i.size len (.slice ao len cap)).run P w' = .ok olds.toArray w')
 (hroom : cap < len + ys.length) (h63 : len + ys.length ≤ 9223372036854775807) (hfit : Builtin.nextslicecap (len + ys.length) cap * i.bytes ≤ 281474976710656) (hbb : ys.length * i.bytes ≤ 140737488355328) :
 (Builtin.append_ #[t, u] ty #[.slice ao len cap, x]).run P w =
  .ok (.slice (some ⟨w.heap.size, 0, none⟩) (len + ys.length) (grownCap w (len + ys.length) cap e))
   (w.drew.alloc (.cells (olds.toArray ++ news.toArray ++ Builtin.zeroCells z.cells (grownCap w (len + ys.length) cap e - (len + ys.length))) e)) := by
 have hn : ¬ (len + ys.length ≤ cap) := by omega
 have h63' : ¬ (9223372036854775807 < ((len : Int) + (ys.length : Int))) := by omega
 have h48' : ¬ (281474976710656 < Builtin.nextslicecap (len + ys.length) cap * i.bytes) := by omega
 have hfo := hold w.drew rfl
 rcases hs.kind with ⟨hu, hs⟩ | ⟨⟨k, hd⟩, ⟨kk, rfl⟩, hsm, hzs, rfl⟩
 · have hf := hs.first w.drew (fun _ _ => rfl)
   rcases srcTy_run hu with ⟨e2, hd⟩ | hd <;>
    (simp [Builtin.append_, run_underlying ht, run_underlying hd, sizeOf, typeInfo, zeroValue, hi, hz, hs.len, hn, h63', h48', Question.forced, hf, hfo, run_newRow, grownCap]
     congr 2
     apply Array.ext'
     simp [List.append_assoc])
 · have wn := wrapNs hsm
   have h1 : ¬ ((ys.length : Int) < 0) := by omega
   have h2 : ¬ (281474976710656 < (ys.length : Int) * (i.bytes : Int)) := by
    have : (ys.length : Int) * (i.bytes : Int) = ((ys.length * i.bytes : Nat) : Int) := by simp
    rw [this]; omega
   by_cases h0 : ys.length * i.size = 0
   · have hz0 := zeroCells_none (z := z.cells) (n := ys.length) (by rw [hzs]; exact h0)
     rw [hz0]
     simp [Builtin.append_, run_underlying ht, run_underlying hd, sizeOf, typeInfo, zeroValue, hi, hz, wn, asInt, asIntOf, h1, h2, h0, hn, h63', h48', Question.forced, hfo, run_newRow, grownCap]
   · simp [Builtin.append_, run_underlying ht, run_underlying hd, sizeOf, typeInfo, zeroValue, hi, hz, wn, asInt, asIntOf, h1, h2, h0, hn, h63', h48', Question.forced, hfo, run_newRow, grownCap]
end
theorem zeroCells_one {z : Array Value} {n : Nat} (h : ∀ v ∈ z, cell1 v = true) : ∀ v ∈ Builtin.zeroCells z n, cell1 v = true := by
 intro v hv
 simp only [Builtin.zeroCells, Array.mem_map, Array.mem_range] at hv
 obtain ⟨i, hi, rfl⟩ := hv
 have hpos : 0 < z.size := by
  rcases Nat.eq_zero_or_pos z.size with h0 | h0
  · simp [h0] at hi
  · exact h0
 have hlt : i % z.size < z.size := Nat.mod_lt _ hpos
 rw [getElem!_pos z _ hlt]
 exact h _ (by simp)
theorem tk_int' {P : Program} {t : TypeId} {k} (h : tk P t = .int k) : P.underlying t = some (.int k) := by
 unfold tk at h
 split at h <;> simp_all
def appN (zd : D) : AV → Option (Bool × List D)
 | .d (.int _ n) => some (decide (0 ≤ n) && decide (n ≤ 4611686018427387904), List.replicate n.toNat zd)
 | _ => none
def appS (b : Bool) : Option (Bool × List D) → Option (Bool × List D)
 | some (c, ys) => some (c && b, ys)
 | none => none
def appSrc (P : Program) (m : Mem) (sz : Nat) (zd : D) (u : TypeId) (x : AV) : Option (Bool × List D) :=
 match tk P u with
 | .int _ => appN zd x
 | _ => appS (srcTy P u) (srcRows m sz x)
theorem RowsAt.zeros {w : World} {F : Nat → Prop} {z : Array Value} {sz : Nat} {zd : D} (hz1 : ∀ v ∈ z, cell1 v = true) (hzs : z.size = sz) (hd : zd.size = sz) (hv : ∃ v, DRel w F zd v ∧ v.cells = z) (n : Nat) :
 RowsAt w F sz (List.replicate n zd) (Builtin.zeroCells z n).toList := by
 refine ⟨by simp [size_zeroCells, hzs], fun v hv => zeroCells_one hz1 v (by simpa using hv), fun d hd' => by rw [(List.mem_replicate.1 hd').2]; exact hd, fun i d hi => ?_⟩
 obtain ⟨hi', rfl⟩ := List.getElem?_eq_some_iff.1 hi
 obtain ⟨v, h1, h2⟩ := hv
 refine ⟨v, by simpa using h1, fun j c hj => ?_⟩
 have hj' : j < z.size := by rw [← h2]; exact (Array.getElem?_eq_some_iff.1 hj).1
 simp at hi'
 have hlt : i * sz + j < n * z.size := by
  rw [hzs]
  have : i * sz + sz ≤ n * sz := by rw [← Nat.succ_mul]; exact Nat.mul_le_mul_right _ hi'
  omega
 simp only [Builtin.zeroCells, Array.getElem?_toList, Array.getElem?_map, Array.getElem?_range]
 rw [if_pos hlt]
 simp only [Option.map_some]
 have e : (i * sz + j) % z.size = j := by rw [← hzs, Nat.mul_comm, Nat.mul_add_mod, Nat.mod_eq_of_lt hj']
 rw [e, getElem!_pos z j hj', ← hj, h2]
 simp [hj']
theorem asrc_ok {P : Program} {S : St} {φ G w} (hm : MemRel φ G S.mem w) {u : TypeId} {i : TypeInfo} {z : Value} {zd : D} (hz1 : ∀ v ∈ z.cells, cell1 v = true) (hzs : z.cells.size = i.size) (hzd : zd.size = i.size) (hzv : ∃ v, DRel w (Fo G φ S.mem) zd v ∧ v.cells = z.cells)
 {x : AV} {v : Value} (hx : AVRel φ w (Fo G φ S.mem) x v) {c ys} (hs : appSrc P S.mem i.size zd u x = some (c, ys)) (hc : c = true) (hsz : ∀ d ∈ ys, d.size = i.size) :
 ∃ news, ASrc P w (Fo G φ S.mem) u i.size z ys v news := by
 unfold appSrc at hs
 split at hs
 · rename_i k hk
   unfold appN at hs
   split at hs
   · rename_i kk n
     cases hs
     simp only [Bool.and_eq_true, decide_eq_true_eq] at hc
     cases hx with
     | d _ _ hx =>
      cases hx
      have hn : ((List.replicate n.toNat zd).length : Int) = n := by simp; omega
      refine ⟨_, RowsAt.zeros hz1 hzs hzd hzv n.toNat, .inr ⟨⟨k, tk_int' hk⟩, ⟨kk, by rw [hn]⟩, by simp; omega, hzs, by simp⟩⟩
   · cases hs
 · rename_i hk
   cases hr : srcRows S.mem i.size x with
   | none => rw [hr] at hs; cases hs
   | some y =>
    obtain ⟨c', ys'⟩ := y
    rw [hr] at hs
    cases hs
    simp only [Bool.and_eq_true] at hc
    obtain ⟨news, hn⟩ := src_ok (P := P) hm hx hr hc.1 hsz
    exact ⟨news, hn.rows, .inl ⟨hc.2, hn⟩⟩
def appV (P : Program) (m : Mem) (u : TypeId) (sz by_ : Nat) (zd : D) (s x : AV) : Res :=
 match s, x with
 | .vec k ver off len, .vec kx vx 0 1 => match Mem.get m k, Mem.get m kx with
  | some ⟨_, v, .vv rows none⟩, some ⟨_, v', .box [.lit (.slice none 0 0)]⟩ =>
   .upd (srcTy P u = true ∧ v' = vx ∧ v = ver ∧ sz = 1 ∧ zd.size = 1 ∧ off + len ≤ rows.length ∧ (len + 1) * by_ ≤ 140737488355328 ∧ len + 1 ≤ 4611686018427387904) (.vec k (ver + 1) 0 (len + 1)) ⟨k, ver + 1, .vv ((rows.drop off).take len ++ [[]]) none⟩
  | _, _ => .no
 | _, _ => .no
theorem vrel_app {φ φ' : Phi} {w w' : World} {F F' : Nat → Prop} {L : Loc} {rows : List (List D)} (h : VRel φ w F L rows none) {off len : Nat} (hle : off + len ≤ rows.length)
 (L' : Loc) (hz : L'.sz = 1) (hs : L'.subs = (L.subs.drop off).take len ++ [none]) (hcap : len + 1 ≤ L'.cap) (hb : ∀ b, some b ∈ L.subs → b ≠ L'.blk) {arr' : Array Value} {elem' : TypeId} (hr : RowAt w' L'.blk arr' elem') (hsz : arr'.size = L'.base + L'.cap) (h1 : ∀ v ∈ arr', cell1 v = true)
 (hold : ∀ i, i < len → ∃ (arr : Array Value) (elem : TypeId), 0 < L.cap ∧ RowAt w L.blk arr elem ∧ arr'[L'.base + i]? = arr[L.base + off + i]?) (hnew : arr'[L'.base + len]? = some (.slice none 0 0))
 (hd : ∀ d u, DRel w F d u → DRel w' F' d u) (hw : ∀ b, some b ∈ L.subs → w'.heap[b]? = w.heap[b]?) : VRel φ' w' F' L' ((rows.drop off).take len ++ [[]]) none := by
 obtain ⟨⟨g1, g2, g3⟩, g4, g5, g6⟩ := h
 have hlen : ((rows.drop off).take len).length = len := by simp; omega
 have hlen' : ((L.subs.drop off).take len).length = len := by simp; omega
 have hmem : ∀ b, some b ∈ L'.subs → some b ∈ L.subs := by
  intro b hb
  rw [hs] at hb
  rcases List.mem_append.1 hb with hb | hb
  · exact List.mem_of_mem_drop (List.mem_of_mem_take hb)
  · simp at hb
 have hget : ∀ (i b : Nat), L'.subs[i]? = some (some b) → i < len ∧ L.subs[off + i]? = some (some b) := by
  intro i b hb
  rw [hs] at hb
  by_cases hi : i < len
  · rw [List.getElem?_append_left (by omega), List.getElem?_take, if_pos hi, List.getElem?_drop] at hb
    exact ⟨hi, hb⟩
  · rw [List.getElem?_append_right (by omega), hlen'] at hb
    cases hii : i - len with
    | zero => rw [hii] at hb; simp at hb
    | succ n => rw [hii] at hb; simp at hb
 refine ⟨⟨hz, by simp; omega, by rw [hs]; simp; omega⟩, fun i j b hi hj => ?_, fun b hb' => ⟨by omega, hb b (hmem b hb')⟩, fun _ => ?_⟩
 · have h2 := g4 (off + i) (off + j) b (hget i b hi).2 (hget j b hj).2
   omega
 · refine ⟨arr', elem', hr, hsz, h1, fun i xs o hi ho => ?_, fun x hx => by cases hx⟩
   by_cases hil : i < len
   · rw [List.getElem?_append_left (by omega), List.getElem?_take, if_pos hil, List.getElem?_drop] at hi
     rw [hs, List.getElem?_append_left (by omega), List.getElem?_take, if_pos hil, List.getElem?_drop] at ho
     obtain ⟨arr, elem, hL, hr0, hold⟩ := hold i hil
     obtain ⟨arr0, el0, q1, q2, q3, q4, _⟩ := g6 hL
     have harr : arr0 = arr := by
      obtain ⟨f1, e1, _⟩ := q1
      obtain ⟨f2, e2, _⟩ := hr0
      rw [e1] at e2
      simp only [Option.some.injEq, Obj.cells.injEq] at e2
      exact e2.1
     subst harr
     rw [hold, Nat.add_assoc]
     exact (q4 (off + i) xs o hi ho).mono (fun d u _ hdu => hd d u hdu) (fun b e => hw b (by subst e; exact List.mem_of_getElem? ho))
   · have hi0 : i = len := by
      have := (List.getElem?_eq_some_iff.1 hi).1
      simp only [List.length_append, List.length_singleton, hlen] at this
      omega
     subst hi0
     rw [List.getElem?_append_right (by omega), hlen] at hi
     rw [hs, List.getElem?_append_right (by omega), hlen'] at ho
     simp at hi ho
     subst hi; subst ho
     exact ⟨rfl, none, hnew⟩
theorem appV_ok (P : Program) (S : St) (o : Oper) (s x : Operand) (t u : TypeId) (ho : o.op = .call { callee := .builtin .append, args := #[s, x], argTypes := #[t, u] })
 (hs : (S.opd s).1 = true) (hx : (S.opd x).1 = true) {e : TypeId} (ht : P.underlying t = some (.slice e)) {i : TypeInfo} {z : Value} (hi : P.info? e = some i) (hz : i.zero = some z) {zd : D} (hzsz : z.cells.size = zd.size) (hz1 : ∀ v ∈ z.cells, cell1 v = true) :
 ResOk P S o (appV P S.mem u i.size i.bytes zd (S.opd s).2 (S.opd x).2) := by
 have hrun : ∀ (a : Act) (w w' : World) (v : Value), (Builtin.append_ #[t, u] o.type #[a.eval s, a.eval x]).run P w = .ok v w' → (execOp a.eval o).run P w = .ok (.value v) w' := by
  intro a w w' v h
  simp [execOp, ho, resolve, invoke, builtin, h]
 unfold appV
 split
 · rename_i k ver off len kx vx hsv hxv
   split
   · rename_i key v rows key2 v' hg hgx
     refine ResOk.updI ?_
     rintro ⟨hsrc, rfl, rfl, hi1, hzs, hle, hb, hmax⟩ φ G a w hr
     obtain ⟨hm, hk, L, hL, hver, hcr⟩ := hr.mem.get hg
     simp only at hk hver hcr
     subst hk
     obtain ⟨hmx, hkx, Lx, hLx, hverx, ⟨x1, x2, x3⟩, arrx, elx, hrx, hsx, _, hrelx⟩ := hr.mem.get hgx
     simp only at hkx hverx
     subst hkx
     have hv := hr.opd s hs
     have hxr := hr.opd x hx
     rw [hsv] at hv
     rw [hxv] at hxr
     have hc0 : arrx[0]? = some (.slice none 0 0) := by
      have h0 : 0 < arrx.size := by rw [hsx]; simp
      have := hrelx 0 _ arrx[0] rfl (by simp [h0])
      generalize hq : arrx[0] = q at this
      cases this
      simp [h0, hq]
     generalize hex : a.eval x = xv at hxr
     cases hxr with
     | vec _ _ _ _ _ L' hL' _ h _ =>
      rw [hLx] at hL'; cases hL'
      obtain ⟨aox, capx, rfl, hlcx, hplx⟩ := h hverx.symm
      clear h
      obtain ⟨rfl, _⟩ := hplx (by omega)
      have hsa : ASrc P w (Fo G φ S.mem) u i.size z [.list []] (.slice (some ⟨Lx.blk, Lx.base + 0 * Lx.sz, none⟩) 1 capx) [.slice none 0 0] := by
       have hrows : RowsAt w (Fo G φ S.mem) i.size [.list []] [.slice none 0 0] := by
        refine ⟨by simp [hi1], by simp [cell1], by simp [hi1, D.size], fun n d hn => ?_⟩
        cases n with
        | zero => simp at hn; subst hn; exact ⟨.slice none 0 0, .nil none 0 (fun _ => rfl), fun j c hj => by simpa [Value.cells] using hj⟩
        | succ n => simp at hn
       refine ⟨hrows, .inl ⟨hsrc, fun w' => by simp [Builtin.lenOf], fun n hn w' hw' => ?_, hrows⟩⟩
       refine run_firstCells_some (P := P) w' i.size n _ 1 capx _ (by have : n ≤ 1 := hn; simp [hi1]; omega) (fun j c hj => ?_)
       rw [add_none, cell?_congr (hw' _ hrx.lt), cell?_rowA hrx, x1, x2]
       rw [List.getElem?_take] at hj
       split at hj
       · cases j with
         | zero => simp at hj; subst hj; simpa using hc0
         | succ j => simp at hj
       · cases hj
      generalize hev : a.eval s = sv at hv
      cases hv with
      | vec _ _ _ _ _ L' hL' _ h _ =>
       rw [hL] at hL'; cases hL'
       obtain ⟨ao, cap, rfl, hlc, hpl⟩ := h hver.symm
       clear h
       have hsub0 : ∀ b, some b ∈ L.subs → b < w.heap.size := fun b hb => hr.mem.own_lt ⟨_, hm, L, hL, .inr hb⟩
       have hmemL0 : ∀ b, some b ∈ (L.subs.drop off).take len ++ [none] → some b ∈ L.subs := by
        intro b hb
        rcases List.mem_append.1 hb with hb | hb
        · exact List.mem_of_mem_drop (List.mem_of_mem_take hb)
        · simp at hb
       have grow : ∀ (olds : List Value), olds.length = len → (∀ q ∈ olds, cell1 q = true) → (∀ n, n < len → ∃ (arr : Array Value) (elem : TypeId), 0 < L.cap ∧ RowAt w L.blk arr elem ∧ olds[n]? = arr[L.base + off + n]?) →
        (∀ w', w'.heap = w.heap → (Builtin.firstCells i.size len (.slice ao len cap)).run P w' = .ok olds.toArray w') → cap < len + 1 →
        ∃ vv w' φ', Ran P o a w vv w' ∧ AVRel φ' w' (Fo G φ' (Mem.set S.mem ⟨key, v + 1, .vv ((rows.drop off).take len ++ [[]]) none⟩)) (.vec key (v + 1) 0 (len + 1)) vv ∧
         MemRel φ' G (Mem.set S.mem ⟨key, v + 1, .vv ((rows.drop off).take len ++ [[]]) none⟩) w' ∧ Keeps φ S.mem w φ' (Mem.set S.mem ⟨key, v + 1, .vv ((rows.drop off).take len ++ [[]]) none⟩) w' ∧ ∀ k, k ≠ key → φ' k = φ k := by
        intro olds hol hol1 hold hfirst hroom
        have hge := grownCap_ge w (len + 1) cap e
        have hzs1 : z.cells.size = 1 := by rw [hzsz]; exact hzs
        have hgr := run_append_grows (P := P) (ty := o.type) ht hi hz hsa olds hfirst (by simpa using hroom) (by simp; omega) (growslice_fits (by simpa using hroom) (by simpa using hb)) (by simp; have := Nat.mul_le_mul_right i.bytes (Nat.le_add_left 1 len); omega)
        simp only [List.length_singleton] at hgr
        obtain ⟨φ', hm', hk', hφk, hφo⟩ := hr.mem.freshS (e := ⟨key, v, .vv rows none⟩) hm hL hver w.drew rfl rfl rfl rfl
         (olds.toArray ++ [Value.slice none 0 0].toArray ++ Builtin.zeroCells z.cells (grownCap w (len + 1) cap e - (len + 1))) e (.vv ((rows.drop off).take len ++ [[]]) none)
         ⟨v + 1, w.heap.size, 1, grownCap w (len + 1) cap e, 0, (L.subs.drop off).take len ++ [none]⟩ rfl
         (fun b hb => by
          rcases hb with ⟨_, hb⟩ | hb
          · exact .inr hb
          · exact .inl (.inr (hmemL0 b hb))) (fun φ' hle' hav hdr hnew hold2 => by
         refine vrel_app hcr hle _ rfl rfl (by simp only; omega) (fun b hb => by have := hsub0 b hb; simp only; omega) (.new hnew) ?_ ?_ ?_ ?_ hdr (fun b hb => hold2 b (hsub0 b hb))
         · simp only [Array.size_append, List.size_toArray, hol, List.length_singleton, size_zeroCells, hzs1]; omega
         · intro q hq
           simp only [Array.mem_append] at hq
           rcases hq with (hq | hq) | hq
           · exact hol1 q (by simpa using hq)
           · simp at hq; subst hq; rfl
           · exact zeroCells_one hz1 q hq
         · intro n hn
           obtain ⟨arr, elem, h1, h2, h3⟩ := hold n hn
           refine ⟨arr, elem, h1, h2, ?_⟩
           rw [← h3]
           simp only [Nat.zero_add]
           rw [Array.getElem?_append_left (by simp; omega), Array.getElem?_append_left (by simp; omega), List.getElem?_toArray]
         · simp only [Nat.zero_add]
           rw [Array.getElem?_append_left (by simp; omega), Array.getElem?_append_right (by simp; omega)]
           simp [hol])
        refine ⟨_, _, φ', .inl (hrun a w _ _ (by rw [hev, hex]; exact hgr)), ?_, hm', hk', hφo⟩
        exact .vec key (v + 1) 0 _ _ _ hφk (Nat.le_refl _) (fun _ => ⟨_, _, rfl, hge, fun _ => ⟨by simp, by simp⟩⟩) rfl
       by_cases hcL : 0 < L.cap
       · obtain ⟨arr, elem, hh, hasz, ha1, _, _⟩ := hcr.2.2.2 hcL
         have hsub : ∀ b, some b ∈ L.subs → b ≠ L.blk := fun b hb => (hcr.2.2.1 b hb).2
         have hsubown : ∀ b, some b ∈ L.subs → Cont.owns L (.vv rows none) b := fun b hb => .inr hb
         have hmemL : ∀ b, some b ∈ (L.subs.drop off).take len ++ [none] → some b ∈ L.subs := by
          intro b hb
          rcases List.mem_append.1 hb with hb | hb
          · exact List.mem_of_mem_drop (List.mem_of_mem_take hb)
          · simp at hb
         by_cases hroom : len + [D.list []].length ≤ cap
         · simp only [List.length_singleton] at hroom
           obtain ⟨rfl, hcapeq⟩ := hpl (by omega)
           have hin : L.base + off * L.sz + len * i.size + [Value.slice none 0 0].length ≤ arr.size := by rw [hasz, hcr.1.1, hi1]; simp; omega
           have hrn := run_append_fits (P := P) (ty := o.type) ht hi hz hsa hh (by simpa using hroom) hin (by simp; have := Nat.mul_le_mul_right i.bytes (Nat.le_add_left 1 len); omega)
           have hrn' := hrun a w _ _ (by rw [hev, hex]; exact hrn)
           rw [hcr.1.1, hi1, Nat.mul_one, Nat.mul_one] at hrn' hin
           have hput : L.base + off + len + [Value.slice none 0 0].length ≤ arr.toList.length := by simpa using hin
           obtain ⟨φ', hm', hk', hφk, hφo⟩ := hr.mem.storeL (e := ⟨key, v, .vv rows none⟩) hm hL hver (b0 := L.blk) (.inl ⟨hcL, rfl⟩) (putCells arr.toList (L.base + off + len) [Value.slice none 0 0]).toArray ⟨v + 1, L.blk, 1, L.cap - off, L.base + off, (L.subs.drop off).take len ++ [none]⟩ (Nat.le_succ _) (fun hh => by simp only at hver hh; omega) (.vv ((rows.drop off).take len ++ [[]]) none)
            (fun b hb => by
             rcases hb with ⟨_, hb⟩ | hb
             · exact .inl ⟨hcL, hb⟩
             · exact .inr (hmemL b hb)) (fun φ' hle' hav hdr => by
            refine vrel_app hcr hle _ rfl rfl (by simp only; omega) hsub (hh.setRow _ (by rw [List.size_toArray, putCells_length _ _ _ hput]; simp)) ?_ ?_ ?_ ?_ hdr ?_
            · rw [List.size_toArray, putCells_length _ _ _ hput]
              simp only [Array.length_toList, hasz]; omega
            · intro q hq
              rcases mem_putCells hput (by simpa using hq) with hq | hq
              · exact ha1 q (by simpa using hq)
              · simp at hq; subst hq; rfl
            · intro n hn
              refine ⟨arr, elem, hcL, hh, ?_⟩
              simp only
              rw [List.getElem?_toArray, putCells_get _ _ _ hput, if_pos (by omega)]
              simp
            · simp only
              rw [List.getElem?_toArray, putCells_get _ _ _ hput, if_neg (by omega), if_pos (by simp)]
              simp
            · intro b hb
              exact setRow_other' w L.blk b _ (hsub b hb))
           refine ⟨_, _, φ', .inl hrn', ?_, hm', hk', hφo⟩
           exact .vec key (v + 1) 0 _ _ _ hφk (Nat.le_refl _) (fun _ => ⟨_, _, rfl, by simpa using hroom, fun _ => ⟨by simp, by simp only; omega⟩⟩) rfl
         · have hroom' : cap < len + 1 := by simpa using hroom
           have hcapr := hcr.1.2.1
           simp only [Option.toList_none, List.length_nil, Nat.add_zero] at hcapr
           refine grow ((arr.toList.drop (L.base + off)).take len) (by simp; omega) (fun q hq => ha1 q (by simpa using List.mem_of_mem_drop (List.mem_of_mem_take hq))) (fun n hn => ⟨arr, elem, hcL, hh, ?_⟩) (fun w' hw' => ?_) hroom'
           · rw [List.getElem?_take, if_pos hn, List.getElem?_drop]; simp
           · by_cases hl0 : len = 0
             · subst hl0
               cases ao with
               | none => simp [Builtin.firstCells]
               | some a => simp [Builtin.firstCells, loadCells, loadCellsFrom]
             · obtain ⟨rfl, hcapeq⟩ := hpl (by omega)
               refine run_firstCells_some (P := P) w' i.size len _ len cap _ (by simp [hi1]; omega) (fun j c hj => ?_)
               rw [add_none, cell?_congr (w := w) (w' := w') (by rw [hw']), cell?_rowA hh, hcr.1.1, Nat.mul_one]
               rw [List.getElem?_take] at hj
               split at hj
               · rw [List.getElem?_drop] at hj; simpa using hj
               · cases hj
       · have hcapr := hcr.1.2.1
         simp only [Option.toList_none, List.length_nil, Nat.add_zero] at hcapr
         have hl0 : len = 0 := by omega
         have hcap0 : cap = 0 := by
          rcases Nat.eq_zero_or_pos cap with h0 | h0
          · exact h0
          · have := (hpl h0).2; omega
         subst hl0; subst hcap0
         refine grow [] rfl (by simp) (fun n hn => by omega) (fun w' hw' => ?_) (by omega)
         cases ao with
         | none => simp [Builtin.firstCells]
         | some a => simp [Builtin.firstCells, loadCells, loadCellsFrom]
   · trivial
 · trivial
def appR (P : Program) (m : Mem) (k0 : Nat) (t : TypeId) (u : TypeId) (s x : AV) : Res :=
 match tk P t with
 | .slice e => match tsz P e, tbytes P e, tzeroD P e with
  | some sz, some by_, some zd => match appSrc P m sz zd u x with
   | some (c, ys) => match s with
    | .vec k ver off len => match Mem.get m k with
     | some ⟨_, v, .vec sz' rows⟩ =>   .upd (c ∧ zd.size = sz ∧ v = ver ∧ off + len ≤ rows.length ∧ sz' = sz ∧ (∀ d ∈ ys, d.size = sz) ∧ (len + ys.length) * by_ ≤ 140737488355328 ∧ len + ys.length ≤ 4611686018427387904)
      (.vec k (ver + 1) 0 (len + ys.length)) ⟨k, ver + 1, .vec sz ((rows.drop off).take len ++ ys)⟩
     | _ => .no
    | .lit (.slice none 0 0) => match Mem.get m k0 with
     | some ⟨_, v, _⟩ => .upd (c ∧ zd.size = sz ∧ (∀ d ∈ ys, d.size = sz) ∧ ys.length * by_ ≤ 140737488355328 ∧ ys.length ≤ 4611686018427387904)
      (.vec k0 (v + 1) 0 ys.length) ⟨k0, v + 1, .vec sz ys⟩
     | _ => .no
    | _ => .no
   | none => appV P m u sz by_ zd s x
  | _, _, _ => .no
 | _ => .no
theorem tk_slice {P : Program} {t e : TypeId} (h : tk P t = .slice e) : P.underlying t = some (.slice e) := by
 unfold tk at h
 split at h <;> simp_all
theorem info_of {P : Program} {e : TypeId} {sz by_ : Nat} {zd : D} (h1 : tsz P e = some sz) (h2 : tbytes P e = some by_) (h3 : tzeroD P e = some zd) :
 ∃ i z, P.info? e = some i ∧ i.size = sz ∧ i.bytes = by_ ∧ i.zero = some z ∧ z.cells.size = zd.size ∧ (∀ v ∈ z.cells, cell1 v = true) ∧ ∀ w' F, ∃ v, DRel w' F zd v ∧ v.cells = z.cells := by
 unfold tsz at h1
 unfold tbytes at h2
 cases hi : P.info? e with
 | none => simp [hi] at h1
 | some i =>
  simp [hi] at h1 h2
  obtain ⟨z, hrun, h4, h5, h6⟩ := tzeroD_rel h3 default
  cases hz : i.zero with
  | none => simp [zeroValue, typeInfo, hi, hz, unsupported] at hrun
  | some z' =>
   simp [zeroValue, typeInfo, hi, hz] at hrun
   subst hrun
   exact ⟨i, z', rfl, h1, h2, hz, h4, h5, h6⟩
theorem app_ok (P : Program) (S : St) (o : Oper) (s x : Operand) (t u : TypeId) (ho : o.op = .call { callee := .builtin .append, args := #[s, x], argTypes := #[t, u] })
 (hs : (S.opd s).1 = true) (hx : (S.opd x).1 = true) : ResOk P S o (appR P S.mem (keyOf o) t u (S.opd s).2 (S.opd x).2) := by
 have hrun : ∀ (a : Act) (w w' : World) (v : Value), (Builtin.append_ #[t, u] o.type #[a.eval s, a.eval x]).run P w = .ok v w' → (execOp a.eval o).run P w = .ok (.value v) w' := by
  intro a w w' v h
  simp [execOp, ho, resolve, invoke, builtin, h]
 unfold appR
 split
 · rename_i e hte
   have ht := tk_slice hte
   split
   · rename_i sz by_ zd h1 h2 h3
     obtain ⟨i, z, hi, rfl, rfl, hz, hzsz, hz1, hzd⟩ := info_of h1 h2 h3
     split
     · rename_i c ys hsrc
       -- growth into a new block
       have grow : ∀ {φ G} {a : Act} {w : World} (hr : Rel φ G S a w) {news : List Value} (hsa : ASrc P w (Fo G φ S.mem) u i.size z ys (a.eval x) news) {key ver : Nat} {cont : Cont} (hm : (⟨key, ver, cont⟩ : Ent) ∈ S.mem) {L : Loc} (hL : φ key = some L) (hver : L.ver = ver)
        (ao : Option Addr) (len cap : Nat) (hev : a.eval s = .slice ao len cap) (olds : List Value) (oldr : List D) (hor : RowsAt w (Fo G φ S.mem) i.size oldr olds) (hol : oldr.length = len)
        (hold : ∀ w', w'.heap = w.heap → (Builtin.firstCells i.size len (.slice ao len cap)).run P w' = .ok olds.toArray w')
        (hroom : cap < len + ys.length) (hb : (len + ys.length) * i.bytes ≤ 140737488355328) (hmax : len + ys.length ≤ 4611686018427387904) (hzs0 : zd.size = i.size),
        ∃ v w' φ', Ran P o a w v w' ∧ AVRel φ' w' (Fo G φ' (Mem.set S.mem ⟨key, ver + 1, .vec i.size (oldr ++ ys)⟩)) (.vec key (ver + 1) 0 (len + ys.length)) v ∧
         MemRel φ' G (Mem.set S.mem ⟨key, ver + 1, .vec i.size (oldr ++ ys)⟩) w' ∧ Keeps φ S.mem w φ' (Mem.set S.mem ⟨key, ver + 1, .vec i.size (oldr ++ ys)⟩) w' ∧ ∀ k, k ≠ key → φ' k = φ k := by
        intro φ G a w hr news hsa key ver cont hm L hL hver ao len cap hev olds oldr hor hol hold hroom hb hmax hzs0
        have hge := grownCap_ge w (len + ys.length) cap e
        have hgr := run_append_grows (P := P) (ty := o.type) ht hi hz hsa olds hold hroom (by omega) (growslice_fits hroom hb) (by have := Nat.mul_le_mul_right i.bytes (Nat.le_add_left ys.length len); omega)
        have hrows : RowsAt w (Fo G φ S.mem) i.size (oldr ++ ys) (olds ++ news) := hor.append hsa.rows
        obtain ⟨φ', hm', hk', hφk, hφo⟩ := hr.mem.fresh (e := ⟨key, ver, cont⟩) hm hL hver w.drew rfl rfl rfl rfl
         (olds.toArray ++ news.toArray ++ Builtin.zeroCells z.cells (grownCap w (len + ys.length) cap e - (len + ys.length))) e i.size (grownCap w (len + ys.length) cap e) (.vec i.size (oldr ++ ys)) (fun _ hb => hb.2) (fun φ' hle hav hdr hnew => by
          refine vec_of_rows (cs := olds ++ news) (rest := (Builtin.zeroCells z.cells (grownCap w (len + ys.length) cap e - (len + ys.length))).toList) (elem := e) rfl rfl (hrows.mono hdr) ?_ (by simp; omega) ?_ (fun _ => ?_)
          · intro v hv; exact zeroCells_one hz1 v (by simpa using hv)
          · have hzs : z.cells.size = i.size := by
             rw [hzsz]; exact hzs0
            rw [List.length_append, hrows.1]
            simp only [Array.length_toList, size_zeroCells, hzs, List.length_append, hol, ← Nat.add_mul]
            congr 1; omega
          · refine RowAt.new ?_
            rw [hnew]
            congr 2
            apply Array.ext'
            simp)
        refine ⟨_, _, φ', .inl (hrun a w _ _ (by rw [hev]; exact hgr)), ?_, hm', hk', hφo⟩
        exact .vec key (ver + 1) 0 _ _ _ hφk (Nat.le_refl _) (fun _ => ⟨_, _, rfl, hge, fun _ => ⟨by simp, by simp⟩⟩) rfl
       split
       · rename_i k ver off len hsv
         split
         · rename_i key v sz' rows hg
           refine ResOk.updI ?_
           rintro ⟨hc, hzs0, rfl, hle, rfl, hys, hb, hmax⟩ φ G a w hr
           obtain ⟨hm, hk, L, hL, hver, hcr⟩ := hr.mem.get hg
           simp only at hk
           subst hk
           have hv := hr.opd s hs
           have hxv := hr.opd x hx
           rw [hsv] at hv
           obtain ⟨news, hsa⟩ := asrc_ok (P := P) hr.mem hz1 (by rw [hzsz]; exact hzs0) hzs0 (hzd _ _) hxv hsrc hc hys
           generalize hev : a.eval s = sv at hv
           cases hv with
           | vec _ _ _ _ _ L' hL' _ h _ =>
            rw [hL] at hL'; cases hL'
            obtain ⟨ao, cap, rfl, hlc, hpl⟩ := h hver.symm
            clear h
            have hLs : L.sz = i.size := hcr.1
            have htk : ((rows.drop off).take len).length = len := by simp; omega
            by_cases hroom : len + ys.length ≤ cap
            · by_cases hcap : cap = 0
              · -- nothing onto nothing
                have hy0 : ys = [] := List.eq_nil_of_length_eq_zero (by omega)
                have hl0 : len = 0 := by omega
                subst hy0; subst hl0
                have hrn := run_append_nothing (P := P) (ty := o.type) (ao := ao) ht hi hz hsa hlc
                obtain ⟨φ', hm', hk', hφk, hφo⟩ := hr.mem.upd (e' := ⟨key, v + 1, .vec i.size ((rows.drop off).take 0 ++ [])⟩) hm hL rfl (L' := { L with ver := v + 1 }) (by simp only at hver; simp; omega) (fun hh => by simp only at hver hh; omega) rfl
                 (w' := w) (fun _ _ _ => rfl) (Nat.le_refl _) (fun _ ho => .inl ho) rfl rfl rfl (fun φ' hφ' hle' => by
                  obtain ⟨g1, g2, g3, g4⟩ := hcr
                  refine ⟨g1, by simp, by simp, fun hc => ?_⟩
                  obtain ⟨arr, elem, f1, f2, f3, f4⟩ := g4 hc
                  exact ⟨arr, elem, f1, f2, f3, by simp⟩)
                refine ⟨_, w, φ', .inl (hrun a w w _ (by rw [hev]; exact hrn)), ?_, hm', hk', hφo⟩
                exact .vec key (v + 1) 0 _ _ _ hφk (Nat.le_refl _) (fun _ => ⟨_, _, rfl, by simp, fun h => by omega⟩) rfl
              · obtain ⟨rfl, hcapeq⟩ := hpl (by omega)
                obtain ⟨arr, elem, hh, hasz, ha1, hrw⟩ := rows_of_vec hcr (by omega)
                obtain ⟨B, hB⟩ : ∃ B, B = L.base + off * i.size := ⟨_, rfl⟩
                have hrt := ((hrw.drop off).take len (by simp; omega))
                have htt : (((arr.toList.drop L.base).take (rows.length * i.size)).drop (off * i.size)).take (len * i.size) = (arr.toList.drop B).take (len * i.size) := by
                 have : off * i.size + len * i.size ≤ rows.length * i.size := by rw [← Nat.add_mul]; exact Nat.mul_le_mul_right _ hle
                 rw [List.drop_take, List.take_take, Nat.min_eq_left (by omega), List.drop_drop, hB]
                rw [htt] at hrt
                have hr2 := hrt.append hsa.rows
                have hnl := hsa.rows.1
                have hin0 : len * i.size + news.length ≤ (L.cap - off) * i.size := by
                 rw [hnl, ← Nat.add_mul]; exact Nat.mul_le_mul_right _ (by omega)
                have hcc : off * i.size + (L.cap - off) * i.size = L.cap * i.size := by rw [← Nat.add_mul]; congr 1; omega
                have hin : B + len * i.size + news.length ≤ arr.size := by omega
                rw [hLs, ← hB] at hev
                have hrn := run_append_fits (P := P) (ty := o.type) ht hi hz hsa hh hroom hin (by have := Nat.mul_le_mul_right i.bytes (Nat.le_add_left ys.length len); omega)
                obtain ⟨φ', hm', hk', hφk, hφo⟩ := hr.mem.storeL (e := ⟨key, v, .vec i.size rows⟩) hm hL hver (b0 := L.blk) ⟨by omega, rfl⟩ (putCells arr.toList (B + len * i.size) news).toArray ⟨v + 1, L.blk, L.sz, L.cap - off, B, []⟩ (Nat.le_succ _) (fun hh => by simp only at hver hh; omega) (.vec i.size ((rows.drop off).take len ++ ys)) (fun _ hb => ⟨by omega, hb.2⟩) (fun φ' hle' hav hdr => by
                 refine vec_of_rowsB (pre := arr.toList.take B) (cs := (arr.toList.drop B).take (len * i.size) ++ news) (rest := arr.toList.drop (B + len * i.size + news.length)) (elem := elem) hLs (hr2.mono hdr) ?_ ?_ ?_ (by rw [List.length_append, htk]; simp only; omega) ?_ (fun _ => ?_)
                 · simp only [List.length_take, Array.length_toList]; omega
                 · intro z hz; exact ha1 z (by simpa using List.mem_of_mem_take hz)
                 · intro z hz; exact ha1 z (by simpa using List.mem_of_mem_drop hz)
                 · show _ = (L.cap - off) * i.size
                   simp only [List.length_append, List.length_take, List.length_drop, Array.length_toList]; omega
                 · have e := hh.setRow (putCells arr.toList (B + len * i.size) news).toArray (by show (putCells arr.toList _ _).length = _; rw [putCells_length _ _ _ (by simpa using hin)]; simp)
                   rw [putCells_eq _ _ _ (by simpa using hin), List.take_add] at e
                   rw [putCells_eq _ _ _ (by simpa using hin), List.take_add]
                   simpa [List.append_assoc] using e)
                refine ⟨_, _, φ', .inl (hrun a w _ _ (by rw [hev]; exact hrn)), ?_, hm', hk', hφo⟩
                exact .vec key (v + 1) 0 _ _ _ hφk (Nat.le_refl _) (fun _ => ⟨_, _, rfl, hroom, fun _ => ⟨by simp, by simp only; omega⟩⟩) rfl
            · by_cases hcap : cap = 0
              · subst hcap
                have hl0 : len = 0 := by omega
                subst hl0
                have := grow hr hsa hm hL hver ao 0 0 hev [] [] (RowsAt.nil ..) rfl (fun w' _ => by cases ao <;> simp [Builtin.firstCells, loadCells, loadCellsFrom]) (by omega) hb hmax hzs0
                simpa using this
              · obtain ⟨rfl, hcapeq⟩ := hpl (by omega)
                obtain ⟨arr, elem, hh, hasz, ha1, hrw⟩ := rows_of_vec hcr (by omega)
                have hrt := ((hrw.drop off).take len (by simp; omega))
                exact grow hr hsa hm hL hver _ len cap hev _ ((rows.drop off).take len) hrt htk (fun w' hw' => by
                 refine run_firstCells_some (P := P) w' i.size len _ len cap _ (by rw [hrt.1, htk]) (fun j u hj => ?_)
                 rw [add_none, show w'.cell? ⟨L.blk, L.base + off * L.sz + j, none⟩ = w.cell? ⟨L.blk, L.base + off * L.sz + j, none⟩ by simp [World.cell?, hw'], cell?_rowA hh, hLs]
                 rw [List.getElem?_take] at hj
                 split at hj
                 · rw [List.getElem?_drop, List.getElem?_take] at hj
                   split at hj
                   · rw [List.getElem?_drop] at hj
                     rw [Nat.add_assoc]
                     simpa using hj
                   · cases hj
                 · cases hj) (by omega) hb hmax hzs0
         · trivial
       · rename_i hsv
         split
         · rename_i key v cont hg
           refine ResOk.updI ?_
           rintro ⟨hc, hzs0, hys, hb, hmax⟩ φ G a w hr
           obtain ⟨hm, hk, L, hL, hver, hcr⟩ := hr.mem.get hg
           simp only at hk hver
           subst hk
           have hv := hr.opd s hs
           have hxv := hr.opd x hx
           rw [hsv] at hv
           obtain ⟨news, hsa⟩ := asrc_ok (P := P) hr.mem hz1 (by rw [hzsz]; exact hzs0) hzs0 (hzd _ _) hxv hsrc hc hys
           generalize hev : a.eval s = sv at hv
           cases hv
           by_cases hy0 : ys = []
           · subst hy0
             have hrn := run_append_nothing (P := P) (ty := o.type) (ao := none) (len := 0) (cap := 0) ht hi hz hsa (Nat.le_refl _)
             obtain ⟨φ', hm', hk', hφk, hφo⟩ := hr.mem.upd (e' := ⟨keyOf o, v + 1, .vec i.size []⟩) hm hL rfl (L' := ⟨v + 1, 0, i.size, 0, 0, []⟩) (by simp only; omega) (fun hh => by simp only at hh; omega) rfl
              (w' := w) (fun _ _ _ => rfl) (Nat.le_refl _) (fun _ ho => absurd ho.1 (by simp)) rfl rfl rfl (fun φ' hφ' hle' =>
               ⟨rfl, by simp, by simp, fun hc => by simp at hc⟩)
             refine ⟨_, w, φ', .inl (hrun a w w _ (by rw [hev]; exact hrn)), ?_, hm', hk', hφo⟩
             exact .vec _ (v + 1) 0 _ _ _ hφk (Nat.le_refl _) (fun _ => ⟨_, _, rfl, by simp, fun h => by omega⟩) rfl
           · have hpos : 0 < ys.length := List.length_pos_iff.2 hy0
             have := grow hr hsa hm hL hver none 0 0 hev [] [] (RowsAt.nil ..) rfl (fun w' _ => by simp [Builtin.firstCells]) (by omega) (by simpa using hb) (by simpa using hmax) hzs0
             simpa using this
         · trivial
       · trivial
     · exact appV_ok P S o s x t u ho hs hx ht hi hz hzsz hz1
   · trivial
 · trivial
def makeR (P : Program) (m : Mem) (k0 : Nat) (t : TypeId) (l c : AV) : Res :=
 match tk P t with
 | .slice e => match tsz P e, tbytes P e, tzeroD P e, l, c, Mem.get m k0 with
  | some sz, some by_, some zd, .d (.int .i64 n), .d (.int .i64 n'), some ⟨_, v, _⟩ =>
   .upd (n = n' ∧ 0 ≤ n ∧ n * by_ ≤ 140737488355328 ∧ n ≤ 4611686018427387904 ∧ zd.size = sz) (.vec k0 (v + 1) 0 n.toNat) ⟨k0, v + 1, .vec sz (List.replicate n.toNat zd)⟩
  | _, _, _, _, _, _ => .no
 | _ => .no
theorem wrap_small {n : Int} (h0 : 0 ≤ n) (h : n ≤ 4611686018427387904) : IntKind.i64.wrap n = n := IntWalk.i64_in _ (by omega)
theorem make_cells (z : Array Value) (n sz : Nat) (hz : z.size = sz) (d : D) (hs : d.size = sz) (h1 : ∀ v ∈ z, cell1 v = true) (w : World) (F : Nat → Prop) (hd : ∃ v, DRel w F d v ∧ v.cells = z) :
 RowsAt w F sz (List.replicate n d) ((Array.range (n * sz)).map (z[· % z.size]!)).toList := by
 obtain ⟨v, hv, hvz⟩ := hd
 refine ⟨by simp, ?_, ?_, ?_⟩
 · intro x hx
   simp only [Array.toList_map, List.mem_map] at hx
   obtain ⟨i, hi, rfl⟩ := hx
   have hi : i < n * sz := by simpa using hi
   have hpos : 0 < z.size := by
    rw [hz]; rcases Nat.eq_zero_or_pos sz with h0 | h0
    · simp [h0] at hi
    · exact h0
   rw [getElem!_pos z _ (Nat.mod_lt _ hpos)]
   exact h1 _ (by simp)
 · intro x hx; rw [List.eq_of_mem_replicate hx, hs]
 · intro i x hx
   have hi : i < n := by have := (List.getElem?_eq_some_iff.1 hx).1; simpa using this
   have hxd : x = d := by rw [List.getElem?_replicate] at hx; split at hx <;> simp_all
   subst hxd
   refine ⟨v, hv, fun j c hj => ?_⟩
   have hjs := row_lt hv hs hj
   have hlt : i * sz + j < n * sz := by
    have : i * sz + sz ≤ n * sz := by rw [← Nat.succ_mul]; exact Nat.mul_le_mul_right _ hi
    omega
   rw [hvz] at hj
   have hm : (i * sz + j) % sz = j := by rw [Nat.mul_comm, Nat.mul_add_mod]; exact Nat.mod_eq_of_lt hjs
   simp only [Array.toList_map, List.getElem?_map, Array.toList_range, List.getElem?_range hlt, Option.map_some, hz, hm]
   rw [getElem!_pos z j (by omega)]
   rw [← hj]; simp [show j < z.size by omega]
theorem run_makeSlice {P : Program} {w : World} {t e : TypeId} {i : TypeInfo} {z : Value} {n : Int} (ht : P.underlying t = some (.slice e)) (hi : P.info? e = some i) (hz : i.zero = some z)
 (h0 : 0 ≤ n) (hb : n * i.bytes ≤ 140737488355328) (hn : n ≤ 4611686018427387904) :
 (Instr.makeSlice t (.int .i64 n) (.int .i64 n)).run P w = .ok (.slice (some ⟨w.heap.size, 0, none⟩) n.toNat n.toNat) (w.alloc (.cells ((Array.range (n.toNat * i.size)).map (z.cells[· % z.cells.size]!)) e)) := by
 have hw := wrap_small h0 hn
 have h1 : ¬ n < 0 := by omega
 have h2 : ¬ ((i.bytes : Int) * n > 281474976710656) := by rw [Int.mul_comm]; omega
 have h3 : ¬ (n.toNat * i.bytes > roomBytes) := by
  unfold roomBytes
  have : ((n.toNat * i.bytes : Nat) : Int) = n * i.bytes := by rw [Int.natCast_mul, Int.toNat_of_nonneg h0]
  omega
 by_cases hz0 : n.toNat * i.size = 0
 · have hz0' : n.toNat = 0 ∨ i.size = 0 := Nat.mul_eq_zero.1 hz0
   simp [Instr.makeSlice, run_underlying ht, asInt, asIntOf, typeInfo, sizeOf, hi, hw, h1, h2, askRoom, hz0, run_newRow, show Array.range 0 = #[] from rfl]
 · have hz0' : ¬ (n.toNat = 0 ∨ i.size = 0) := fun h => hz0 (Nat.mul_eq_zero.2 h)
   simp [Instr.makeSlice, run_underlying ht, asInt, asIntOf, typeInfo, sizeOf, zeroValue, hi, hz, hw, h1, h2, askRoom, run_newRow]
   exact fun h => absurd h hz0
theorem make_ok (P : Program) (S : St) (o : Oper) (t : TypeId) (l c : Operand) (ho : o.op = .makeSlice t l c) (hl : (S.opd l).1 = true) (hc : (S.opd c).1 = true) : ResOk P S o (makeR P S.mem (keyOf o) t (S.opd l).2 (S.opd c).2) := by
 unfold makeR
 split
 · rename_i e hte
   have ht := tk_slice hte
   split
   · rename_i sz by_ zd n n' key v cont h1 h2 h3 hlv hcv hg
     refine ResOk.updI ?_
     rintro ⟨rfl, h0, hb, hn, hzs0⟩ φ G a w hr
     obtain ⟨i, z, hi, rfl, rfl, hz, hzsz, hz1, hzd⟩ := info_of h1 h2 h3
     obtain ⟨hm, hk, L, hL, hver, hcr⟩ := hr.mem.get hg
     simp only at hk hver
     subst hk
     have hev := hr.opd l hl
     have hev2 := hr.opd c hc
     rw [hlv] at hev
     rw [hcv] at hev2
     have e1 : a.eval l = .int .i64 n := by
      generalize a.eval l = x at hev
      cases hev with | d _ _ h => cases h; rfl
     have e2 : a.eval c = .int .i64 n := by
      generalize a.eval c = x at hev2
      cases hev2 with | d _ _ h => cases h; rfl
     have hrn := run_makeSlice (P := P) (w := w) ht hi hz h0 hb hn
     obtain ⟨φ', hm', hk', hφk, hφo⟩ := hr.mem.fresh (e := ⟨keyOf o, v, cont⟩) hm hL hver w rfl rfl rfl rfl
      ((Array.range (n.toNat * i.size)).map (z.cells[· % z.cells.size]!)) e i.size n.toNat (.vec i.size (List.replicate n.toNat zd)) (fun _ hb => hb.2) (fun φ' hle hav hdr hnew => by
       refine vec_of_rows (cs := ((Array.range (n.toNat * i.size)).map (z.cells[· % z.cells.size]!)).toList) (rest := []) (elem := e) rfl rfl (make_cells z.cells n.toNat i.size (by rw [hzsz, hzs0]) zd hzs0 hz1 _ _ (hzd _ _)) (by simp) (by simp) (by simp) (fun _ => ?_)
       refine RowAt.new ?_
       rw [hnew, List.append_nil, Array.toArray_toList])
     refine ⟨.slice (some ⟨w.heap.size, 0, none⟩) n.toNat n.toNat, _, φ', .inl ?_, ?_, hm', hk', hφo⟩
     · simp [execOp, ho, e1, e2, hrn]
     · exact .vec _ (v + 1) 0 _ _ _ hφk (Nat.le_refl _) (fun _ => ⟨_, _, rfl, Nat.le_refl _, fun _ => ⟨by simp, by simp⟩⟩) rfl
   · trivial
 · trivial
def copyR (P : Program) (m : Mem) (t : TypeId) (s x : AV) : Res :=
 match tk P t with
 | .slice e => match tsz P e with
  | some sz => match srcRows m sz x with
   | some (c, ys) => match s with
    | .vec k ver off len => match Mem.get m k with
     | some ⟨_, v, .vec sz' rows⟩ => .upd (c ∧ v = ver ∧ off + len ≤ rows.length ∧ sz' = sz ∧ (∀ d ∈ ys, d.size = sz))
      (.d (.int .i64 (min ys.length len : Nat))) ⟨k, ver, .vec sz (putCells rows off (ys.take len))⟩
     | _ => .no
    | _ => .no
   | none => .no
  | none => .no
 | _ => .no
theorem putCells_set_rows {w F sz} {rows ys : List D} {cs news : List Value} {off : Nat} (h : RowsAt w F sz rows cs) (h' : RowsAt w F sz ys news) (hle : off + ys.length ≤ rows.length) :
 RowsAt w F sz (putCells rows off ys) (putCells cs (off * sz) news) := by
 have hle' : off * sz + news.length ≤ cs.length := by rw [h.1, h'.1, ← Nat.add_mul]; exact Nat.mul_le_mul_right _ hle
 rw [putCells_eq _ _ _ hle, putCells_eq _ _ _ hle']
 have := ((h.take off (by omega)).append h').append (h.drop (off + ys.length))
 rw [Nat.add_mul, ← h'.1] at this
 exact this
theorem putCells_part {α : Type} {cs news : List α} {o n : Nat} (h : o + news.length ≤ n) (hn : n ≤ cs.length) : putCells (cs.take n) o news ++ cs.drop n = putCells cs o news := by
 rw [putCells_eq _ _ _ (by simp; omega), putCells_eq _ _ _ (by omega), List.take_take, Nat.min_eq_left (by omega), List.append_assoc (List.take _ _ ++ _)]
 congr 1
 rw [List.drop_take]
 have e2 : cs.drop n = (cs.drop (o + news.length)).drop (n - (o + news.length)) := by rw [List.drop_drop]; congr 1; omega
 rw [e2, List.take_append_drop]
theorem run_copy {P : Program} {w w' : World} {t u ty e : TypeId} {sz : Nat} (ht : P.underlying t = some (.slice e)) (h1 : tsz P e = some sz) {ao : Option Addr} {len cap : Nat} {x : Value} {m : Nat} {news : List Value}
 (hlen : (Builtin.lenOf x).run P w = .ok m w) (hfi : (Builtin.firstCells sz (min m len) x).run P w = .ok news.toArray w)
 (hst : (match ao with | some a => storeCells a news | none => pure ()).run P w = .ok () w') :
 (Builtin.copy_ #[t, u] ty #[.slice ao len cap, x]).run P w = .ok (.int .i64 (min m len : Nat)) w' := by
 have hm : Nat.min m len = min m len := rfl
 cases ao with
 | none =>
  simp only [Sem.run_pure, Result.ok.injEq, true_and] at hst
  subst hst
  simp [Builtin.copy_, run_underlying ht, hlen, hm, run_sizeOf h1, hfi, goInt]
 | some a =>
  simp only at hst
  simp [Builtin.copy_, run_underlying ht, hlen, hm, run_sizeOf h1, hfi, hst, goInt]
theorem copy_ok (P : Program) (S : St) (o : Oper) (s x : Operand) (t u : TypeId) (ho : o.op = .call { callee := .builtin .copy, args := #[s, x], argTypes := #[t, u] })
 (hs : (S.opd s).1 = true) (hx : (S.opd x).1 = true) : ResOk P S o (copyR P S.mem t (S.opd s).2 (S.opd x).2) := by
 unfold copyR
 split
 · rename_i e hte
   have ht := tk_slice hte
   split
   · rename_i sz h1
     split
     · rename_i c ys hsrc
       split
       · rename_i k ver off len hsv
         split
         · rename_i key v sz' rows hg
           refine ResOk.updI ?_
           rintro ⟨hc, rfl, hle, rfl, hys⟩ φ G a w hr
           obtain ⟨hm, hk, L, hL, hver, hcr⟩ := hr.mem.get hg
           simp only at hk
           subst hk
           have hv := hr.opd s hs
           have hxv := hr.opd x hx
           rw [hsv] at hv
           obtain ⟨news, hsa⟩ := src_ok (P := P) hr.mem hxv hsrc hc hys
           generalize hev : a.eval s = sv at hv
           cases hv with
           | vec _ _ _ _ _ L' hL' _ h _ =>
            rw [hL] at hL'; cases hL'
            obtain ⟨ao, cap, rfl, hlc, hpl⟩ := h hver.symm
            clear h
            have hLs : L.sz = sz' := hcr.1
            have hmin : min ys.length len ≤ ys.length := Nat.min_le_left _ _
            have hfi := hsa.firstn (min ys.length len) hmin w (fun _ _ => rfl)
            have htl : (ys.take len).length = min ys.length len := by rw [List.length_take, Nat.min_comm]
            by_cases hl0 : len = 0
            · subst hl0
              obtain ⟨φ', hm', hk', hφk, hφo⟩ := hr.mem.upd (e' := ⟨key, v, .vec sz' (putCells rows off (ys.take 0))⟩) hm hL rfl (L' := L) (Nat.le_refl _) (fun _ => rfl) hver
               (w' := w) (fun _ _ _ => rfl) (Nat.le_refl _) (fun _ ho => .inl ho) rfl rfl rfl (fun φ' hφ' hle' => by
                have e : putCells rows off (ys.take 0) = rows := by rw [putCells_eq _ _ _ (by simp; omega)]; simp
                rw [e]
                refine hcr.mono hle' (fun _ _ _ => rfl) (Nat.le_refl _) (fun b hb => ?_) (fun _ _ => rfl)
                rintro (hG | ⟨y, hy, Ly, hLy, hoy⟩)
                · exact .inl hG
                · right
                  rcases (Mem.mem_set hr.mem.nodup).1 hy with ⟨rfl, _⟩ | ⟨hym, hne⟩
                  · subst hφ'; simp at hLy; subst hLy; exact ⟨_, hm, L, hL, hoy⟩
                  · subst hφ'; simp at hne; simp [hne] at hLy; exact ⟨y, hym, Ly, hLy, hoy⟩)
              refine ⟨_, w, φ', .inl ?_, .d _ _ (.int _ _), hm', hk', hφo⟩
              have hn0 : news.take (min ys.length 0 * sz') = [] := by simp
              rw [hn0] at hfi
              have := run_copy (P := P) (ty := o.type) (u := u) (ao := ao) (len := 0) (cap := cap) ht h1 (hsa.len w) hfi (w' := w) (by cases ao <;> simp [storeCells])
              simp [execOp, ho, resolve, invoke, builtin, hev, this]
            · obtain ⟨rfl, hcapeq⟩ := hpl (by omega)
              obtain ⟨arr, elem, hh, hasz, ha1, hrw⟩ := rows_of_vec hcr (by omega)
              have hnr : RowsAt w (Fo G φ S.mem) sz' (ys.take len) (news.take (min ys.length len * sz')) := by
               have := hsa.rows.take (min ys.length len) hmin
               have e : ys.take (min ys.length len) = ys.take len := by
                rcases Nat.le_total ys.length len with h | h
                · rw [Nat.min_eq_left h, List.take_of_length_le (Nat.le_refl _), List.take_of_length_le h]
                · rw [Nat.min_eq_right h]
               rw [e] at this; exact this
              have hpl' : off + (ys.take len).length ≤ rows.length := by rw [htl]; omega
              have hput := putCells_set_rows hrw hnr hpl'
              have hnl := hnr.1
              rw [htl] at hnl
              have hc0 : (off + min ys.length len) * sz' ≤ rows.length * sz' := Nat.mul_le_mul_right _ (by omega)
              have hc1 : rows.length * sz' ≤ L.cap * sz' := Nat.mul_le_mul_right _ hcr.2.1
              have hfit : L.base + off * sz' + (news.take (min ys.length len * sz')).length ≤ arr.toList.length := by
               rw [Nat.add_mul] at hc0
               rw [hnl]; simp only [Array.length_toList]; omega
              have ⟨fz, hh0, hfz⟩ := hh
              have hst := run_storeCells_atR (P := P) L.blk (L.base + off * sz') elem fz (news.take (min ys.length len * sz')) 0 arr w hh0 hfz (by simpa using hfit) (fun x hx => oneCell_of_cell1 (hnr.2.1 x hx))
              simp only [Nat.add_zero] at hst
              rw [← putCells_eq _ _ _ hfit] at hst
              have hsplit : arr.toList.take L.base ++ (putCells ((arr.toList.drop L.base).take (rows.length * sz')) (off * sz') (news.take (min ys.length len * sz')) ++ (arr.toList.drop L.base).drop (rows.length * sz')) = putCells arr.toList (L.base + off * sz') (news.take (min ys.length len * sz')) := by
               rw [putCells_part (by rw [hnl, ← Nat.add_mul]; exact hc0) (by simp only [List.length_drop, Array.length_toList]; omega)]
               rw [putCells_eq _ _ _ (by rw [hnl]; rw [Nat.add_mul] at hc0; simp only [List.length_drop, Array.length_toList]; omega), putCells_eq _ _ _ hfit, List.drop_drop, List.take_add]
               simp only [List.append_assoc, Nat.add_assoc]
              obtain ⟨φ', hm', hk', hφk, hφo⟩ := hr.mem.store (e := ⟨key, v, .vec sz' rows⟩) hm hL hver (b0 := L.blk) ⟨by omega, rfl⟩ (putCells arr.toList (L.base + off * sz') (news.take (min ys.length len * sz'))).toArray v (Nat.le_refl _) (.vec sz' (putCells rows off (ys.take len))) (fun _ hb => hb) (fun φ' hle' hav hdr => by
               refine vec_of_rowsB (pre := arr.toList.take L.base) (cs := putCells ((arr.toList.drop L.base).take (rows.length * sz')) (off * sz') (news.take (min ys.length len * sz'))) (rest := (arr.toList.drop L.base).drop (rows.length * sz')) (elem := elem) hLs (hput.mono hdr) ?_ ?_ ?_ ?_ ?_ (fun _ => ?_)
               · simp only [List.length_take, Array.length_toList]; omega
               · intro z hz; exact ha1 z (by simpa using List.mem_of_mem_take hz)
               · intro z hz; exact ha1 z (by simpa using List.mem_of_mem_drop (List.mem_of_mem_drop hz))
               · rw [putCells_length _ _ _ hpl']; exact hcr.2.1
               · show _ = L.cap * sz'
                 rw [List.length_append, putCells_length _ _ _ (by rw [hnl, ← Nat.add_mul]; simp only [List.length_take, List.length_drop, Array.length_toList]; omega), ← List.length_append, List.take_append_drop]
                 simp only [List.length_drop, Array.length_toList]; omega
               · rw [hsplit]; exact hh.setRow _ (by show (putCells arr.toList _ _).length = _; rw [putCells_length _ _ _ hfit]; simp))
              refine ⟨_, _, φ', .inl ?_, .d _ _ (.int _ _), hm', hk', hφo⟩
              have := run_copy (P := P) (ty := o.type) (u := u) (ao := some ⟨L.blk, L.base + off * L.sz, none⟩) (len := len) (cap := cap) ht h1 (hsa.len w) hfi (by rw [hLs]; exact hst)
              simp [execOp, ho, resolve, invoke, builtin, hev, this]
         · trivial
       · trivial
     · trivial
   · trivial
 · trivial
theorem run_fieldAt {P : Program} {s : TypeId} {f n b o : Nat} {w : World} (h : foff P s f = some n) : (Instr.fieldAt s (.pointer (some ⟨b, o, none⟩)) f).run P w = .ok (.pointer (some ⟨b, o + n, none⟩)) w := by
 unfold foff at h
 split at h
 · rename_i fs hu
   split at h
   · rename_i fl hf
     split at h
     · rename_i i hi
       split at h
       · cases h
       · rename_i hz
         simp at h
         subst h
         have hs : (sizeOf fl.type).run P w = .ok i.size w := run_sizeOf (by simp [tsz, hi])
         simp [Instr.fieldAt, run_underlying hu, hf, Instr.sureAddr, fieldPlace, hs, hz, add_none]
     · cases h
   · cases h
 · cases h
def fieldRm (P : Program) (m : Mem) (s : TypeId) (f : Nat) (p : AV) : Res :=
 match foff P s f with
 | some n => match p with
  | .ptr k ver off => match Mem.get m k with
   | some ⟨_, v, _⟩ => .val (v = ver) (.ptr k ver (off + n))
   | none => .no
  | .eptr k ver i j => match Mem.get m k with
   | some ⟨_, v, _⟩ => .val (v = ver) (.eptr k ver i (j + n))
   | none => .no
  | .rptr x j => .val True (.rptr x (j + n))
  | _ => .no
 | none => .no
theorem field_ok (P : Program) (S : St) (o : Oper) (s : TypeId) (x : Operand) (f : Nat) (ho : o.op = .fieldAddr s x f) (hx : (S.opd x).1 = true) : ResOk P S o (fieldRm P S.mem s f (S.opd x).2) := by
 unfold fieldRm
 split
 · rename_i n hn
   split
   · rename_i k ver off hp
     split
     · rename_i key v cont hg
       refine ResOk.pure ?_
       rintro rfl φ G a w hr
       have hv := hr.opd x hx
       rw [hp] at hv
       obtain ⟨hm, hk, L, hL, hver, _⟩ := hr.mem.get hg
       simp only at hver
       have e := hv.ptr_eq hL hver
       refine ⟨.pointer (some ⟨L.blk, off + n, none⟩), by simp [execOp, ho, e, run_fieldAt hn], .ptr k v _ _ L hL (by omega) (fun _ => rfl) rfl⟩
     · trivial
   · rename_i k ver i j hp
     split
     · rename_i key v cont hg
       refine ResOk.pure ?_
       rintro rfl φ G a w hr
       have hv := hr.opd x hx
       rw [hp] at hv
       obtain ⟨hm, hk, L, hL, hver, _⟩ := hr.mem.get hg
       simp only at hver
       have e := hv.eptr_eq hL hver
       refine ⟨.pointer (some ⟨L.blk, L.base + i * L.sz + j + n, none⟩), by simp [execOp, ho, e, run_fieldAt hn], .eptr k v _ _ _ L hL (by omega) (fun _ => by rw [Nat.add_assoc]) rfl⟩
     · trivial
   · rename_i d j hp
     refine ResOk.pure ?_
     rintro _ φ G a w hr
     have hv := hr.opd x hx
     rw [hp] at hv
     generalize hav : a.eval x = av at hv
     cases hv with
     | rptr _ _ b off x' hb hF hxr hc =>
      refine ⟨.pointer (some ⟨b, off + (j + n), none⟩), by simp [execOp, ho, hav, run_fieldAt hn, Nat.add_assoc], .rptr d (j + n) b off x' hb hF hxr hc⟩
   · trivial
 · trivial
def nilCheckR (m : Mem) (p : AV) : Res :=
 match p with
 | .ptr k ver off => match Mem.get m k with
  | some ⟨_, v, _⟩ => .val (v = ver) (.ptr k ver off)
  | none => .no
 | .eptr k ver i j => match Mem.get m k with
  | some ⟨_, v, _⟩ => .val (v = ver) (.eptr k ver i j)
  | none => .no
 | .rptr x j => .val True (.rptr x j)
 | _ => .no
theorem nilCheck_ok (P : Program) (S : St) (o : Oper) (x : Operand) (ho : o.op = .nilCheck x) (hx : (S.opd x).1 = true) : ResOk P S o (nilCheckR S.mem (S.opd x).2) := by
 unfold nilCheckR
 split
 · rename_i k ver off hp
   split
   · rename_i key v cont hg
     refine ResOk.pure ?_
     rintro rfl φ G a w hr
     have hv := hr.opd x hx
     rw [hp] at hv
     obtain ⟨hm, hk, L, hL, hver, _⟩ := hr.mem.get hg
     simp only at hver
     have e := hv.ptr_eq hL hver
     exact ⟨_, by simp only [execOp, ho, e]; rfl, .ptr k v _ _ L hL (by omega) (fun _ => rfl) rfl⟩
   · trivial
 · rename_i k ver i j hp
   split
   · rename_i key v cont hg
     refine ResOk.pure ?_
     rintro rfl φ G a w hr
     have hv := hr.opd x hx
     rw [hp] at hv
     obtain ⟨hm, hk, L, hL, hver, _⟩ := hr.mem.get hg
     simp only at hver
     have e := hv.eptr_eq hL hver
     exact ⟨_, by simp only [execOp, ho, e]; rfl, .eptr k v _ _ _ L hL (by omega) (fun _ => rfl) rfl⟩
   · trivial
 · rename_i d j hp
   refine ResOk.pure ?_
   rintro _ φ G a w hr
   have hv := hr.opd x hx
   rw [hp] at hv
   generalize hav : a.eval x = av at hv
   cases hv with
   | rptr _ _ b off x' hb hF hxr hc =>
    exact ⟨.pointer (some ⟨b, off + j, none⟩), by simp only [execOp, ho, hav]; rfl, .rptr d j b off x' hb hF hxr hc⟩
 · trivial
theorem int_of {φ w F k n v} (h : AVRel φ w F (.d (.int k n)) v) : v = .int k n := by cases h with | d _ _ h => cases h; rfl
theorem bool_of {φ w F b v} (h : AVRel φ w F (.d (.bool b)) v) : v = .bool b := by cases h with | d _ _ h => cases h; rfl
theorem str_of {φ w F s v} (h : AVRel φ w F (.d (.str s)) v) : ∃ b : ByteArray, v = .string b ∧ b.data.toList = s := by cases h with | d _ _ h => cases h with | str b _ h => exact ⟨b, rfl, h⟩
theorem tk_arr {P : Program} {t : TypeId} {n e} (h : tk P t = .arr n e) : P.underlying t = some (.array n e) := by
 unfold tk at h
 split at h <;> simp_all
theorem tk_str {P : Program} {t : TypeId} (h : tk P t = .str) : P.underlying t = some .string := by
 unfold tk at h
 split at h <;> simp_all
theorem tk_bool {P : Program} {t : TypeId} (h : tk P t = .bool) : P.underlying t = some .bool := by
 unfold tk at h
 split at h <;> simp_all
theorem tk_int {P : Program} {t : TypeId} {k} (h : tk P t = .int k) : P.underlying t = some (.int k) := by
 unfold tk at h
 split at h <;> simp_all
def indexR (P : Program) (m : Mem) (t : TypeId) (p i : AV) : Res :=
 match i with
 | .d (.int _ n) => match tk P t with
  | .slice e => match tsz P e with
   | some sz => match p with
    | .d (.list xs) => .val (0 ≤ n ∧ n.toNat < xs.length ∧ (D.at xs n.toNat).size = sz) (.rptr (D.at xs n.toNat) 0)
    | .vec k ver off len => match Mem.get m k with
     | some ⟨_, v, .vec sz' _⟩ => .val (v = ver ∧ 0 ≤ n ∧ n.toNat < len ∧ sz' = sz) (.eptr k ver (off + n.toNat) 0)
     | some ⟨_, v, .vv _ _⟩ => .val (v = ver ∧ 0 ≤ n ∧ n.toNat < len ∧ sz = 1) (.eptr k ver (off + n.toNat) 0)
     | _ => .no
    | _ => .no
   | none => .no
  | .arr len e => match tsz P e with
   | some sz => match p with
    | .ptr k ver off => match Mem.get m k with
     | some ⟨_, v, _⟩ => .val (v = ver ∧ 0 ≤ n ∧ n.toNat < len) (.ptr k ver (off + n.toNat * sz))
     | none => .no
    | .eptr k ver i j => match Mem.get m k with
     | some ⟨_, v, .vec sz' _⟩ => if sz' = 1 ∧ sz = 1 ∧ j = 0 then .val (v = ver ∧ 0 ≤ n ∧ n.toNat < len) (.eptr k ver (i + n.toNat) 0) else .val (v = ver ∧ 0 ≤ n ∧ n.toNat < len) (.eptr k ver i (j + n.toNat * sz))
     | some ⟨_, v, _⟩ => .val (v = ver ∧ 0 ≤ n ∧ n.toNat < len) (.eptr k ver i (j + n.toNat * sz))
     | none => .no
    | .rptr x j => .val (0 ≤ n ∧ n.toNat < len) (.rptr x (j + n.toNat * sz))
    | _ => .no
   | none => .no
  | _ => .no
 | _ => .no
theorem run_indexSlice {P : Program} {t e : TypeId} {sz b o len cap : Nat} {k : IntKind} {n : Int} {w : World} (ht : P.underlying t = some (.slice e)) (hs : tsz P e = some sz) (h0 : 0 ≤ n) (hl : n.toNat < len) :
 (Instr.indexAt t (.slice (some ⟨b, o, none⟩) len cap) (.int k n)).run P w = .ok (.pointer (some ⟨b, o + n.toNat * sz, none⟩)) w := by
 have hn : n < (len : Int) := by omega
 simp [Instr.indexAt, asIntOf, run_underlying ht, run_sizeOf hs, h0, hn, add_none]
theorem run_indexArr {P : Program} {t e : TypeId} {sz b o len : Nat} {k : IntKind} {n : Int} {w : World} (ht : P.underlying t = some (.array len e)) (hs : tsz P e = some sz) (h0 : 0 ≤ n) (hl : n.toNat < len) :
 (Instr.indexAt t (.pointer (some ⟨b, o, none⟩)) (.int k n)).run P w = .ok (.pointer (some ⟨b, o + n.toNat * sz, none⟩)) w := by
 have hn : n < (len : Int) := by omega
 simp [Instr.indexAt, Instr.sureAddr, asIntOf, run_underlying ht, run_sizeOf hs, h0, hn, add_none]
theorem list_at {w F xs b off cap len} (h : DRel w F (.list xs) (.slice (some ⟨b, off, none⟩) len cap)) {i sz : Nat} (hi : i < xs.length) (hs : (D.at xs i).size = sz) :
 len = xs.length ∧ b < w.heap.size ∧ ¬ F b ∧ ∃ v, DRel w F (D.at xs i) v ∧ ∀ (j : Nat) c, v.cells[j]? = some c → w.cell? ⟨b, off + i * sz + j, none⟩ = some c := by
 generalize hx : D.list xs = x at h
 generalize hv : Value.slice (some ⟨b, off, none⟩) len cap = v at h
 cases h with
 | nil a c => simp at hx; subst hx; simp at hi
 | list ys b' off' cap' sz' vs hcap hb hF hsz hvr hc =>
  simp at hx hv
  obtain ⟨⟨rfl, rfl⟩, rfl, rfl⟩ := hv
  subst hx
  have : sz' = sz := by rw [← hs, hsz _ (List.mem_of_getElem? (getD_at hi))]
  subst this
  exact ⟨rfl, hb, hF, vs i, hvr i _ (getD_at hi), fun j c hj => hc i j c hi hj⟩
 | _ => simp at hx
theorem list_addr {w F xs v} (h : DRel w F (.list xs) v) (hne : xs ≠ []) : ∃ b off cap, v = .slice (some ⟨b, off, none⟩) xs.length cap := by
 cases h with
 | nil a c => exact absurd rfl hne
 | list b off cap sz vs => exact ⟨_, _, _, rfl⟩
theorem index_ok (P : Program) (S : St) (o : Oper) (t : TypeId) (x i : Operand) (ho : o.op = .indexAddr t x i) (hx : (S.opd x).1 = true) (hi : (S.opd i).1 = true) : ResOk P S o (indexR P S.mem t (S.opd x).2 (S.opd i).2) := by
 unfold indexR
 split
 · rename_i kk n hiv
   have hie : ∀ {φ G a w}, Rel φ G S a w → a.eval i = .int kk n := fun hr => by
    have := hr.opd i hi
    rw [hiv] at this
    exact int_of this
   split
   · rename_i e hte
     have ht := tk_slice hte
     split
     · rename_i sz hs
       split
       · rename_i xs hp
         refine ResOk.pure ?_
         rintro ⟨h0, hl, hsz⟩ φ G a w hr
         have hv := hr.opd x hx
         rw [hp] at hv
         generalize hav : a.eval x = av at hv
         cases hv with
         | d _ _ h =>
          obtain ⟨b, off, cap, rfl⟩ := list_addr h (by intro hh; subst hh; simp at hl)
          obtain ⟨_, hb, hF, v, hv, hc⟩ := list_at h hl hsz
          refine ⟨_, by simp only [execOp, ho, hav, hie hr, Sem.run_bind, run_indexSlice ht hs h0 hl]; rfl, ?_⟩
          exact .rptr (D.at xs n.toNat) 0 b (off + n.toNat * sz) v hb hF hv hc
       · rename_i k ver off len hp
         split
         · rename_i key v sz' rows hg
           refine ResOk.pure ?_
           rintro ⟨rfl, h0, hl, rfl⟩ φ G a w hr
           have hv := hr.opd x hx
           rw [hp] at hv
           obtain ⟨hm, hk, L, hL, hver, hcr⟩ := hr.mem.get hg
           simp only at hver
           generalize hav : a.eval x = av at hv
           cases hv with
           | vec _ _ _ _ _ L' hL' _ h _ =>
            rw [hL] at hL'; cases hL'
            obtain ⟨ao, cap, rfl, hlc, hpl⟩ := h hver.symm
            clear h
            obtain ⟨rfl, hcapeq⟩ := hpl (by omega)
            refine ⟨_, by simp only [execOp, ho, hav, hie hr, Sem.run_bind, run_indexSlice ht hs h0 hl]; rfl, ?_⟩
            exact .eptr k v _ 0 _ L hL (by omega) (fun _ => by rw [hcr.1, Nat.add_mul, Nat.add_zero, Nat.add_assoc]) rfl
         · rename_i key v rows y hg
           refine ResOk.pure ?_
           rintro ⟨rfl, h0, hl, rfl⟩ φ G a w hr
           have hv := hr.opd x hx
           rw [hp] at hv
           obtain ⟨hm, hk, L, hL, hver, hcr⟩ := hr.mem.get hg
           simp only at hver
           generalize hav : a.eval x = av at hv
           cases hv with
           | vec _ _ _ _ _ L' hL' _ h _ =>
            rw [hL] at hL'; cases hL'
            obtain ⟨ao, cap, rfl, hlc, hpl⟩ := h hver.symm
            clear h
            obtain ⟨rfl, hcapeq⟩ := hpl (by omega)
            refine ⟨_, by simp only [execOp, ho, hav, hie hr, Sem.run_bind, run_indexSlice ht hs h0 hl]; rfl, ?_⟩
            exact .eptr k v _ 0 _ L hL (by omega) (fun _ => by rw [hcr.1.1, Nat.add_mul, Nat.add_zero, Nat.add_assoc]) rfl
         · trivial
       · trivial
     · trivial
   · rename_i len e hte
     have ht := tk_arr hte
     split
     · rename_i sz hs
       split
       · rename_i k ver off hp
         split
         · rename_i key v cont hg
           refine ResOk.pure ?_
           rintro ⟨rfl, h0, hl⟩ φ G a w hr
           have hv := hr.opd x hx
           rw [hp] at hv
           obtain ⟨hm, hk, L, hL, hver, _⟩ := hr.mem.get hg
           simp only at hver
           have e := hv.ptr_eq hL hver
           refine ⟨_, by simp only [execOp, ho, e, hie hr, Sem.run_bind, run_indexArr ht hs h0 hl]; rfl, .ptr k v _ _ L hL (by omega) (fun _ => rfl) rfl⟩
         · trivial
       · rename_i k ver i' j hp
         split
         · rename_i key v sz' rows hg
           split
           · rename_i h3
             obtain ⟨rfl, rfl, rfl⟩ := h3
             refine ResOk.pure ?_
             rintro ⟨rfl, h0, hl⟩ φ G a w hr
             have hv := hr.opd x hx
             rw [hp] at hv
             obtain ⟨hm, hk, L, hL, hver, hcr⟩ := hr.mem.get hg
             simp only at hver
             have e := hv.eptr_eq hL hver
             have h1 : L.sz = 1 := hcr.1
             refine ⟨_, by simp only [execOp, ho, e, hie hr, Sem.run_bind, run_indexArr ht hs h0 hl]; rfl, .eptr k v _ _ _ L hL (by omega) (fun _ => by rw [h1]; simp [Nat.add_assoc]) rfl⟩
           · refine ResOk.pure ?_
             rintro ⟨rfl, h0, hl⟩ φ G a w hr
             have hv := hr.opd x hx
             rw [hp] at hv
             obtain ⟨hm, hk, L, hL, hver, _⟩ := hr.mem.get hg
             simp only at hver
             have e := hv.eptr_eq hL hver
             refine ⟨_, by simp only [execOp, ho, e, hie hr, Sem.run_bind, run_indexArr ht hs h0 hl]; rfl, .eptr k v _ _ _ L hL (by omega) (fun _ => by rw [Nat.add_assoc]) rfl⟩
         · rename_i key v cont _ hg
           refine ResOk.pure ?_
           rintro ⟨rfl, h0, hl⟩ φ G a w hr
           have hv := hr.opd x hx
           rw [hp] at hv
           obtain ⟨hm, hk, L, hL, hver, _⟩ := hr.mem.get hg
           simp only at hver
           have e := hv.eptr_eq hL hver
           refine ⟨_, by simp only [execOp, ho, e, hie hr, Sem.run_bind, run_indexArr ht hs h0 hl]; rfl, .eptr k v _ _ _ L hL (by omega) (fun _ => by rw [Nat.add_assoc]) rfl⟩
         · trivial
       · rename_i d j hp
         refine ResOk.pure ?_
         rintro ⟨h0, hl⟩ φ G a w hr
         have hv := hr.opd x hx
         rw [hp] at hv
         generalize hav : a.eval x = av at hv
         cases hv with
         | rptr _ _ b off x' hb hF hxr hc =>
          refine ⟨.pointer (some ⟨b, off + (j + n.toNat * sz), none⟩), by simp [execOp, ho, hav, hie hr, run_indexArr ht hs h0 hl, Nat.add_assoc], .rptr d _ b off x' hb hF hxr hc⟩
       · trivial
     · trivial
   · trivial
 · trivial
def intBin (op : BinOp) (k : IntKind) (a b : Int) : Option (Bool × D) :=
 match op with
 | .add => some (true, .int k (k.wrap (a + b)))
 | .sub => some (true, .int k (k.wrap (a - b)))
 | .mul => some (true, .int k (k.wrap (a * b)))
 | .quo => some (b ≠ 0, .int k (k.wrap (a.tdiv b)))
 | .rem => some (b ≠ 0, .int k (a.tmod b))
 | .and => some (true, .int k (k.wrap (BitVec.ofInt k.bits a &&& BitVec.ofInt k.bits b).toNat))
 | .or => some (true, .int k (k.wrap (BitVec.ofInt k.bits a ||| BitVec.ofInt k.bits b).toNat))
 | .xor => some (true, .int k (k.wrap (BitVec.ofInt k.bits a ^^^ BitVec.ofInt k.bits b).toNat))
 | .andNot => some (true, .int k (k.wrap (BitVec.ofInt k.bits a &&& ~~~BitVec.ofInt k.bits b).toNat))
 | .eql => some (true, .bool (a == b))
 | .neq => some (true, .bool (a != b))
 | .lss => some (true, .bool (decide (a < b)))
 | .leq => some (true, .bool (decide (a ≤ b)))
 | .gtr => some (true, .bool (decide (b < a)))
 | .geq => some (true, .bool (decide (b ≤ a)))
 | _ => none
def shiftBin (op : BinOp) (k : IntKind) (a b : Int) : Option (Bool × D) :=
 match op with
 | .shl => some (0 ≤ b, .int k (k.wrap (a * 2 ^ (min b.toNat k.bits))))
 | .shr => some (0 ≤ b, .int k (a.fdiv (2 ^ (min b.toNat k.bits))))
 | _ => none
def strBin (op : BinOp) (s t : List UInt8) : Option (Bool × D) :=
 match op with
 | .add => some (s.length + t.length ≤ 4611686018427387904, .str (s ++ t))
 | .eql => some (true, .bool (s == t))
 | .neq => some (true, .bool (!(s == t)))
 | .lss => some (true, .bool (Op.bytesLess s t))
 | .leq => some (true, .bool (Op.bytesLess s t || s == t))
 | .gtr => some (true, .bool (!(Op.bytesLess s t || s == t)))
 | .geq => some (true, .bool (!Op.bytesLess s t))
 | _ => none
def eqFlat : TK → D → D → Option Bool
 | .int _, .int k a, .int k' b => if k = k' then some (a == b) else none
 | .bool, .bool a, .bool b => some (a == b)
 | .str, .str a, .str b => some (a == b)
 | _, _, _ => none
def eqFlats : List TK → List D → List D → Option Bool
 | [], [], [] => some true
 | k :: ks, x :: xs, y :: ys => match eqFlat k x y, eqFlats ks xs ys with
  | some a, some b => some (a && b)
  | _, _ => none
 | _, _, _ => none
def deepFs (rec : TypeId → Option (List TK)) : List Field → Nat → Option (List TK)
 | [], _ => some []
 | f :: fs, o => if f.name ≠ "_" ∧ f.offset = o then (match rec f.type with
  | some ks => match deepFs rec fs (o + ks.length) with
   | some r => some (ks ++ r)
   | none => none
  | none => none) else none
def deepT (P : Program) : Nat → TypeId → Option (List TK)
 | 0, _ => none
 | n + 1, t => match tk P t with
  | .int k => some [.int k]
  | .bool => some [.bool]
  | .str => some [.str]
  | .struct => match P.underlying t with
   | some (.struct fs) => if P.stoodInHeld t = false then (match deepFs (deepT P n) fs.toList 0 with
    | some ks => if tsz P t = some ks.length then some ks else none
    | none => none) else none
   | _ => none
  | _ => none
def flatStruct (P : Program) (t : TypeId) : Option (List TK) :=
 match P.underlying t with
 | some (.struct _) => if P.eqGuardType P.depth t = false then deepT P 8 t else none
 | _ => none
def binR (P : Program) (op : BinOp) (t : TypeId) (x y : AV) : Res :=
 match x, y with
 | .d (.int k a), .d (.int k' b) => match op with
  | .shl => .val (0 ≤ b) (.d (.int k (k.wrap (a * 2 ^ (min b.toNat k.bits)))))
  | .shr => .val (0 ≤ b) (.d (.int k (a.fdiv (2 ^ (min b.toNat k.bits)))))
  | op => match intBin op k a b with
   | some (c, d) => .val (k = k' ∧ c) (.d d)
   | none => .no
 | .d (.str a), .d (.str b) => match strBin op a b with
  | some (c, d) => .val c (.d d)
  | none => .no
 | .d (.bool a), .d (.bool b) => match op with
  | .eql => .val (tk P t = .bool) (.d (.bool (a == b)))
  | .neq => .val (tk P t = .bool) (.d (.bool (a != b)))
  | _ => .no
 | .d (.agg a), .d (.agg b) => match flatStruct P t with
  | some ks => match eqFlats ks a b with
   | some r => match op with
    | .eql => .val True (.d (.bool r))
    | .neq => .val True (.d (.bool (!r)))
    | _ => .no
   | none => .no
  | none => .no
 | _, _ => .no
theorem eqGuard_skip (P : Program) (w : World) (op : BinOp) (t : TypeId) (x y : Operand) (a b : Value) (h : (∀ c, a ≠ .agg c) ∧ a ≠ .nilIface) : (eqGuard op t x y a b).run P w = .ok () w := by
 unfold eqGuard
 cases a <;> first | exact absurd rfl (h.1 _) | exact absurd rfl h.2 | (cases op <;> simp)
theorem binInt_run (P : Program) (w : World) (op : BinOp) (t : TypeId) (k : IntKind) (a b : Int) (c d) (h : intBin op k a b = some (c, d)) (hc : c = true) : ∃ v, (binOp op t (.int k a) (.int k b)).run P w = .ok v w ∧ ∀ F, DRel w F d v := by
 cases op <;> simp only [intBin, Option.some.injEq, Prod.mk.injEq, reduceCtorEq] at h <;> (try exact h.elim) <;> obtain ⟨rfl, rfl⟩ := h <;> (try simp only [decide_eq_true_eq] at hc) <;>
  refine ⟨_, by simp only [binOp, Op.intArith, Op.intDiv, Op.intBits, Op.intCmp, ne_eq, not_true_eq_false, if_false, hc, Sem.run_pure, gt_iff_lt, ge_iff_le]; rfl, fun F => by first | exact .int _ _ | exact .bool _⟩
theorem binShift_run (P : Program) (w : World) (op : BinOp) (t : TypeId) (k k' : IntKind) (a b : Int) (c d) (h : shiftBin op k a b = some (c, d)) (hc : c = true) : ∃ v, (binOp op t (.int k a) (.int k' b)).run P w = .ok v w ∧ ∀ F, DRel w F d v := by
 cases op <;> simp only [shiftBin, Option.some.injEq, Prod.mk.injEq, reduceCtorEq] at h <;> (try exact h.elim) <;> obtain ⟨rfl, rfl⟩ := h <;> (try simp only [decide_eq_true_eq] at hc) <;>
  refine ⟨_, by simp [binOp, Op.shift, show ¬ b < 0 by omega]; rfl, fun F => by first | exact .int _ _ | exact .bool _⟩
theorem binStr_run (P : Program) (w : World) (op : BinOp) (t : TypeId) (a b : ByteArray) (c d) (h : strBin op a.data.toList b.data.toList = some (c, d)) (hc : c = true) : ∃ v, (binOp op t (.string a) (.string b)).run P w = .ok v w ∧ ∀ F, DRel w F d v := by
 have ha : a.size = a.data.toList.length := by rw [Array.length_toList]; rfl
 have hb : b.size = b.data.toList.length := by rw [Array.length_toList]; rfl
 cases op <;> simp only [strBin, Option.some.injEq, Prod.mk.injEq, reduceCtorEq] at h <;> (try exact h.elim) <;> obtain ⟨rfl, rfl⟩ := h
 case add =>
  simp only [decide_eq_true_eq] at hc
  have hl : ¬ (9223372036854775807 < ((a.size : Int) + (b.size : Int))) := by omega
  refine ⟨.string (a ++ b), ?_, fun F => .str _ _ (by simp)⟩
  have hmax : IntKind.i64.max = 9223372036854775807 := by decide
  have : ¬ (((a.size + b.size : Nat) : Int) > IntKind.i64.max) := by rw [hmax]; push_cast; omega
  simp only [binOp, Op.stringOp, this, if_false, Sem.run_pure]
 all_goals
  refine ⟨_, by simp only [binOp, Op.stringOp, ByteArray.toList_eq, Sem.run_pure], fun F => .bool _⟩
theorem eqFlat_run {P : Program} {w : World} {F : Nat → Prop} {x y : D} {a b : Value} {r : Bool} {t : TypeId} (d : Nat) (h : eqFlat (tk P t) x y = some r) (hx : DRel w F x a) (hy : DRel w F y b) :
 (Op.equalIn (d + 1) t a b).run P w = .ok r w := by
 unfold eqFlat at h
 split at h
 · rename_i k' k n k2 m htk
   split at h
   · rename_i he; subst he; simp at h; subst h
     cases hx; cases hy
     exact run_equalIn_int w d t k _ n m (tk_int htk)
   · cases h
 · rename_i n m htk
   simp at h; subst h
   cases hx; cases hy
   exact run_equalIn_bool' w d t n m (tk_bool htk)
 · rename_i n m htk
   simp at h; subst h
   cases hx with | str n _ hn => cases hy with | str m _ hm =>
   subst hn; subst hm
   rw [run_equalIn_string w d t n m (tk_str htk), ByteArray.toList_eq, ByteArray.toList_eq]
 · cases h
theorem part_run {P : Program} {w : World} {t : TypeId} {cs : Array Value} {off : Nat} {v : Value} (h : (tk P t).agg = false) (ho : tk P t ≠ .other) (hv : cs[off]? = some v) : (part t cs off).run P w = .ok v w := by
 simp [part, run_isAgg ho, h, hv]
theorem eqFlats_len : ∀ {ks : List TK} {xs ys : List D} {r : Bool}, eqFlats ks xs ys = some r → xs.length = ks.length ∧ ys.length = ks.length
 | [], [], [], _, _ => ⟨rfl, rfl⟩
 | k :: ks, x :: xs, y :: ys, r, h => by
  simp only [eqFlats] at h
  split at h
  · rename_i h2
    obtain ⟨a, b⟩ := eqFlats_len h2
    simp [a, b]
  · cases h
 | [], [], _ :: _, _, h => by simp [eqFlats] at h
 | [], _ :: _, _, _, h => by simp [eqFlats] at h
 | _ :: _, [], _, _, h => by simp [eqFlats] at h
 | _ :: _, _ :: _, [], _, h => by simp [eqFlats] at h
theorem eqFlats_app : ∀ {a b : List TK} {xs ys : List D} {r : Bool}, eqFlats (a ++ b) xs ys = some r → ∃ p q, eqFlats a (xs.take a.length) (ys.take a.length) = some p ∧ eqFlats b (xs.drop a.length) (ys.drop a.length) = some q ∧ r = (p && q)
 | [], b, xs, ys, r, h => ⟨true, r, by simp [eqFlats], by simpa using h, by simp⟩
 | k :: a, b, x :: xs, y :: ys, r, h => by
  simp only [List.cons_append, eqFlats] at h
  split at h
  · rename_i u v h1 h2
    obtain ⟨p, q, e1, e2, e3⟩ := eqFlats_app h2
    cases h
    refine ⟨u && p, q, ?_, by simpa using e2, by rw [e3, Bool.and_assoc]⟩
    simp only [List.length_cons, List.take_succ_cons, eqFlats, h1, e1]
  · cases h
 | _ :: _, _, [], _, _, h => by simp [eqFlats] at h
 | _ :: _, _, _ :: _, [], _, h => by simp [eqFlats] at h
theorem deepFs_run {P : Program} {w : World} {F : Nat → Prop} {rec : TypeId → Option (List TK)} {dd : Nat} {xa ya : Array Value}
 (ih : ∀ (t : TypeId) (ks : List TK), rec t = some ks → ∀ (o : Nat) (xs ys : List D) (r : Bool), eqFlats ks xs ys = some r → (∀ (i : Nat) c v, xs[i]? = some c → xa[o + i]? = some v → DRel w F c v) → (∀ (i : Nat) c v, ys[i]? = some c → ya[o + i]? = some v → DRel w F c v) →
  o + xs.length ≤ xa.size → o + ys.length ≤ ya.size → ∃ a b, (part t xa o).run P w = .ok a w ∧ (part t ya o).run P w = .ok b w ∧ (Op.equalIn dd t a b).run P w = .ok r w) :
 ∀ (fs : List Field) (o : Nat) (ks : List TK), deepFs rec fs o = some ks → ∀ (xs ys : List D) (r : Bool), eqFlats ks xs ys = some r → (∀ (i : Nat) c v, xs[i]? = some c → xa[o + i]? = some v → DRel w F c v) → (∀ (i : Nat) c v, ys[i]? = some c → ya[o + i]? = some v → DRel w F c v) →
  o + xs.length ≤ xa.size → o + ys.length ≤ ya.size → (Op.eqFields dd xa ya fs).run P w = .ok r w
 | [], o, ks, hk, xs, ys, r, h, _, _, _, _ => by
  simp only [deepFs, Option.some.injEq] at hk
  subst hk
  cases xs <;> cases ys <;> simp [eqFlats] at h
  subst h; simp [Op.eqFields]
 | f :: fs, o, ks, hk, xs, ys, r, h, hx, hy, hlx, hly => by
  simp only [deepFs] at hk
  split at hk
  · rename_i hf
    obtain ⟨hne, hoff⟩ := hf
    split at hk
    · rename_i k1 h1
      split at hk
      · rename_i k2 h2
        cases hk
        obtain ⟨p, q, e1, e2, rfl⟩ := eqFlats_app h
        obtain ⟨l1, l2⟩ := eqFlats_len h
        simp only [List.length_append] at l1 l2
        obtain ⟨a, b, g1, g2, g3⟩ := ih f.type k1 h1 o _ _ p e1 (fun i c v hc hv => hx i c v (by rw [List.getElem?_take] at hc; split at hc; exact hc; cases hc) hv) (fun i c v hc hv => hy i c v (by rw [List.getElem?_take] at hc; split at hc; exact hc; cases hc) hv) (by simp; omega) (by simp; omega)
        have g4 := deepFs_run ih fs (o + k1.length) k2 h2 _ _ q e2 (fun i c v hc hv => hx (k1.length + i) c v (by rw [List.getElem?_drop] at hc; exact hc) (by rw [← Nat.add_assoc]; exact hv)) (fun i c v hc hv => hy (k1.length + i) c v (by rw [List.getElem?_drop] at hc; exact hc) (by rw [← Nat.add_assoc]; exact hv)) (by simp; omega) (by simp; omega)
        rw [← hoff] at g1 g2
        simp only [Op.eqFields, hne, ne_eq, not_false_eq_true, if_true, Sem.run_bind, g1, g2, g3, Result.andThen_ok, Sem.run_ite, Sem.run_pure, g4]
        cases p <;> simp
      · cases hk
    · cases hk
  · cases hk
theorem deep_run {P : Program} {w : World} {F : Nat → Prop} (d : Nat) : ∀ (n : Nat) (xa ya : Array Value) (t : TypeId) (ks : List TK), deepT P n t = some ks → ∀ (o : Nat) (xs ys : List D) (r : Bool), eqFlats ks xs ys = some r →
 (∀ (i : Nat) c v, xs[i]? = some c → xa[o + i]? = some v → DRel w F c v) → (∀ (i : Nat) c v, ys[i]? = some c → ya[o + i]? = some v → DRel w F c v) → o + xs.length ≤ xa.size → o + ys.length ≤ ya.size →
 ∃ a b, (part t xa o).run P w = .ok a w ∧ (part t ya o).run P w = .ok b w ∧ (Op.equalIn (d + n) t a b).run P w = .ok r w
 | 0, _, _, _, _, hk, _, _, _, _, _, _, _, _, _ => by cases hk
 | n + 1, xa, ya, t, ks, hk, o, xs, ys, r, h, hx, hy, hlx, hly => by
  have one : ∀ k : TK, tk P t = k → k.agg = false → k ≠ .other → ks = [k] → ∃ a b, (part t xa o).run P w = .ok a w ∧ (part t ya o).run P w = .ok b w ∧ (Op.equalIn (d + (n + 1)) t a b).run P w = .ok r w := by
   rintro k hk1 hk2 hk3 rfl
   obtain ⟨l1, l2⟩ := eqFlats_len h
   match xs, ys, l1, l2 with
   | [x], [y], _, _ =>
    simp only [eqFlats] at h
    split at h
    · rename_i u v h1 h2
      cases h
      have hv : v = true := by simpa using h2.symm
      subst hv
      simp only [Bool.and_true]
      simp only [List.length_cons, List.length_nil] at hlx hly
      have e1 := part_run (P := P) (w := w) (t := t) (by rw [hk1]; exact hk2) (by rw [hk1]; exact hk3) (show xa[o]? = some xa[o] by simp [show o < xa.size by omega])
      have e2 := part_run (P := P) (w := w) (t := t) (by rw [hk1]; exact hk2) (by rw [hk1]; exact hk3) (show ya[o]? = some ya[o] by simp [show o < ya.size by omega])
      exact ⟨_, _, e1, e2, eqFlat_run (d + n) (by rw [hk1]; exact h1) (hx 0 x _ rfl (by simp [show o < xa.size by omega])) (hy 0 y _ rfl (by simp [show o < ya.size by omega]))⟩
    · cases h
  unfold deepT at hk
  split at hk
  · rename_i k hk1
    exact one _ hk1 rfl (by simp) (by cases hk; rfl)
  · rename_i hk1
    exact one _ hk1 rfl (by simp) (by cases hk; rfl)
  · rename_i hk1
    exact one _ hk1 rfl (by simp) (by cases hk; rfl)
  · rename_i hk1
    split at hk
    · rename_i fs hu
      split at hk
      · rename_i hsi
        split at hk
        · rename_i ks' hfs
          split at hk
          · rename_i hsz
            cases hk
            obtain ⟨l1, l2⟩ := eqFlats_len h
            have hp : ∀ cs : Array Value, (part t cs o).run P w = .ok (.agg (cs.extract o (o + ks.length))) w := by
             intro cs
             have ha := run_isAgg (P := P) (t := t) (w := w) (by rw [hk1]; simp)
             simp [part, ha, hk1, TK.agg, run_sizeOf hsz]
            refine ⟨_, _, hp xa, hp ya, ?_⟩
            have hf : P.fieldsOf t = fs := by simp [Program.fieldsOf, hu]
            show (Op.equalIn (d + n + 1) t _ _).run P w = _
            rw [run_equalIn_struct w (d + n) t _ _ (by rw [hf]; exact hu) hsi, hf]
            have hex : ∀ (cs : Array Value) (i : Nat) (v : Value), i < ks.length → (cs.extract o (o + ks.length))[0 + i]? = some v → cs[o + i]? = some v := by
             intro cs i v hi hv
             rw [Nat.zero_add, Array.getElem?_extract] at hv
             split at hv
             · exact hv
             · cases hv
            refine deepFs_run (F := F) (fun t' ks' hk' o' xs' ys' r' h' hx' hy' hl1 hl2 => deep_run d n _ _ t' ks' hk' o' xs' ys' r' h' hx' hy' hl1 hl2) fs.toList 0 ks hfs xs ys r h (fun i c v hc hv => ?_) (fun i c v hc hv => ?_) ?_ ?_
            · have hi := (List.getElem?_eq_some_iff.1 hc).1
              exact hx i c v hc (hex xa i v (by omega) hv)
            · have hi := (List.getElem?_eq_some_iff.1 hc).1
              exact hy i c v hc (hex ya i v (by omega) hv)
            · simp; omega
            · simp; omega
          · cases hk
        · cases hk
      · cases hk
    · cases hk
  · cases hk
theorem binR_ok (P : Program) (S : St) (o : Oper) (op : BinOp) (t t' : TypeId) (x y : Operand) (ho : o.op = .binOp op t x y t') (hx : (S.opd x).1 = true) (hy : (S.opd y).1 = true) : ResOk P S o (binR P op t (S.opd x).2 (S.opd y).2) := by
 have hrun : ∀ (a : Act) (w : World) (v : Value), (∀ c, a.eval x ≠ .agg c) → a.eval x ≠ .nilIface → (binOp op t (a.eval x) (a.eval y)).run P w = .ok v w → (execOp a.eval o).run P w = .ok (.value v) w := by
  intro a w v h1 h2 h
  simp [execOp, ho, eqGuard_skip P w op t x y _ (a.eval y) ⟨h1, h2⟩, h]
 unfold binR
 split
 · rename_i k n k' m hxv hyv
   have hev : ∀ {φ G a w}, Rel φ G S a w → a.eval x = .int k n ∧ a.eval y = .int k' m := fun hr => by
    have h1 := hr.opd x hx
    have h2 := hr.opd y hy
    rw [hxv] at h1; rw [hyv] at h2
    exact ⟨int_of h1, int_of h2⟩
   split
   · refine ResOk.pure fun hc φ G a w hr => ?_
     obtain ⟨v, h1, h2⟩ := binShift_run P w .shl t k k' n m _ _ rfl (decide_eq_true hc)
     exact ⟨v, hrun a w v (by simp [(hev hr).1]) (by simp [(hev hr).1]) (by rw [(hev hr).1, (hev hr).2]; exact h1), .d _ _ (h2 _)⟩
   · refine ResOk.pure fun hc φ G a w hr => ?_
     obtain ⟨v, h1, h2⟩ := binShift_run P w .shr t k k' n m _ _ rfl (decide_eq_true hc)
     exact ⟨v, hrun a w v (by simp [(hev hr).1]) (by simp [(hev hr).1]) (by rw [(hev hr).1, (hev hr).2]; exact h1), .d _ _ (h2 _)⟩
   · split
     · rename_i c d h
       refine ResOk.pure ?_
       rintro ⟨rfl, hc⟩ φ G a w hr
       obtain ⟨v, h1, h2⟩ := binInt_run P w op t k n m c d h hc
       exact ⟨v, hrun a w v (by simp [(hev hr).1]) (by simp [(hev hr).1]) (by rw [(hev hr).1, (hev hr).2]; exact h1), .d _ _ (h2 _)⟩
     · trivial
 · rename_i s u hxv hyv
   split
   · rename_i c d h
     refine ResOk.pureB fun hc φ G a w hr => ?_
     have h1 := hr.opd x hx
     have h2 := hr.opd y hy
     rw [hxv] at h1; rw [hyv] at h2
     obtain ⟨b1, e1, rfl⟩ := str_of h1
     obtain ⟨b2, e2, rfl⟩ := str_of h2
     obtain ⟨v, h3, h4⟩ := binStr_run P w op t b1 b2 c d h hc
     exact ⟨v, hrun a w v (by simp [e1]) (by simp [e1]) (by rw [e1, e2]; exact h3), .d _ _ (h4 _)⟩
   · trivial
 · rename_i n m hxv hyv
   have hev : ∀ {φ G a w}, Rel φ G S a w → a.eval x = .bool n ∧ a.eval y = .bool m := fun hr => by
    have h1 := hr.opd x hx
    have h2 := hr.opd y hy
    rw [hxv] at h1; rw [hyv] at h2
    exact ⟨bool_of h1, bool_of h2⟩
   split
   · refine ResOk.pure fun hc φ G a w hr => ⟨.bool (n == m), hrun a w _ (by simp [(hev hr).1]) (by simp [(hev hr).1]) ?_, .d _ _ (.bool _)⟩
     rw [(hev hr).1, (hev hr).2]
     simp [binOp, Op.equal, Op.maxDepth, run_equalIn_bool' w 9999 t n m (tk_bool hc)]
   · refine ResOk.pure fun hc φ G a w hr => ⟨.bool (n != m), hrun a w _ (by simp [(hev hr).1]) (by simp [(hev hr).1]) ?_, .d _ _ (.bool _)⟩
     rw [(hev hr).1, (hev hr).2]
     simp [binOp, Op.equal, Op.maxDepth, run_equalIn_bool' w 9999 t n m (tk_bool hc), bne]
   · trivial
 · rename_i xs ys hxv hyv
   split
   · rename_i ks hks
     split
     · rename_i r hr0
       have key : ∀ {φ G a w}, Rel φ G S a w → ∃ xa ya, a.eval x = .agg xa ∧ a.eval y = .agg ya ∧ (Op.equal t (.agg xa) (.agg ya)).run P w = .ok r w ∧ (eqGuard op t x y (.agg xa) (.agg ya)).run P w = .ok () w := by
        intro φ G a w hr
        have h1 := hr.opd x hx
        have h2 := hr.opd y hy
        rw [hxv] at h1; rw [hyv] at h2
        generalize a.eval x = xv at h1
        generalize a.eval y = yv at h2
        cases h1 with | d _ _ h1 =>
        cases h2 with | d _ _ h2 =>
        cases h1 with | agg _ xa hlx hfx hcx =>
        cases h2 with | agg _ ya hly hfy hcy =>
        unfold flatStruct at hks
        split at hks
        · rename_i fs hu
          split at hks
          · rename_i hgt
            have hf : P.fieldsOf t = fs := by simp [Program.fieldsOf, hu]
            have htk : tk P t = .struct := by simp [tk, hu]
            unfold deepT at hks
            simp only [htk, hu] at hks
            split at hks
            · rename_i hsi
              split at hks
              · rename_i ks' hfs
                split at hks
                · cases hks
                  refine ⟨xa, ya, rfl, rfl, ?_, ?_⟩
                  · unfold Op.equal Op.maxDepth
                    rw [run_equalIn_struct w 9999 t xa ya (by rw [hf]; exact hu) hsi, hf]
                    exact deepFs_run (F := Fo G φ S.mem) (fun t' ks' hk' o' xs' ys' r' h' hx' hy' hl1 hl2 => deep_run 9992 7 _ _ t' ks' hk' o' xs' ys' r' h' hx' hy' hl1 hl2) fs.toList 0 ks hfs xs ys r hr0 (fun i c v hc hv => hcx i c v hc (by simpa using hv)) (fun i c v hc hv => hcy i c v hc (by simpa using hv)) (by omega) (by omega)
                  · cases op <;> simp [eqGuard, hgt]
                · cases hks
              · cases hks
            · cases hks
          · cases hks
        · cases hks
       split
       · refine ResOk.pure fun _ φ G a w hr => ?_
         obtain ⟨xa, ya, e1, e2, h1, h2⟩ := key hr
         exact ⟨.bool r, by simp [execOp, ho, e1, e2, h2, binOp, h1], .d _ _ (.bool _)⟩
       · refine ResOk.pure fun _ φ G a w hr => ?_
         obtain ⟨xa, ya, e1, e2, h1, h2⟩ := key hr
         exact ⟨.bool (!r), by simp [execOp, ho, e1, e2, h2, binOp, h1], .d _ _ (.bool _)⟩
       · trivial
     · trivial
   · trivial
 · trivial
def nilR (P : Program) (m : Mem) (neg : Bool) (t : TypeId) (x : AV) : Value → Res
 | .slice none 0 0 => match tk P t with
  | .slice _ => match x with
   | .d (.list (_ :: _)) => .val true (.d (.bool neg))
   | .lit (.slice none 0 0) => .val true (.d (.bool (!neg)))
   | .nn => .val true (.d (.bool neg))
   | .vec k ver _ len => match Mem.get m k with
    | some ⟨_, v, .vec _ _⟩ => .val (v = ver ∧ 0 < len) (.d (.bool neg))
    | _ => .no
   | _ => .no
  | _ => .no
 | .pointer none => match tk P t with
  | .ptr _ => match x with
   | .lit (.pointer none) => .val true (.d (.bool (!neg)))
   | .ptr k ver _ => match Mem.get m k with
    | some ⟨_, v, _⟩ => .val (v = ver) (.d (.bool neg))
    | _ => .no
   | _ => .no
  | _ => .no
 | .nilIface => match tk P t with
  | .iface => match x with
   | .ifc _ _ => .val true (.d (.bool neg))
   | .err => .val true (.d (.bool neg))
   | .lit .nilIface => .val true (.d (.bool (!neg)))
   | _ => .no
  | _ => .no
 | _ => .no
theorem list_addr' {φ w F d ds v} (h : AVRel φ w F (.d (.list (d :: ds))) v) : ∃ b off cap, v = .slice (some ⟨b, off, none⟩) (ds.length + 1) cap := by
 cases h with | d _ _ h =>
 cases h with | list _ b off cap sz vs => exact ⟨b, off, cap, rfl⟩
theorem tk_ptr {P : Program} {t e : TypeId} (h : tk P t = .ptr e) : P.underlying t = some (.pointer e) := by
 unfold tk at h; split at h <;> simp_all
theorem tk_iface {P : Program} {t : TypeId} (h : tk P t = .iface) : ∃ ms, P.underlying t = some (.interface ms) := by
 unfold tk at h; split at h <;> simp_all
theorem eqnil_slice {P : Program} (w : World) (d : Nat) {t e : TypeId} (a : Option Addr) (n c : Nat) (h : P.underlying t = some (.slice e)) :
 (Op.equalIn (d + 1) t (.slice a n c) (.slice none 0 0)).run P w = .ok a.isNone w := by
 cases a <;> simp [Op.equalIn, run_underlying h]
theorem eqnil_ptr {P : Program} (w : World) (d : Nat) {t e : TypeId} (a : Option Addr) (h : P.underlying t = some (.pointer e)) :
 (Op.equalIn (d + 1) t (.pointer a) (.pointer none)).run P w = .ok a.isNone w := by
 cases a <;> simp [Op.equalIn, run_underlying h]
theorem eqnil_iface {P : Program} (w : World) (d : Nat) {t : TypeId} {ms} (tx : TypeId) (v : Value) (h : P.underlying t = some (.interface ms)) :
 (Op.equalIn (d + 1) t (.iface tx v) .nilIface).run P w = .ok false w := by
 simp [Op.equalIn, run_underlying h]
theorem eqnil_iface0 {P : Program} (w : World) (d : Nat) {t : TypeId} {ms} (h : P.underlying t = some (.interface ms)) :
 (Op.equalIn (d + 1) t .nilIface .nilIface).run P w = .ok true w := by
 simp [Op.equalIn, run_underlying h]
theorem nil_run {P : Program} {o : Oper} {neg : Bool} {t t' : TypeId} {x : Operand} {v : Value} (ho : o.op = .binOp (if neg then .neq else .eql) t x (.const v) t') {a : Act} {w : World} {b : Bool}
 (h1 : ∀ c, a.eval x ≠ .agg c) (hvn : v = .slice none 0 0 ∨ v = .pointer none ∨ v = .nilIface) (hxn : (∀ k n, a.eval x ≠ .int k n) ∧ (∀ k n, a.eval x ≠ .float k n) ∧ (∀ k n m, a.eval x ≠ .complex k n m) ∧ (∀ s, a.eval x ≠ .string s))
 (h : (Op.equalIn 10000 t (a.eval x) v).run P w = .ok b w) : (execOp a.eval o).run P w = .ok (.value (.bool (if neg then !b else b))) w := by
 have e : a.eval (.const v) = v := rfl
 have hg : (eqGuard (if neg then .neq else .eql) t x (.const v) (a.eval x) v).run P w = .ok () w := by
  unfold eqGuard
  generalize a.eval x = u at h1 ⊢
  rcases hvn with rfl | rfl | rfl <;> cases u <;> cases neg <;> simp
 have hb : (binOp (if neg then .neq else .eql) t (a.eval x) v).run P w = .ok (.bool (if neg then !b else b)) w := by
  generalize a.eval x = u at h hxn ⊢
  obtain ⟨g1, g2, g3, g4⟩ := hxn
  rcases hvn with rfl | rfl | rfl <;> cases u <;> cases neg <;> simp_all [binOp, Op.equal, Op.maxDepth]
 simp only [execOp, ho, e, Sem.run_bind, hg, Result.andThen_ok, hb, Sem.run_pure]
theorem nilR_ok (P : Program) (S : St) (o : Oper) (neg : Bool) (t t' : TypeId) (x : Operand) (v : Value) (ho : o.op = .binOp (if neg then .neq else .eql) t x (.const v) t') (hx : (S.opd x).1 = true) : ResOk P S o (nilR P S.mem neg t (S.opd x).2 v) := by
 have go : ∀ {φ G a w} {b : Bool}, Rel φ G S a w → (∀ c, a.eval x ≠ .agg c) → (v = .slice none 0 0 ∨ v = .pointer none ∨ v = .nilIface) → ((∀ k n, a.eval x ≠ .int k n) ∧ (∀ k n, a.eval x ≠ .float k n) ∧ (∀ k n m, a.eval x ≠ .complex k n m) ∧ (∀ s, a.eval x ≠ .string s)) →
  (Op.equalIn 10000 t (a.eval x) v).run P w = .ok b w → ∃ v', (execOp a.eval o).run P w = .ok (.value v') w ∧ AVRel φ w (Fo G φ S.mem) (.d (.bool (if neg then !b else b))) v' := by
  intro φ G a w b hr h1 h2 h3 h4
  exact ⟨_, nil_run ho h1 h2 h3 h4, .d _ _ (.bool _)⟩
 have eb : ∀ {b : Bool}, (if neg = true then !b else b) = (if neg = true then !b else b) := rfl
 unfold nilR
 split
 · split
   · rename_i e ht
     have ht' := tk_slice ht
     split
     · rename_i d ds hxv
       refine ResOk.pureB fun _ φ G a w hr => ?_
       have hv := hr.opd x hx
       rw [hxv] at hv
       obtain ⟨b, off, cap, hev⟩ := list_addr' hv
       have := go (b := false) hr (by simp [hev]) (.inl rfl) (by simp [hev]) (by rw [hev]; exact eqnil_slice w 9999 _ _ _ ht')
       cases neg <;> simpa using this
     · rename_i hxv
       refine ResOk.pureB fun _ φ G a w hr => ?_
       have hv := hr.opd x hx
       rw [hxv] at hv
       generalize hev : a.eval x = u at hv
       cases hv
       have := go (b := true) hr (by simp [hev]) (.inl rfl) (by simp [hev]) (by rw [hev]; exact eqnil_slice w 9999 _ _ _ ht')
       cases neg <;> simpa using this
     · rename_i hxv
       refine ResOk.pureB fun _ φ G a w hr => ?_
       have hv := hr.opd x hx
       rw [hxv] at hv
       generalize hev : a.eval x = u at hv
       cases hv
       have := go (b := false) hr (by simp [hev]) (.inl rfl) (by simp [hev]) (by rw [hev]; exact eqnil_slice w 9999 _ _ _ ht')
       cases neg <;> simpa using this
     · rename_i k ver off len hxv
       split
       · rename_i key v' sz rows hg
         refine ResOk.pure ?_
         rintro ⟨rfl, hlen⟩ φ G a w hr
         have hv := hr.opd x hx
         rw [hxv] at hv
         obtain ⟨hm, hk, L, hL, hver, hcr⟩ := hr.mem.get hg
         generalize hev : a.eval x = u at hv
         cases hv with
         | vec _ _ _ _ _ L' hL' _ h _ =>
          rw [hL] at hL'; cases hL'
          obtain ⟨ao, cap, rfl, hlc, hpl⟩ := h hver.symm
          obtain ⟨rfl, _⟩ := hpl (by omega)
          have := go (b := false) hr (by simp [hev]) (.inl rfl) (by simp [hev]) (by rw [hev]; exact eqnil_slice w 9999 _ _ _ ht')
          cases neg <;> simpa using this
       · trivial
     · trivial
   · trivial
 · split
   · rename_i e ht
     have ht' := tk_ptr ht
     split
     · rename_i hxv
       refine ResOk.pureB fun _ φ G a w hr => ?_
       have hv := hr.opd x hx
       rw [hxv] at hv
       generalize hev : a.eval x = u at hv
       cases hv
       have := go (b := true) hr (by simp [hev]) (.inr (.inl rfl)) (by simp [hev]) (by rw [hev]; exact eqnil_ptr w 9999 _ ht')
       cases neg <;> simpa using this
     · rename_i k ver off hxv
       split
       · rename_i key v' c hg
         refine ResOk.pure ?_
         rintro rfl φ G a w hr
         have hv := hr.opd x hx
         rw [hxv] at hv
         obtain ⟨hm, hk, L, hL, hver, hcr⟩ := hr.mem.get hg
         have hev := hv.ptr_eq hL hver
         have := go (b := false) hr (by simp [hev]) (.inr (.inl rfl)) (by simp [hev]) (by rw [hev]; exact eqnil_ptr w 9999 _ ht')
         cases neg <;> simpa using this
       · trivial
     · trivial
   · trivial
 · split
   · rename_i ht
     obtain ⟨ms, ht'⟩ := tk_iface ht
     split
     · rename_i ti xi hxv
       refine ResOk.pureB fun _ φ G a w hr => ?_
       have hv := hr.opd x hx
       rw [hxv] at hv
       generalize hev : a.eval x = u at hv
       cases hv
       have := go (b := false) hr (by simp [hev]) (.inr (.inr rfl)) (by simp [hev]) (by rw [hev]; exact eqnil_iface w 9999 _ _ ht')
       cases neg <;> simpa using this
     · rename_i hxv
       refine ResOk.pureB fun _ φ G a w hr => ?_
       have hv := hr.opd x hx
       rw [hxv] at hv
       generalize hev : a.eval x = u at hv
       cases hv
       have := go (b := false) hr (by simp [hev]) (.inr (.inr rfl)) (by simp [hev]) (by rw [hev]; exact eqnil_iface w 9999 _ _ ht')
       cases neg <;> simpa using this
     · rename_i hxv
       refine ResOk.pureB fun _ φ G a w hr => ?_
       have hv := hr.opd x hx
       rw [hxv] at hv
       generalize hev : a.eval x = u at hv
       cases hv
       have := go (b := true) hr (by simp [hev]) (.inr (.inr rfl)) (by simp [hev]) (by rw [hev]; exact eqnil_iface0 w 9999 ht')
       cases neg <;> simpa using this
     · trivial
   · trivial
 · trivial
end Go.Am
end

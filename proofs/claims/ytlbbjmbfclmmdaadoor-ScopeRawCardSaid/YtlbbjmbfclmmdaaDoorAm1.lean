/-
  The abstract machine, part 1: pure data, abstract values, abstract states, and what they mean in the model's worlds.
-/
import Derived.WalkKit
import Derived.Laws.Rows
import Derived.Laws.CopyRow
namespace Go.Am
open Go

/-- Pure data: what no later write can change. -/
inductive D where
  | int (k : IntKind) (n : Int)
  | bool (b : Bool)
  | str (s : List UInt8)
  | list (xs : List D)
  | agg (cs : List D)

def D.size : D → Nat
  | .agg cs => cs.length
  | _ => 1
def D.flat : D → Bool
  | .agg _ => false
  | _ => true

/-- A value of one cell. -/
def cell1 : Value → Bool
  | .agg _ => false
  | .tuple _ => false
  | _ => true

theorem cells_of_cell1 {v : Value} (h : cell1 v = true) : v.cells = #[v] := by cases v <;> simp_all [cell1, Value.cells]

/-- A datum read in a world, none of it in the blocks of F. -/
inductive DRel (w : World) (F : Nat → Prop) : D → Value → Prop
  | int (k n) : DRel w F (.int k n) (.int k n)
  | bool (b) : DRel w F (.bool b) (.bool b)
  | str (b : ByteArray) (s : List UInt8) (h : b.data.toList = s) : DRel w F (.str s) (.string b)
  | agg (cs : List D) (a : Array Value) (hl : cs.length = a.size)
      (hf : ∀ d ∈ cs, d.flat = true) (hc : ∀ (i : Nat) (d : D) (v : Value), cs[i]? = some d → a[i]? = some v → DRel w F d v) : DRel w F (.agg cs) (.agg a)
  | nil (a : Option Addr) (cap : Nat) (hn : a = none → cap = 0) : DRel w F (.list []) (.slice a 0 cap)
  | list (xs : List D) (b off cap sz : Nat) (vs : Nat → Value) (hcap : xs.length ≤ cap) (hb : b < w.heap.size) (hF : ¬ F b) (hsz : ∀ d ∈ xs, d.size = sz)
      (hv : ∀ (i : Nat) (d : D), xs[i]? = some d → DRel w F d (vs i))
      (hc : ∀ (i j : Nat) (c : Value), i < xs.length → (vs i).cells[j]? = some c → w.cell? ⟨b, off + i * sz + j, none⟩ = some c) :
      DRel w F (.list xs) (.slice (some ⟨b, off, none⟩) xs.length cap)

theorem DRel.size {w F d v} (h : DRel w F d v) : v.cells.size = d.size := by
  cases h <;> simp_all [D.size, Value.cells]
theorem DRel.one {w F d v} (h : DRel w F d v) (hf : d.flat = true) : cell1 v = true := by
  cases h <;> simp_all [D.flat, Am.cell1]

theorem cell?_congr {w w' : World} {b o : Nat} (h : w'.heap[b]? = w.heap[b]?) : w'.cell? ⟨b, o, none⟩ = w.cell? ⟨b, o, none⟩ := by
  simp [World.cell?, h]

theorem DRel.mono {w w' : World} {F F' : Nat → Prop} {d v} (h : DRel w F d v)
    (hk : ∀ b, b < w.heap.size → ¬ F b → w'.heap[b]? = w.heap[b]?) (hs : w.heap.size ≤ w'.heap.size) (hF : ∀ b, b < w.heap.size → F' b → F b) : DRel w' F' d v := by
  induction h with
  | int k n => exact .int k n
  | bool b => exact .bool b
  | str b s h => exact .str b s h
  | agg cs a hl hf _ ih => exact .agg cs a hl hf ih
  | nil a cap hn => exact .nil a cap hn
  | list xs b off cap sz vs hcap hb hFb hsz _ hc ih =>
    exact .list xs b off cap sz vs hcap (by omega) (fun h => hFb (hF b hb h)) hsz ih (fun i j c hi hj => by
      rw [cell?_congr (hk b hb hFb)]; exact hc i j c hi hj)

/-- Abstract values. -/
inductive AV where
  | junk
  | d (x : D)
  | agg (cs : List AV)
  | ptr (k ver off : Nat)
  | vec (k ver off len : Nat)
  | eptr (k ver i j : Nat)
  | rptr (x : D) (j : Nat)
  | fn (f : FuncId) (cap : List AV)
  | tup (vs : List AV)
  | ifc (t : TypeId) (x : D)
  | lit (v : Value)
  | nn

/-- Where a key lies: its version, block, the cells of a row, how many rows there is room for, the first row's cell. -/
structure Loc where
  ver : Nat
  blk : Nat
  sz : Nat
  cap : Nat
  base : Nat

abbrev Phi := Nat → Option Loc

inductive AVRel (φ : Phi) (w : World) (F : Nat → Prop) : AV → Value → Prop
  | junk (v) : AVRel φ w F .junk v
  | d (x v) (h : DRel w F x v) : AVRel φ w F (.d x) v
  | agg (cs : List AV) (a : Array Value) (hl : cs.length = a.size) (h1 : ∀ v ∈ a, cell1 v = true) (hc : ∀ (i : Nat) (c : AV) (v : Value), cs[i]? = some c → a[i]? = some v → AVRel φ w F c v) : AVRel φ w F (.agg cs) (.agg a)
  | ptr (k ver off : Nat) (v : Value) (L : Loc) (hL : φ k = some L) (hv : ver ≤ L.ver) (h : ver = L.ver → v = .pointer (some ⟨L.blk, off, none⟩)) (h1 : cell1 v = true) : AVRel φ w F (.ptr k ver off) v
  | vec (k ver off len : Nat) (v : Value) (L : Loc) (hL : φ k = some L) (hv : ver ≤ L.ver)
      (h : ver = L.ver → ∃ a cap, v = .slice a len cap ∧ len ≤ cap ∧ (cap > 0 → a = some ⟨L.blk, L.base + off * L.sz, none⟩ ∧ off + cap = L.cap)) (h1 : cell1 v = true) : AVRel φ w F (.vec k ver off len) v
  | eptr (k ver i j : Nat) (v : Value) (L : Loc) (hL : φ k = some L) (hv : ver ≤ L.ver) (h : ver = L.ver → v = .pointer (some ⟨L.blk, L.base + i * L.sz + j, none⟩)) (h1 : cell1 v = true) : AVRel φ w F (.eptr k ver i j) v
  | rptr (x : D) (j : Nat) (b off : Nat) (x' : Value) (hb : b < w.heap.size) (hF : ¬ F b) (hx : DRel w F x x')
      (hc : ∀ (i : Nat) (c : Value), x'.cells[i]? = some c → w.cell? ⟨b, off + i, none⟩ = some c) : AVRel φ w F (.rptr x j) (.pointer (some ⟨b, off + j, none⟩))
  | fn (f : FuncId) (cap : List AV) (a : Array Value) (hl : cap.length = a.size) (hc : ∀ (i : Nat) (c : AV) (v : Value), cap[i]? = some c → a[i]? = some v → AVRel φ w F c v) : AVRel φ w F (.fn f cap) (.func (.func f) #[] a)
  | tup (vs : List AV) (a : Array Value) (hl : vs.length = a.size) (hc : ∀ (i : Nat) (c : AV) (v : Value), vs[i]? = some c → a[i]? = some v → AVRel φ w F c v) : AVRel φ w F (.tup vs) (.tuple a)
  | ifc (t : TypeId) (x : D) (v : Value) (h : DRel w F x v) : AVRel φ w F (.ifc t x) (.iface t v)
  | lit (v) (h1 : cell1 v = true) : AVRel φ w F (.lit v) v
  | nn (a : Addr) (cap : Nat) : AVRel φ w F .nn (.slice (some a) 0 cap)

/-- A step of the naming: a key that was named stays named; its place turns only with its version. -/
def Phi.le (φ φ' : Phi) : Prop := ∀ k L, φ k = some L → ∃ L', φ' k = some L' ∧ L.ver ≤ L'.ver ∧ (L'.ver = L.ver → L' = L)

theorem Phi.le_refl (φ : Phi) : φ.le φ := fun _ L h => ⟨L, h, Nat.le_refl _, fun _ => rfl⟩
theorem Phi.le_trans {φ φ' φ'' : Phi} (h : φ.le φ') (h' : φ'.le φ'') : φ.le φ'' := by
  intro k L hL
  obtain ⟨L1, h1, hv1, he1⟩ := h k L hL
  obtain ⟨L2, h2, hv2, he2⟩ := h' k L1 h1
  refine ⟨L2, h2, by omega, fun e => ?_⟩
  have e1 : L1.ver = L.ver := by omega
  have := he1 e1
  subst this
  exact he2 e

theorem AVRel.mono {φ φ' : Phi} {w w' : World} {F F' : Nat → Prop} {x v} (h : AVRel φ w F x v) (hφ : φ.le φ')
    (hk : ∀ b, b < w.heap.size → ¬ F b → w'.heap[b]? = w.heap[b]?) (hs : w.heap.size ≤ w'.heap.size) (hF : ∀ b, b < w.heap.size → F' b → F b) : AVRel φ' w' F' x v := by
  induction h with
  | junk v => exact .junk v
  | d x v h => exact .d x v (h.mono hk hs hF)
  | agg cs a hl h1 _ ih => exact .agg cs a hl h1 ih
  | ptr k ver off v L hL hv h h1 =>
    obtain ⟨L', hL', hv', he⟩ := hφ k L hL
    exact .ptr k ver off v L' hL' (by omega) (fun e => by have e1 : L'.ver = L.ver := by omega
                                                          have := he e1; subst this; exact h e) h1
  | vec k ver off len v L hL hv h h1 =>
    obtain ⟨L', hL', hv', he⟩ := hφ k L hL
    exact .vec k ver off len v L' hL' (by omega) (fun e => by have e1 : L'.ver = L.ver := by omega
                                                              have := he e1; subst this; exact h e) h1
  | eptr k ver i j v L hL hv h h1 =>
    obtain ⟨L', hL', hv', he⟩ := hφ k L hL
    exact .eptr k ver i j v L' hL' (by omega) (fun e => by have e1 : L'.ver = L.ver := by omega
                                                           have := he e1; subst this; exact h e) h1
  | rptr x j b off x' hb hFb hx hc =>
    exact .rptr x j b off x' (by omega) (fun h => hFb (hF b hb h)) (hx.mono hk hs hF) (fun i c hi => by rw [cell?_congr (hk b hb hFb)]; exact hc i c hi)
  | fn f cap a hl _ ih => exact .fn f cap a hl ih
  | tup vs a hl _ ih => exact .tup vs a hl ih
  | ifc t x v h => exact .ifc t x v (h.mono hk hs hF)
  | lit v h1 => exact .lit v h1
  | nn a cap => exact .nn a cap
end Go.Am

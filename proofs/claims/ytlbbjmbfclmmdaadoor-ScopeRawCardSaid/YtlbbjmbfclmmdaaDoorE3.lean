/-
  slices.ContainsFunc and scope Right: what a call of each gives.
-/
import Derived.Test.YtlbbjmbfclmmdaaDoorE2
namespace Go.Am
open Go Go.Proofs
set_option maxRecDepth 20000

theorem firstIdx_none {α : Type} (p : α → Bool) : ∀ (xs : List α) (i : Nat), firstIdx p xs i = none ↔ xs.any p = false
  | [], i => by simp [firstIdx]
  | x :: r, i => by
    simp only [firstIdx, List.any_cons, Bool.or_eq_false_iff]
    cases p x <;> simp [firstIdx_none p r (i + 1)]

theorem contains_run {α : Type} (enc : α → D) (p : α → Bool) (g : FuncId) (c : List D) (hm : (ctx.fp g).mut_ = []) (hsz : ∀ x, (enc x).size = 1) (hce : ∀ x, (enc x).cells = [enc x])
    (hc : ∀ x, callT ctx g [.d (enc x), .ptr 0 0 0] [.box (c.map .d)] = some (.ret (.d (.bool (p x))), [(0, .box (c.map .d))])) (xs : List α) (hl : xs.length < 1000000) :
    callT ctx 18 [.d (.list (xs.map enc)), .fn g [.ptr 0 0 0]] [.box (c.map .d)] = some (.ret (.d (.bool (xs.any p))), [(0, .box (c.map .d))]) := by
  rw [run18 (by simp)]
  simp [Tryd.f18, index_run enc p g c hm hsz hce hc xs hl]
  have := firstIdx_none p xs 0
  cases h : firstIdx p xs 0 with
  | none => simp [this.1 h]
  | some i =>
    have h2 : xs.any p = true := by
      cases h3 : xs.any p with
      | true => rfl
      | false => rw [this.2 h3] at h; cases h
    simp [h2]

def rowsBad (s : Scope) : Bool := s.rows.any fun r => (r.length : Int) != s.channels
def right (s : Scope) : Bool :=
  if asked s = false ∨ rowsBad s = true then false
  else if s.seen < s.rows.length then false
  else if s.moment = -1 then decide ((s.rows.length : Int) ≤ max s.before 1) && !s.done
  else decide (0 ≤ s.moment) && decide (s.moment ≤ s.before) && decide (1 ≤ s.rows.length - s.moment) && decide (s.rows.length - s.moment ≤ s.after) && (s.done == decide (s.rows.length - s.moment = s.after))

def I64 (n : Int) : Prop := -9223372036854775808 ≤ n ∧ n ≤ 9223372036854775807
theorem wrap_id {n : Int} (h : I64 n) : IntKind.i64.wrap n = n := IntWalk.i64_in _ (by unfold I64 at h; omega)
theorem right_run (s : Scope) (hl : s.rows.length < 1000000) (hm : I64 s.moment) : callT ctx 11 [.d s.enc] [] = some (.ret (.d (.bool (right s))), []) := by
  have h0 := asked_run s
  have h1 := contains_run ints (fun r => (r.length : Int) != s.channels) 19 s.cells (by simp) (fun _ => rfl) (fun _ => rfl) (right1_run s) s.rows hl
  have h2 : (s.rows.any fun r => (r.length : Int) != s.channels) = rowsBad s := rfl
  rw [h2] at h1
  simp [Scope.cells] at h0 h1
  rw [run11 (by simp)]
  simp [Tryd.f11, h0, h1]
  unfold right
  unfold I64 at hm
  cases asked s
  · simp
  · cases rowsBad s
    · simp only [Bool.true_eq_false, if_false, if_true, Bool.false_eq_true, or_self]
      split
      · rfl
      · split
        · congr 5
          rw [Bool.eq_iff_iff]
          simp
          omega
        · by_cases h5 : 0 ≤ s.moment
          · rw [wrap_id (by unfold I64; omega)]
            congr 6
          · simp [h5]
    · simp
end Go.Am

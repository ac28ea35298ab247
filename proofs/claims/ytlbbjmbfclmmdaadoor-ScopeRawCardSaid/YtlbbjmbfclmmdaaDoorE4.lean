/-
  scope New and slices.Clone: what a call of each gives.
-/
import Derived.Test.YtlbbjmbfclmmdaaDoorE3
namespace Go.Am
open Go Go.Proofs
set_option maxRecDepth 20000

theorem new_run (c b a h : Int) (l : Int) (u : Bool) : callT ctx 8 [.d (.int .i64 c), .d (.int .i64 b), .d (.int .i64 a), .d (.int .i64 h), .d (.int .i64 l), .d (.bool u)] [] =
    some (.ret (.tup [.d (if asked ⟨c, b, a, h, l, u, [], 0, -1, false⟩ = true then Scope.enc ⟨c, b, a, h, l, u, [], 0, -1, false⟩ else Scope.enc ⟨0, 0, 0, 0, 0, false, [], 0, 0, false⟩), .d (.int .i64 (if asked ⟨c, b, a, h, l, u, [], 0, -1, false⟩ = true then 0 else 1))]), []) := by
  have h0 := asked_run ⟨c, b, a, h, l, u, [], 0, -1, false⟩
  simp at h0
  rw [run8 (by simp)]
  simp [Tryd.f8, h0]
  cases asked ⟨c, b, a, h, l, u, [], 0, -1, false⟩ <;> simp

theorem clone_run (xs : List D) (hs : ∀ d ∈ xs, d.size = 1) (hl : xs.length < 1000000) : callT ctx 22 [.d (.list xs)] [] = some (.ret (.vec 0 0 0 xs.length), [(0, .vec 1 xs)]) := by
  rw [run22 (by simp)]
  cases xs with
  | nil => simp [Tryd.f22]
  | cons x r =>
    simp at hs hl
    have h2 : ((r.length : Int) + 1) * 8 ≤ 140737488355328 := by omega
    have h3 : (r.length + 1) * 8 ≤ 140737488355328 := by omega
    have h4 : r.length + 1 ≤ 4611686018427387904 := by omega
    simp [Tryd.f22, hs.1, h3, h4]
    exact hs.2
end Go.Am

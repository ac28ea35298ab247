/-
  scope copied: what its call gives.
-/
import Derived.Test.YtlbbjmbfclmmdaaDoorE4
namespace Go.Am
open Go Go.Proofs
set_option maxRecDepth 20000

theorem clone_ints (l : List Int) (hl : l.length < 1000000) : callT ctx 22 [.d (ints l)] [] = some (.ret (.vec 0 0 0 l.length), [(0, .vec 1 (l.map fun n => .int .i64 n))]) := by
  have := clone_run (l.map fun n => .int .i64 n) (by simp) (by simpa using hl)
  simpa [ints] using this
def shortRows (rows : List (List Int)) : Prop := rows.length < 1000000 ∧ ∀ r ∈ rows, r.length < 1000000

theorem copied_loop (b1 b2 : List AV) : ∀ (rest pre : List (List Int)) (v : Nat), (pre ++ rest).length < 1000000 → (∀ r ∈ rest, r.length < 1000000) → ∀ k : Kt,
      denK ctx 20 (.loop (Code.at (codeOf Tryd.f20) [1, 1, 0, 1, 0, 0])) ⟨22, gl0, [(1, true, .ptr 150 1 0), (2, true, .ptr 200 1 0), (3, true, .vec 250 v 0 pre.length), (7, true, .d (.list ((pre ++ rest).map ints))), (8, true, .d (.int .i64 (pre ++ rest).length)), (9, true, .d (.int .i64 pre.length))],
          [⟨150, 1, .box b1⟩, ⟨200, 1, .box b2⟩, ⟨250, v, .vec 1 (pre.map ints)⟩]⟩ k =
        k (.exit 0) ⟨22, gl0, [(1, true, .ptr 150 1 0), (2, true, .ptr 200 1 0), (3, true, .vec 250 (v + rest.length) 0 (pre ++ rest).length), (7, true, .d (.list ((pre ++ rest).map ints))), (8, true, .d (.int .i64 (pre ++ rest).length)), (9, true, .d (.int .i64 (pre ++ rest).length)), (10, true, .d (.bool false))],
          [⟨150, 1, .box b1⟩, ⟨200, 1, .box b2⟩, ⟨250, v + rest.length, .vec 1 ((pre ++ rest).map ints)⟩]⟩
  | [], pre, v, hl, hr, k => by
    rw [denK_loop]
    simp [Tryd.f20]
  | x :: rest, pre, v, hl, hr, k => by
    have ih := copied_loop b1 b2 rest (pre ++ [x]) (v + 1)
    rw [denK_loop]
    simp [Tryd.f20] at hl hr ih ⊢
    have h1 : (pre.length : Int) < pre.length + (rest.length + 1) := by omega
    have h2 : IntKind.i64.wrap ((pre.length : Int) + 1) = pre.length + 1 := wrap_id (by unfold I64; omega)
    have hx := clone_ints x hr.1
    simp at hx
    have h3 : (pre.length + 1) * 24 ≤ 140737488355328 := by omega
    have h4 : pre.length ≤ 4611686018427387903 := by omega
    have h5 : v + 1 + rest.length = v + (rest.length + 1) := by omega
    simp [h1, h2, hx, h3, h4, ih hl hr.2, h5]

theorem copied_run (s : Scope) (hl : shortRows s.rows) : callT ctx 20 [.d s.enc] [] = some (.ret (.agg [.d (.int .i64 s.channels), .d (.int .i64 s.before), .d (.int .i64 s.after), .d (.int .i64 s.channel), .d (.int .i64 s.level), .d (.bool s.up), .vec 0 0 0 s.rows.length, .d (.int .i64 s.seen), .d (.int .i64 s.moment), .d (.bool s.done)]), [(0, .vec 1 (s.rows.map ints))]) := by
  rw [run20 (by simp)]
  have h := fun b1 b2 v => copied_loop b1 b2 s.rows [] v (by simpa using hl.1) hl.2
  simp [Tryd.f20] at h ⊢
  simp [h]
end Go.Am

/-
  ref16 Same and Lines of a scope that is not right: what their calls give; Tell keeps a scope right.
-/
import Derived.Test.YtlbbjmbfclmmdaaDoorE7
namespace Go.Am
open Go Go.Proofs
set_option maxRecDepth 20000

theorem same16_loop : ∀ (r1 r2 p1 p2 : List Int), p1.length = p2.length → r1.length = r2.length → (p1 ++ r1).length < 1000000 → ∀ k : Kt,
    denK ctx 16 (.loop (Code.at (codeOf Tryd.f16) [1, 1, 0, 1, 0, 0])) ⟨26, gl0, [(0, true, .d (ints (p1 ++ r1))), (1, true, .d (ints (p2 ++ r2))), (5, true, .d (.int .i64 p1.length))], []⟩ k =
      if r1 = r2 then k (.exit 0) ⟨26, gl0, [(0, true, .d (ints (p1 ++ r1))), (1, true, .d (ints (p2 ++ r2))), (5, true, .d (.int .i64 (p1 ++ r1).length)), (14, true, .d (.bool false))], []⟩
      else k .ret ⟨26, gl0, [(4, true, .d (.bool false))], []⟩
  | [], [], p1, p2, hp, hr, hl, k => by
    rw [denK_loop]
    simp [Tryd.f16] at hl ⊢
  | x :: r1, y :: r2, p1, p2, hp, hr, hl, k => by
    have ih := same16_loop r1 r2 (p1 ++ [x]) (p2 ++ [y]) (by simpa using hp) (by simpa using hr)
    rw [denK_loop]
    simp [Tryd.f16, hp] at hl ih ⊢
    have h1 : (p2.length : Int) < p2.length + (r1.length + 1) := by omega
    have h2 : IntKind.i64.wrap ((p2.length : Int) + 1) = p2.length + 1 := wrap_id (by unfold I64; omega)
    simp [h1, h2, hp]
    rw [drwK_nil (by kernel_rfl)]
    simp [h1, h2, hp, ih hl]
    by_cases hxy : x = y
    · simp [hxy]
    · simp [hxy]
theorem same16_run (xs ys : List Int) (hl : xs.length < 1000000) : callT ctx 16 [.d (ints xs), .d (ints ys)] [] = some (.ret (.d (.bool (decide (xs = ys)))), []) := by
  have h := fun hq => same16_loop xs ys [] [] rfl hq (by simpa using hl)
  rw [run16 (by simp)]
  simp [Tryd.f16] at h ⊢
  by_cases hq : xs.length = ys.length
  · simp [h, hq]
    by_cases hxy : xs = ys
    · simp [hxy]
    · simp [hxy]
  · have h3 : xs ≠ ys := fun h => hq (by rw [h])
    have h4 : ¬ ((xs.length : Int) = ys.length) := by omega
    simp [h4, h3]

theorem lines_none (s : Scope) (hl : s.rows.length < 1000000) (hm : I64 s.moment) (hr : right s = false) : callT ctx 14 [.d s.enc] [] = some (.ret (.d (.str [])), []) := by
  have h1 := right_run s hl hm
  simp [hr] at h1
  rw [run14 (by simp)]
  simp [Tryd.f14, h1]
end Go.Am

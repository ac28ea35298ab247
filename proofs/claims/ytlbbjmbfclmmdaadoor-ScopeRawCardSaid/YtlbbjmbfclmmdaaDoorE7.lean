/-
  awake, small, fits and Same of the law and reference packages: what their calls give.
-/
import Derived.Test.YtlbbjmbfclmmdaaDoorE6
namespace Go.Am
open Go Go.Proofs
set_option maxRecDepth 20000

theorem awake_run : callT ctx 6 [] [] = some (.ret (.d (.bool true)), []) := callT_of 12 (by kernel_rfl)

def smallRows (rows : List (List Int)) : Bool := decide (rows.length ≤ 300) && rows.all (fun r => decide (r.length ≤ 40))
theorem small_loop : ∀ (rest pre : List (List Int)), (pre ++ rest).length < 1000000 → ∀ k : Kt,
    denK ctx 7 (.loop (Code.at (codeOf Tryd.f7) [1, 1, 0, 1, 0, 0])) ⟨19, gl0, [(0, true, .d (.list ((pre ++ rest).map ints))), (3, true, .d (.int .i64 pre.length))], []⟩ k =
      if rest.all (fun r => decide (r.length ≤ 40)) = true then k (.exit 0) ⟨19, gl0, [(0, true, .d (.list ((pre ++ rest).map ints))), (3, true, .d (.int .i64 (pre ++ rest).length)), (10, true, .d (.bool false))], []⟩
      else k .ret ⟨19, gl0, [(2, true, .d (.bool false))], []⟩
  | [], pre, hl, k => by
    rw [denK_loop]
    simp [Tryd.f7]
  | x :: rest, pre, hl, k => by
    have ih := small_loop rest (pre ++ [x])
    rw [denK_loop]
    simp [Tryd.f7] at hl ih ⊢
    have h1 : (pre.length : Int) < pre.length + (rest.length + 1) := by omega
    have h2 : IntKind.i64.wrap ((pre.length : Int) + 1) = pre.length + 1 := wrap_id (by unfold I64; omega)
    simp [h1, h2, ih hl]
    by_cases hx : x.length ≤ 40
    · have : ¬ (40 < (x.length : Int)) := by omega
      simp [hx, this]
    · have : 40 < (x.length : Int) := by omega
      simp [hx, this]
theorem small_run (rows : List (List Int)) : callT ctx 7 [.d (.list (rows.map ints))] [] = some (.ret (.d (.bool (smallRows rows))), []) := by
  rw [run7 (by simp)]
  simp [Tryd.f7]
  by_cases hr : rows.length ≤ 300
  · have h := small_loop rows [] (by simp; omega)
    have h2 : ¬ (300 < (rows.length : Int)) := by omega
    simp [Tryd.f7] at h
    simp [h, h2]
    simp only [smallRows, hr]
    by_cases h3 : ∀ x ∈ rows, x.length ≤ 40
    · have h4 : (rows.all fun r => decide (r.length ≤ 40)) = true := by simpa using h3
      simp [h4, h3]
      exact h3
    · have h4 : (rows.all fun r => decide (r.length ≤ 40)) = false := by simpa using h3
      simp [h4, h3]
  · have h2 : 300 < (rows.length : Int) := by omega
    simp [h2, smallRows, hr]

theorem fits_run (c b a h l : Int) (u : Bool) : callT ctx 9 [.d (.agg [.int .i64 c, .int .i64 b, .int .i64 a, .int .i64 h, .int .i64 l, .bool u])] [] = some (.ret (.d (.bool (asked ⟨c, b, a, h, l, u, [], 0, 0, false⟩))), []) := by
  rw [run9 (by simp)]
  simp [Tryd.f9, asked]

def sameHead (s t : Scope) : Bool := s.channels == t.channels && s.before == t.before && s.after == t.after && s.channel == t.channel && s.level == t.level && s.up == t.up && s.seen == t.seen && s.moment == t.moment && s.done == t.done
theorem same_in (x0 x1 x2 x3 x4 x5 x7 x8 x9 y0 y1 y2 y3 y4 y5 y7 y8 y9 : AV) (P1 P2 Q1 Q2 : List (List Int)) (hP : P1.length = P2.length) (hl1 : (P1 ++ Q1).length < 1000000) : ∀ (r1 r2 p1 p2 : List Int), p1.length = p2.length → r1.length = r2.length → (p1 ++ r1).length < 1000000 → ∀ k : Kt,
    denK ctx 10 (.loop (Code.at (codeOf Tryd.f10) [1, 1, 0, 1, 0, 0, 1, 0, 0, 1, 1, 0, 0])) ⟨124, gl0, [(2, true, .ptr 200 1 0), (3, true, .ptr 250 1 0), (5, true, .d (.int .i64 P1.length)), (6, true, .d (.int .i64 p1.length))],
        [⟨200, 1, .box [x0, x1, x2, x3, x4, x5, .d (.list ((P1 ++ (p1 ++ r1) :: Q1).map ints)), x7, x8, x9]⟩, ⟨250, 1, .box [y0, y1, y2, y3, y4, y5, .d (.list ((P2 ++ (p2 ++ r2) :: Q2).map ints)), y7, y8, y9]⟩]⟩ k =
      if r1 = r2 then k (.exit 2) ⟨124, gl0, [(2, true, .ptr 200 1 0), (3, true, .ptr 250 1 0), (5, true, .d (.int .i64 P1.length)), (6, true, .d (.int .i64 (p1 ++ r1).length)), (104, true, .d (.bool false))],
        [⟨200, 1, .box [x0, x1, x2, x3, x4, x5, .d (.list ((P1 ++ (p1 ++ r1) :: Q1).map ints)), x7, x8, x9]⟩, ⟨250, 1, .box [y0, y1, y2, y3, y4, y5, .d (.list ((P2 ++ (p2 ++ r2) :: Q2).map ints)), y7, y8, y9]⟩]⟩
      else k .ret ⟨124, gl0, [(4, true, .d (.bool false))],
        [⟨200, 1, .box [x0, x1, x2, x3, x4, x5, .d (.list ((P1 ++ (p1 ++ r1) :: Q1).map ints)), x7, x8, x9]⟩, ⟨250, 1, .box [y0, y1, y2, y3, y4, y5, .d (.list ((P2 ++ (p2 ++ r2) :: Q2).map ints)), y7, y8, y9]⟩]⟩
  | [], [], p1, p2, hp, hr, hl, k => by
    rw [denK_loop]
    simp [Tryd.f10] at hl hl1 ⊢
  | x :: r1, y :: r2, p1, p2, hp, hr, hl, k => by
    have ih := same_in x0 x1 x2 x3 x4 x5 x7 x8 x9 y0 y1 y2 y3 y4 y5 y7 y8 y9 P1 P2 Q1 Q2 hP hl1 r1 r2 (p1 ++ [x]) (p2 ++ [y]) (by simpa using hp) (by simpa using hr)
    rw [denK_loop]
    simp [Tryd.f10, hP, hp] at hl hl1 ih ⊢
    have h1 : (p2.length : Int) < p2.length + (r1.length + 1) := by omega
    have h2 : IntKind.i64.wrap ((p2.length : Int) + 1) = p2.length + 1 := wrap_id (by unfold I64; omega)
    simp [h1, h2, hP, hp]
    rw [drwK_nil (by kernel_rfl)]
    simp [h1, h2, hP, hp, ih hl]
    by_cases hxy : x = y
    · simp [hxy]
    · simp [hxy]

theorem same_out (x0 x1 x2 x3 x4 x5 x7 x8 x9 y0 y1 y2 y3 y4 y5 y7 y8 y9 : AV) : ∀ (Q1 Q2 P1 P2 : List (List Int)), P1.length = P2.length → Q1.length = Q2.length → (P1 ++ Q1).length < 1000000 → (∀ r ∈ Q1, r.length < 1000000) → ∀ k : Kt,
    denK ctx 10 (.loop (Code.at (codeOf Tryd.f10) [1, 1, 0, 1, 0, 0])) ⟨124, gl0, [(2, true, .ptr 200 1 0), (3, true, .ptr 250 1 0), (5, true, .d (.int .i64 P1.length))],
        [⟨200, 1, .box [x0, x1, x2, x3, x4, x5, .d (.list ((P1 ++ Q1).map ints)), x7, x8, x9]⟩, ⟨250, 1, .box [y0, y1, y2, y3, y4, y5, .d (.list ((P2 ++ Q2).map ints)), y7, y8, y9]⟩]⟩ k =
      if Q1 = Q2 then k (.exit 0) ⟨124, gl0, [(2, true, .ptr 200 1 0), (3, true, .ptr 250 1 0), (5, true, .d (.int .i64 (P1 ++ Q1).length)), (81, true, .d (.bool false))],
        [⟨200, 1, .box [x0, x1, x2, x3, x4, x5, .d (.list ((P1 ++ Q1).map ints)), x7, x8, x9]⟩, ⟨250, 1, .box [y0, y1, y2, y3, y4, y5, .d (.list ((P2 ++ Q2).map ints)), y7, y8, y9]⟩]⟩
      else k .ret ⟨124, gl0, [(4, true, .d (.bool false))],
        [⟨200, 1, .box [x0, x1, x2, x3, x4, x5, .d (.list ((P1 ++ Q1).map ints)), x7, x8, x9]⟩, ⟨250, 1, .box [y0, y1, y2, y3, y4, y5, .d (.list ((P2 ++ Q2).map ints)), y7, y8, y9]⟩]⟩
  | [], [], P1, P2, hP, hQ, hl, hr, k => by
    rw [denK_loop]
    simp [Tryd.f10] at hl ⊢
  | x :: Q1, y :: Q2, P1, P2, hP, hQ, hl, hr, k => by
    have ih := same_out x0 x1 x2 x3 x4 x5 x7 x8 x9 y0 y1 y2 y3 y4 y5 y7 y8 y9 Q1 Q2 (P1 ++ [x]) (P2 ++ [y]) (by simpa using hP) (by simpa using hQ) (by simpa using hl) (fun r h => hr r (by simp [h]))
    have hin := fun h => same_in x0 x1 x2 x3 x4 x5 x7 x8 x9 y0 y1 y2 y3 y4 y5 y7 y8 y9 P1 P2 Q1 Q2 hP (by simp at hl ⊢; omega) x y [] [] rfl h (by simpa using hr x (by simp))
    rw [denK_loop]
    simp [Tryd.f10, hP] at hl ih hin ⊢
    have h1 : (P2.length : Int) < P2.length + (Q1.length + 1) := by omega
    have h2 : IntKind.i64.wrap ((P2.length : Int) + 1) = P2.length + 1 := wrap_id (by unfold I64; omega)
    simp [h1, h2, hP]
    rw [drwK_nil (by kernel_rfl)]
    by_cases hxy : x.length = y.length
    · simp [h1, h2, hP, hxy, hin hxy, ih]
      by_cases hxx : x = y
      · simp [hxx]
      · simp [hxx]
    · have : ¬ ((x.length : Int) = y.length) := by omega
      have h3 : x ≠ y := fun h => hxy (by rw [h])
      simp [h1, h2, hP, this, h3]

theorem same_run (s t : Scope) (hl : shortRows s.rows) : callT ctx 10 [.d s.enc, .d t.enc] [] = some (.ret (.d (.bool (sameHead s t && decide (s.rows = t.rows)))), []) := by
  have h := fun x0 x1 x2 x3 x4 x5 x7 x8 x9 y0 y1 y2 y3 y4 y5 y7 y8 y9 hq => same_out x0 x1 x2 x3 x4 x5 x7 x8 x9 y0 y1 y2 y3 y4 y5 y7 y8 y9 s.rows t.rows [] [] rfl hq (by simpa using hl.1) hl.2
  rw [run10 (by simp)]
  simp [Tryd.f10] at h ⊢
  by_cases hq : s.rows.length = t.rows.length
  · simp [h, hq]
    cases hh : sameHead s t
    · simp [sameHead] at hh
      rw [if_pos (by grind)]
      rfl
    · simp [sameHead] at hh
      simp [hh]
      split <;> simp_all
  · have h3 : s.rows ≠ t.rows := fun h => hq (by rw [h])
    have h4 : ¬ ((s.rows.length : Int) = t.rows.length) := by omega
    simp [h4, h3]
end Go.Am

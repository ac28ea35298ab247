/-
  The law ScopeFirst gives true at every datum.
-/
import Derived.Test.YtlbbjmbfclmmdaaDoorE7
namespace Go.Am
open Go Go.Proofs
set_option maxRecDepth 20000

/-- What a law about a scope keeps of it. -/
def Kept (c b a h l : Int) (u : Bool) (s : Scope) : Prop :=
  s.channels = c ∧ s.before = b ∧ s.after = a ∧ s.channel = h ∧ s.level = l ∧ s.up = u ∧ (s.rows.length : Int) ≤ max b 1 + a ∧ (∀ r ∈ s.rows, r.length < 1000000) ∧ I64 s.moment ∧ I64 s.seen

theorem cut_length (rows : List (List Int)) (n : Int) (h : 0 ≤ n) : ((cut rows n).length : Int) ≤ n ∧ (cut rows n).length ≤ rows.length := by
  simp only [cut, List.length_drop]
  omega
theorem cut_mem {rows : List (List Int)} {n : Int} {r : List Int} (h : r ∈ cut rows n) : r ∈ rows := List.mem_of_mem_drop h
theorem Kept.tell {c b a h l : Int} {u : Bool} {s : Scope} {row : List Int} (hs : Kept c b a h l u s) (hb : 0 ≤ b ∧ b ≤ 500) (ha : 1 ≤ a ∧ a ≤ 500) (hr : row.length < 1000000) : Kept c b a h l u (tell s row) := by
  unfold Am.tell
  split
  · exact hs
  · rename_i hc
    simp only [not_or, Bool.not_eq_false, Bool.not_eq_true, ne_eq, Decidable.not_not] at hc
    obtain ⟨c1, c2, c3, c4⟩ := hc
    obtain ⟨f1, f2, f3, f4⟩ := right_facts c1
    obtain ⟨k1, k2, k3, k4, k5, k6, k7, k8, k9, k10⟩ := hs
    have hh : hits s row = true → s.moment < 0 := by
      intro hh
      simp only [hits, Bool.and_eq_true, decide_eq_true_eq] at hh
      exact hh.1
    unfold I64 at k9 k10
    simp only [c2, false_eq_decide_iff] at f4
    refine ⟨k1, k2, k3, k4, k5, k6, ?_, ?_, ?_, ?_⟩
    · cases hq : hits s row
      · simp only [hq, Bool.false_eq_true, if_false]
        split
        · have := (cut_length (s.rows ++ [row]) (max s.before 1) (by omega)).1
          omega
        · rename_i hm
          rw [if_neg (by omega)] at f4
          simp only [List.length_append, List.length_cons, List.length_nil]
          omega
      · have h1 := cut_length s.rows s.before (by omega)
        simp only [if_true]
        rw [if_neg (by omega)]
        simp only [List.length_append, List.length_cons, List.length_nil]
        omega
    · intro r h
      cases hq : hits s row <;> simp only [hq, Bool.false_eq_true, if_false, if_true] at h
      · have : r ∈ s.rows ++ [row] := by
          split at h
          · exact cut_mem h
          · exact h
        simp only [List.mem_append, List.mem_singleton] at this
        rcases this with h1 | rfl
        · exact k8 r h1
        · exact hr
      · rw [if_neg (by omega)] at h
        simp only [List.mem_append, List.mem_singleton] at h
        rcases h with h1 | rfl
        · exact k8 r (cut_mem h1)
        · exact hr
    · simp only []
      have h1 := cut_length s.rows s.before (by omega)
      unfold I64
      split <;> omega
    · simp only []
      unfold I64
      omega
theorem tell_done {s : Scope} {row : List Int} (h : s.done = true) : tell s row = s := by
  simp [tell, h]
theorem tell_moment {s : Scope} {row : List Int} (h : 0 ≤ s.moment) : (tell s row).moment = s.moment := by
  unfold tell
  split
  · rfl
  · have : hits s row = false := by simp [hits]; omega
    simp [this]
theorem tell_seen (s : Scope) (row : List Int) : s.seen ≤ (tell s row).seen := by
  unfold tell
  split
  · exact Int.le_refl _
  · simp only []; omega

theorem first_loop (c b a h l : Int) (u : Bool) (hb : 0 ≤ b ∧ b ≤ 500) (ha : 1 ≤ a ∧ a ≤ 500) : ∀ (rest pre : List (List Int)) (s : Scope) (v : Nat) (ct : Cont), Kept c b a h l u s → (pre ++ rest).length < 1000000 → (∀ r ∈ rest, r.length < 1000000) → ∀ k : Kt,
    ∃ s', denK ctx 4 (.loop (Code.at (codeOf Tryd.f4) [1, 1, 1, 1, 0, 1, 0, 0])) ⟨87, gl0, [(1, true, .d (.list ((pre ++ rest).map ints))), (2, true, .ptr 200 1 0), (5, true, .ptr 350 1 0), (7, true, .d (.int .i64 pre.length))],
        [⟨200, 1, .box [.d (.int .i64 c), .d (.int .i64 b), .d (.int .i64 a), .d (.int .i64 h), .d (.int .i64 l), .d (.bool u)]⟩, ⟨350, 1, .box (s.cells.map .d)⟩, ⟨500, v, ct⟩]⟩ k =
      k (.exit 0) s'
  | [], pre, s, v, ct, hs, hl, hr, k => by
    refine ⟨?_, ?_⟩
    rotate_left
    · rw [denK_loop]
      simp [Tryd.f4, Scope.cells]
      rfl
  | x :: rest, pre, s, v, ct, hs, hl, hr, k => by
    have ih := first_loop c b a h l u hb ha rest (pre ++ [x]) (tell s x) (v + 1) (.box ((tell s x).cells.map .d)) (hs.tell hb ha (hr x (by simp))) (by simpa using hl) (fun r h => hr r (by simp [h])) k
    obtain ⟨s', ih⟩ := ih
    refine ⟨s', ?_⟩
    rw [denK_loop]
    simp [Tryd.f4, Scope.cells] at hl ih ⊢
    have h1 : (pre.length : Int) < pre.length + (rest.length + 1) := by omega
    have h2 : IntKind.i64.wrap ((pre.length : Int) + 1) = pre.length + 1 := wrap_id (by unfold I64; omega)
    have h3 := tell_run s x ⟨by have := hs.2.2.2.2.2.2.1; omega, hs.2.2.2.2.2.2.2.1⟩ (hr x (by simp)) hs.2.2.2.2.2.2.2.2.1 hs.2.2.2.2.2.2.2.2.2
    have hn := hs.tell (row := x) hb ha (hr x (by simp))
    have t1 := tell_done (s := s) (row := x)
    have t2 := tell_moment (s := s) (row := x)
    have t3 := tell_seen s x
    generalize tell s x = n at ih h3 hn t1 t2 t3
    have t4 : (n.rows.length : Int) ≤ IntKind.i64.wrap ((if b < 1 then 1 else b) + a) := by
      have := hn.2.2.2.2.2.2.1
      by_cases hb1 : b < 1
      · rw [if_pos hb1, wrap_id (by unfold I64; omega)]; omega
      · rw [if_neg hb1, wrap_id (by unfold I64; omega)]; omega
    have t5 : ¬ (n.seen < s.seen) := by omega
    have t7 := same_run s s ⟨by have := hs.2.2.2.2.2.2.1; omega, hs.2.2.2.2.2.2.2.1⟩
    have t8 : s.seen ≤ n.seen := t3
    simp at h3
    simp [h1, h2, h3]
    rw [drwK_nil (by kernel_rfl)]
    simp
    cases hd : s.done
    · by_cases hm : 0 ≤ s.moment
      · have tm := t2 hm
        simp [tm] at ih
        simp [t4, t5, hm, tm, h2, ih]
      · simp [t4, t5, hm, h2, ih]
    · obtain rfl := t1 hd
      simp [sameHead, hd] at t7
      simp [hd] at ih
      by_cases hm : 0 ≤ n.moment
      · simp [t4, t7, hm, ih, hd, h2]
      · simp [t4, t7, hm, ih, hd, h2]

theorem first_run (c b a h l : Int) (u : Bool) (rows : List (List Int)) :
    callT ctx 4 [.d (.agg [.int .i64 c, .int .i64 b, .int .i64 a, .int .i64 h, .int .i64 l, .bool u]), .d (.list (rows.map ints))] [] = some (.ret (.d (.bool true)), []) := by
  have h1 := small_run rows
  have h2 := fits_run c b a h l u
  have h3 := new_run c b a h l u
  simp at h1 h2 h3
  rw [run4 (by simp)]
  simp [Tryd.f4, awake_run, h1, h2, h3]
  cases hs : smallRows rows
  · simp
  · cases hf : asked ⟨c, b, a, h, l, u, [], 0, 0, false⟩
    · simp
    · have hq : asked ⟨c, b, a, h, l, u, [], 0, -1, false⟩ = true := hf
      have hz := hf
      simp [smallRows, asked] at hs hz
      have hloop := fun ct => first_loop c b a h l u (by omega) (by omega) rows [] ⟨c, b, a, h, l, u, [], 0, -1, false⟩ 0 ct ⟨rfl, rfl, rfl, rfl, rfl, rfl, by simp; omega, by simp, by unfold I64; simp, by unfold I64; simp⟩ (by simp; omega) (fun r h => by have := hs.2 r h; omega)
      simp [Tryd.f4, Scope.cells] at hloop
      simp [hq]
      rw [Classical.choose_spec (hloop _ _)]
      generalize Classical.choose _ = s'
      simp
end Go.Am

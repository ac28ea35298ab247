/-
  Tell keeps a scope right.
-/
import Derived.Test.YtlbbjmbfclmmdaaDoorE11
namespace Go.Am
open Go Go.Proofs
set_option maxRecDepth 20000

theorem right_of {s : Scope} (h1 : asked s = true) (h2 : ∀ r ∈ s.rows, (r.length : Int) = s.channels) (h3 : (s.rows.length : Int) ≤ s.seen)
    (h4 : if s.moment = -1 then (s.rows.length : Int) ≤ max s.before 1 ∧ s.done = false else 0 ≤ s.moment ∧ s.moment ≤ s.before ∧ 1 ≤ s.rows.length - s.moment ∧ s.rows.length - s.moment ≤ s.after ∧ s.done = decide (s.rows.length - s.moment = s.after)) : right s = true := by
  have hb : rowsBad s = false := by
    unfold rowsBad
    simpa using h2
  unfold right
  rw [if_neg (by simp [h1, hb]), if_neg (by omega)]
  split at h4
  · rename_i h5
    rw [if_pos h5]
    simpa using h4
  · rename_i h5
    rw [if_neg h5]
    obtain ⟨a, b, c, d, e⟩ := h4
    simp [a, b, c, d, e]

theorem asked_of_right {s : Scope} (h : right s = true) : asked s = true := by
  unfold right at h
  split at h
  · cases h
  · rename_i h1
    simp only [not_or, Bool.not_eq_false] at h1
    exact h1.1

theorem cut_length2 (rows : List (List Int)) (n : Int) (h : 0 ≤ n) : ((cut rows n).length : Int) = min (rows.length : Int) n := by
  simp only [cut, List.length_drop]
  omega
theorem cut_mem2 {rows : List (List Int)} {n : Int} {r : List Int} (h : r ∈ cut rows n) : r ∈ rows := List.mem_of_mem_drop h

theorem right_tell {s : Scope} {row : List Int} (h : right s = true) : right (tell s row) = true := by
  unfold tell
  split
  · exact h
  · rename_i hc
    simp only [not_or, Bool.not_eq_false, Bool.not_eq_true, ne_eq, Decidable.not_not] at hc
    obtain ⟨c1, c2, c3, c4⟩ := hc
    obtain ⟨f1, f2, f3, f4⟩ := right_facts c1
    have ha := asked_of_right c1
    simp only [c2, false_eq_decide_iff] at f4
    have hh : hits s row = true → s.moment < 0 := by
      intro hh
      simp only [hits, Bool.and_eq_true, decide_eq_true_eq] at hh
      exact hh.1
    have b0 : 0 ≤ s.before := by omega
    have l1 := cut_length2 s.rows s.before b0
    have l2 := cut_length2 (s.rows ++ [row]) (max s.before 1) (by omega)
    simp only [List.length_append, List.length_cons, List.length_nil] at l2
    cases hq : hits s row
    · simp only [hq, Bool.false_eq_true, if_false]
      by_cases hm : s.moment < 0
      · have hm1 : s.moment = -1 := by
          split at f4
          · assumption
          · omega
        simp only [hm, if_true]
        refine right_of ha ?_ ?_ ?_
        · intro r hr
          have := cut_mem2 hr
          simp only [List.mem_append, List.mem_singleton] at this
          rcases this with h1 | rfl
          · exact f2 r h1
          · exact c3
        · simp only []
          omega
        · simp only [hm1, if_true]
          refine ⟨by omega, by simp⟩
      · simp only [hm, if_false]
        rw [if_neg (by omega)] at f4
        refine right_of ha ?_ ?_ ?_
        · intro r hr
          simp only [List.mem_append, List.mem_singleton] at hr
          rcases hr with h1 | rfl
          · exact f2 r h1
          · exact c3
        · simp only [List.length_append, List.length_cons, List.length_nil]
          omega
        · simp only [List.length_append, List.length_cons, List.length_nil]
          rw [if_neg (by omega)]
          have : 0 ≤ s.moment := by omega
          refine ⟨by omega, by omega, by omega, by omega, by simp [this]⟩
    · have hm := hh hq
      simp only [if_true]
      rw [if_neg (by omega)]
      refine right_of ha ?_ ?_ ?_
      · intro r hr
        simp only [List.mem_append, List.mem_singleton] at hr
        rcases hr with h1 | rfl
        · exact f2 r (cut_mem2 h1)
        · exact c3
      · simp only [List.length_append, List.length_cons, List.length_nil]
        omega
      · simp only [List.length_append, List.length_cons, List.length_nil]
        rw [if_neg (by omega)]
        have : (0 : Int) ≤ (cut s.rows s.before).length := by omega
        refine ⟨by omega, by omega, by omega, by omega, by simp [this]⟩
end Go.Am

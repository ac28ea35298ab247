/-
  The law ScopeRaw gives true at every datum.
-/
import Derived.Test.YtlbbjmbfclmmdaaDoorE12
namespace Go.Am
open Go Go.Proofs
set_option maxRecDepth 20000

theorem tell_short {s : Scope} {row : List Int} (hl : s.rows.length ≤ 1000) (hs : ∀ r ∈ s.rows, r.length < 1000000) (hr : row.length < 1000000) (hm : I64 s.moment) :
    shortRows (tell s row).rows ∧ I64 (tell s row).moment := by
  unfold tell
  split
  · exact ⟨⟨by omega, hs⟩, hm⟩
  · have l1 : (cut s.rows s.before).length ≤ s.rows.length := by simp only [cut, List.length_drop]; omega
    have m1 : ∀ r ∈ cut s.rows s.before, r.length < 1000000 := fun r h => hs r (cut_mem2 h)
    have key : ∀ rs : List (List Int), rs.length ≤ 1000 → (∀ r ∈ rs, r.length < 1000000) → ∀ (b : Prop) [Decidable b] (n : Int), shortRows (if b then cut (rs ++ [row]) n else rs ++ [row]) := by
      intro rs h1 h2 b _ n
      have h3 : ∀ r ∈ rs ++ [row], r.length < 1000000 := by
        intro r h
        simp only [List.mem_append, List.mem_singleton] at h
        rcases h with h | rfl
        · exact h2 r h
        · exact hr
      split
      · refine ⟨?_, fun r h => h3 r (cut_mem2 h)⟩
        have : (cut (rs ++ [row]) n).length ≤ (rs ++ [row]).length := by simp only [cut, List.length_drop]; omega
        simp only [List.length_append, List.length_cons, List.length_nil] at this
        omega
      · refine ⟨?_, h3⟩
        simp only [List.length_append, List.length_cons, List.length_nil]
        omega
    cases hits s row
    · simp only [Bool.false_eq_true, if_false]
      exact ⟨key s.rows hl hs _ _, hm⟩
    · simp only [if_true]
      exact ⟨key _ (by omega) m1 _ _, by unfold I64; omega⟩

theorem raw_run (s : Scope) (row : List Int) (hm : I64 s.moment) (hsn : I64 s.seen) : callT ctx 5 [.d s.enc, .d (ints row)] [] = some (.ret (.d (.bool true)), []) := by
  have h1 := small_run s.rows
  rw [run5 (by simp)]
  simp [Tryd.f5, awake_run, h1]
  cases hs : smallRows s.rows
  · simp
  · by_cases hr : row.length ≤ 40
    · have hr1 : ¬ (40 < (row.length : Int)) := by omega
      simp [smallRows] at hs
      have hl : ∀ r ∈ s.rows, r.length < 1000000 := fun r h => by have := hs.2 r h; omega
      have h2 := tell_run s row ⟨by omega, hl⟩ (by omega) hm hsn
      have h3 := same16_run row row (by omega)
      have h4 := right_run s (by omega) hm
      have hn := tell_short (s := s) (row := row) (by omega) hl (by omega) hm
      have hrt : right s = true → right (tell s row) = true := right_tell
      have hsame : right s = false ∨ (row.length : Int) ≠ s.channels → tell s row = s := fun h => by
        unfold tell
        rw [if_pos (by rcases h with h | h <;> simp [h])]
      have h7 := lines_none s (by omega) hm
      have e1 : (if row.length = 0 then (0 : Nat) else 0) = 0 := by simp
      generalize tell s row = n at h2 hn hrt hsame
      have h5 := right_run n hn.1.1 hn.2
      have h6 := same_run n s hn.1
      simp at h2 h3 h4 h5 h6 h7
      have m1 : row.length * 8 ≤ 140737488355328 := by omega
      have m2 : row.length ≤ 4611686018427387904 := by omega
      simp [hr1, h2, h3, h4, m1, m2]
      cases hq : right s
      · obtain rfl := hsame (.inl hq)
        have h8 := h7 hq
        simp [sameHead] at h6 h8
        simp [hq, h6, h8]
      · have h9 := hrt hq
        simp [h9] at h5
        by_cases hc : (row.length : Int) = s.channels
        · simp [h5, hc]
        · obtain rfl := hsame (.inr hc)
          simp [sameHead] at h6
          simp [h5, h6, hc]
    · have hr1 : 40 < (row.length : Int) := by omega
      simp [hr1]
      intro h
      omega
end Go.Am

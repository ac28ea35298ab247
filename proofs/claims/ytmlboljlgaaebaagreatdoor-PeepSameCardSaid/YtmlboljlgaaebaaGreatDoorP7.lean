/-
  Texts of one proof, one behind the other.
-/
import Derived.Test.YtmlboljlgaaebaaGreatDoorP6
set_option linter.all false
section
namespace Go.Am
open Go Go.Proofs
set_option maxRecDepth 20000
def retLen : Option (Out × List (Nat × Cont)) → Option Nat
  | some (.ret (.d (.list l)), []) => some l.length
  | _ => none
theorem retLen_some {r : Option (Out × List (Nat × Cont))} {n : Nat} (h : retLen r = some n) : ∃ l, r = some (.ret (.d (.list l)), []) ∧ l.length = n := by
  unfold retLen at h
  split at h
  · rename_i l; exact ⟨l, rfl, by simpa using h⟩
  · cases h
theorem pins_of {f : FuncId} {b : Int} {n : Nat} (h : retLen (callN ctx 120 f [.d (.int .i64 b)] []) = some n) : ∃ l : List D, callT ctx f [.d (.int .i64 b)] [] = some (.ret (.d (.list l)), []) ∧ l.length = n := by
  obtain ⟨l, h1, h2⟩ := retLen_some h
  exact ⟨l, callT_of 120 h1, h2⟩
theorem pins10 : retLen (callN ctx 120 41 [.d (.int .i64 10)] []) = some 4 := by kernel_rfl
theorem pins11 : retLen (callN ctx 120 41 [.d (.int .i64 11)] []) = some 4 := by kernel_rfl
theorem pins12 : retLen (callN ctx 120 41 [.d (.int .i64 12)] []) = some 6 := by kernel_rfl
theorem pins13 : retLen (callN ctx 120 41 [.d (.int .i64 13)] []) = some 6 := by kernel_rfl
theorem pins14 : retLen (callN ctx 120 41 [.d (.int .i64 14)] []) = some 6 := by kernel_rfl
theorem pins15 : retLen (callN ctx 120 41 [.d (.int .i64 15)] []) = some 3 := by kernel_rfl
theorem pins16 : retLen (callN ctx 120 41 [.d (.int .i64 16)] []) = some 3 := by kernel_rfl
theorem pins17 : retLen (callN ctx 120 41 [.d (.int .i64 17)] []) = some 3 := by kernel_rfl
theorem pins18 : retLen (callN ctx 120 41 [.d (.int .i64 18)] []) = some 3 := by kernel_rfl
theorem pins20 : retLen (callN ctx 120 41 [.d (.int .i64 20)] []) = some 4 := by kernel_rfl
theorem pins21 : retLen (callN ctx 120 41 [.d (.int .i64 21)] []) = some 9 := by kernel_rfl
theorem pins22 : retLen (callN ctx 120 41 [.d (.int .i64 22)] []) = some 9 := by kernel_rfl
theorem pins23 : retLen (callN ctx 120 41 [.d (.int .i64 23)] []) = some 9 := by kernel_rfl
theorem pins24 : retLen (callN ctx 120 41 [.d (.int .i64 24)] []) = some 12 := by kernel_rfl
theorem pins25 : retLen (callN ctx 120 41 [.d (.int .i64 25)] []) = some 12 := by kernel_rfl
theorem pins26 : retLen (callN ctx 120 41 [.d (.int .i64 26)] []) = some 12 := by kernel_rfl
theorem pins27 : retLen (callN ctx 120 41 [.d (.int .i64 27)] []) = some 10 := by kernel_rfl
theorem pins28 : retLen (callN ctx 120 41 [.d (.int .i64 28)] []) = some 12 := by kernel_rfl
theorem pins29 : retLen (callN ctx 120 41 [.d (.int .i64 29)] []) = some 5 := by kernel_rfl
theorem pins30 : retLen (callN ctx 120 41 [.d (.int .i64 30)] []) = some 6 := by kernel_rfl
theorem pins31 : retLen (callN ctx 120 41 [.d (.int .i64 31)] []) = some 4 := by kernel_rfl
def kindsL : List Int := [10, 11, 12, 13, 14, 15, 16, 17, 18, 20, 21, 22, 23, 24, 25, 26, 27, 28, 29, 30, 31]
def pinsN (b : Int) : Nat :=
  if b = 10 then 4 else if b = 11 then 4 else if b = 12 then 6 else if b = 13 then 6 else if b = 14 then 6 else if b = 15 then 3 else if b = 16 then 3 else if b = 17 then 3 else if b = 18 then 3 else if b = 20 then 4 else if b = 21 then 9 else if b = 22 then 9 else if b = 23 then 9 else if b = 24 then 12 else if b = 25 then 12 else if b = 26 then 12 else if b = 27 then 10 else if b = 28 then 12 else if b = 29 then 5 else if b = 30 then 6 else if b = 31 then 4 else 0
def sheetOf : D → Option Int
  | .agg [.int .i64 k, .str _, .str _, .str _, .int .i64 _] => some k
  | _ => none
theorem sheetOf_some {d : D} {k : Int} (h : sheetOf d = some k) : ∃ a b c n, d = .agg [.int .i64 k, .str a, .str b, .str c, .int .i64 n] := by
  unfold sheetOf at h
  split at h
  · rename_i k' a b c n
    cases h
    exact ⟨a, b, c, n, rfl⟩
  · cases h
def sheetsOf : Option (Out × List (Nat × Cont)) → Option (List (Option Int))
  | some (.ret (.d (.list l)), []) => some (l.map sheetOf)
  | _ => none
theorem sheets_n : sheetsOf (callN ctx 120 76 [] []) = some (kindsL.map some) := by kernel_rfl
theorem sheets_run : ∃ l : List D, callT ctx 76 [] [] = some (.ret (.d (.list l)), []) ∧ l.map sheetOf = kindsL.map some := by
  have h := sheets_n
  generalize hr : callN ctx 120 76 [] [] = r at h
  unfold sheetsOf at h
  split at h
  · rename_i l
    exact ⟨l, callT_of 120 hr, by simpa using h⟩
  · cases h
theorem sheet1_run (d : D) (k b : Int) (hd : sheetOf d = some k) : callT ctx 78 [.d d, .ptr 0 0 0] [.box [.d (.int .i64 b)]] = some (.ret (.d (.bool (decide (k = b)))), [(0, .box [.d (.int .i64 b)])]) := by
  obtain ⟨a, e, c, n, rfl⟩ := sheetOf_some hd
  rw [run78 (by simp)]
  simp [Tryz.f78]
theorem sheetIdx_loop (b : Int) : ∀ (rest pre : List D), (∀ d ∈ rest, ∃ k, sheetOf d = some k ∧ k ≠ b) → (pre ++ rest).length < 1000 → ∀ k : Kt,
    denK ctx 77 (.loop (Code.at (codeOf Tryz.f77) [1, 0, 1, 0, 0])) ⟨19, gl0, [(0, true, .d (.list (pre ++ rest))), (1, true, .fn 78 [.ptr 0 0 0]), (7, true, .d (.int .i64 (pre ++ rest).length)), (8, true, .d (.int .i64 pre.length))], [⟨0, 0, .box [.d (.int .i64 b)]⟩]⟩ k =
      k (.exit 0) ⟨19, gl0, [(0, true, .d (.list (pre ++ rest))), (1, true, .fn 78 [.ptr 0 0 0]), (7, true, .d (.int .i64 (pre ++ rest).length)), (8, true, .d (.int .i64 (pre ++ rest).length)), (9, true, .d (.bool false))], [⟨0, 0, .box [.d (.int .i64 b)]⟩]⟩
  | [], pre, h, hl, k => by
    rw [denK_loop]
    simp [Tryz.f77]
  | d :: rest, pre, h, hl, k => by
    obtain ⟨kd, hk, hne⟩ := h d (by simp)
    have hs := sheet1_run d kd b hk
    obtain ⟨a1, a2, a3, a4, rfl⟩ := sheetOf_some hk
    have ih := sheetIdx_loop b rest (pre ++ [.agg [.int .i64 kd, .str a1, .str a2, .str a3, .int .i64 a4]]) (fun d hd => h d (by simp [hd])) (by simpa using hl) k
    have h1 : (pre.length : Int) < pre.length + (rest.length + 1) := by omega
    have h2 : IntKind.i64.wrap ((pre.length : Int) + 1) = pre.length + 1 := wrap_id (by unfold I64; simp at hl; omega)
    simp [hne] at hs
    rw [denK_loop]
    simp [Tryz.f77] at ih ⊢
    simp [h1, h2, hs, ih]
theorem pins_none (b : Int) (hb : b ∉ kindsL) : callT ctx 41 [.d (.int .i64 b)] [] = some (.ret (.d (.list [])), []) := by
  obtain ⟨l, hl, hm⟩ := sheets_run
  have hlen : l.length = 21 := by have := congrArg List.length hm; simpa [kindsL] using this
  have hall : ∀ d ∈ l, ∃ k, sheetOf d = some k ∧ k ≠ b := by
    intro d hd
    have h1 : sheetOf d ∈ l.map sheetOf := List.mem_map_of_mem hd
    rw [hm] at h1
    obtain ⟨k, hk, he⟩ := List.mem_map.1 h1
    exact ⟨k, he.symm, fun h => hb (h ▸ hk)⟩
  have hloop := sheetIdx_loop b l [] hall (by simp; omega)
  have hidx : callT ctx 77 [.d (.list l), .fn 78 [.ptr 0 0 0]] [.box [.d (.int .i64 b)]] = some (.ret (.d (.int .i64 (-1))), [(0, .box [.d (.int .i64 b)])]) := by
    rw [run77 (by simp)]
    simp [Tryz.f77] at hloop ⊢
    simp [hloop]
  have hof : callT ctx 59 [.d (.int .i64 b)] [] = some (.ret (.tup [.d (.agg [.int .i64 0, .str [], .str [], .str [], .int .i64 0]), .d (.bool false)]), []) := by
    rw [run59 (by simp)]
    simp [Tryz.f59, hl, hidx]
  rw [run41 (by simp)]
  simp [Tryz.f41, hof]
theorem pins_ok : PinsOk 41 pinsN := by
  intro b
  by_cases hb : b ∈ kindsL
  · simp only [kindsL, List.mem_cons, List.not_mem_nil, or_false] at hb
    rcases hb with rfl | rfl | rfl | rfl | rfl | rfl | rfl | rfl | rfl | rfl | rfl | rfl | rfl | rfl | rfl | rfl | rfl | rfl | rfl | rfl | rfl
    · obtain ⟨l, h1, h2⟩ := pins_of pins10; exact ⟨l, h1, by rw [h2]; rfl, by decide⟩
    · obtain ⟨l, h1, h2⟩ := pins_of pins11; exact ⟨l, h1, by rw [h2]; rfl, by decide⟩
    · obtain ⟨l, h1, h2⟩ := pins_of pins12; exact ⟨l, h1, by rw [h2]; rfl, by decide⟩
    · obtain ⟨l, h1, h2⟩ := pins_of pins13; exact ⟨l, h1, by rw [h2]; rfl, by decide⟩
    · obtain ⟨l, h1, h2⟩ := pins_of pins14; exact ⟨l, h1, by rw [h2]; rfl, by decide⟩
    · obtain ⟨l, h1, h2⟩ := pins_of pins15; exact ⟨l, h1, by rw [h2]; rfl, by decide⟩
    · obtain ⟨l, h1, h2⟩ := pins_of pins16; exact ⟨l, h1, by rw [h2]; rfl, by decide⟩
    · obtain ⟨l, h1, h2⟩ := pins_of pins17; exact ⟨l, h1, by rw [h2]; rfl, by decide⟩
    · obtain ⟨l, h1, h2⟩ := pins_of pins18; exact ⟨l, h1, by rw [h2]; rfl, by decide⟩
    · obtain ⟨l, h1, h2⟩ := pins_of pins20; exact ⟨l, h1, by rw [h2]; rfl, by decide⟩
    · obtain ⟨l, h1, h2⟩ := pins_of pins21; exact ⟨l, h1, by rw [h2]; rfl, by decide⟩
    · obtain ⟨l, h1, h2⟩ := pins_of pins22; exact ⟨l, h1, by rw [h2]; rfl, by decide⟩
    · obtain ⟨l, h1, h2⟩ := pins_of pins23; exact ⟨l, h1, by rw [h2]; rfl, by decide⟩
    · obtain ⟨l, h1, h2⟩ := pins_of pins24; exact ⟨l, h1, by rw [h2]; rfl, by decide⟩
    · obtain ⟨l, h1, h2⟩ := pins_of pins25; exact ⟨l, h1, by rw [h2]; rfl, by decide⟩
    · obtain ⟨l, h1, h2⟩ := pins_of pins26; exact ⟨l, h1, by rw [h2]; rfl, by decide⟩
    · obtain ⟨l, h1, h2⟩ := pins_of pins27; exact ⟨l, h1, by rw [h2]; rfl, by decide⟩
    · obtain ⟨l, h1, h2⟩ := pins_of pins28; exact ⟨l, h1, by rw [h2]; rfl, by decide⟩
    · obtain ⟨l, h1, h2⟩ := pins_of pins29; exact ⟨l, h1, by rw [h2]; rfl, by decide⟩
    · obtain ⟨l, h1, h2⟩ := pins_of pins30; exact ⟨l, h1, by rw [h2]; rfl, by decide⟩
    · obtain ⟨l, h1, h2⟩ := pins_of pins31; exact ⟨l, h1, by rw [h2]; rfl, by decide⟩
  · refine ⟨[], pins_none b hb, ?_, ?_⟩
    · simp only [kindsL, List.mem_cons, List.not_mem_nil, or_false, not_or] at hb
      simp [pinsN, hb]
    · simp only [kindsL, List.mem_cons, List.not_mem_nil, or_false, not_or] at hb
      simp [pinsN, hb]
end Go.Am
end
section
namespace Go.Am
open Go Go.Proofs
set_option maxRecDepth 20000
theorem clone64_run (c : List Int) (hl : c.length ≤ 100000) : callT ctx 21 [.d (.list (c.map jD))] [] = some (.ret (.vec 0 0 0 c.length), [(0, .vec 1 (c.map jD))]) := by
  rw [run21 (by simp)]
  cases c with
  | nil => simp [Tryz.f21]
  | cons x r =>
    simp at hl
    have h2 : ((r.length : Int) + 1) * 8 ≤ 140737488355328 := by omega
    have h3 : (r.length + 1) * 8 ≤ 140737488355328 := by omega
    have h4 : r.length + 1 ≤ 4611686018427387904 := by omega
    simp [Tryz.f21, h3, h4]
theorem len3 {c : List Int} (h : c.length = 3) : ∃ a b q, c = [a, b, q] := by
  match c, h with
  | [a, b, q], _ => exact ⟨a, b, q, rfl⟩
theorem len4 {c : List Int} (h : c.length = 4) : ∃ a b q e, c = [a, b, q, e] := by
  match c, h with
  | [a, b, q, e], _ => exact ⟨a, b, q, e, rfl⟩
theorem len6 {c : List Int} (h : c.length = 6) : ∃ a b q e p r, c = [a, b, q, e, p, r] := by
  match c, h with
  | [a, b, q, e, p, r], _ => exact ⟨a, b, q, e, p, r, rfl⟩
theorem stepB_other {k : Int} (hk : k < 10 ∨ 18 < k) (c : List Int) : stepB k c = c := by
  unfold stepB
  split
  · unfold step3; simp only [show ¬ k = 15 by omega, show ¬ k = 16 by omega, show ¬ k = 17 by omega, show ¬ k = 18 by omega, if_false]
  · unfold step4; simp only [show ¬ k = 10 by omega, show ¬ k = 11 by omega, if_false]
  · unfold step6; simp only [show ¬ k = 12 by omega, show ¬ k = 13 by omega, show ¬ k = 14 by omega, if_false]
  · rfl
theorem step4_len (k a b q e : Int) : (step4 k a b q e).length = 4 := by unfold step4; (repeat' split) <;> rfl
theorem step6_len (k a b q e p r : Int) : (step6 k a b q e p r).length = 6 := by unfold step6 tpS cuS cdS; dsimp only; (repeat' split) <;> rfl
theorem step3_len (k a b q : Int) : (step3 k a b q).length = 3 := by unfold step3; (repeat' split) <;> rfl
theorem stepB_len (k : Int) (c : List Int) : (stepB k c).length = c.length := by
  unfold stepB
  split
  · exact step3_len ..
  · exact step4_len ..
  · exact step6_len ..
  · rfl
set_option maxHeartbeats 4000000 in
theorem step_run (k : Int) (c : List Int) (hc : c.length = pinsN k) (hI : ∀ x ∈ c, I64 x) : callT ctx 42 [.d (.int .i64 k), .d (.list (c.map jD))] [] = some (.ret (.vec 0 0 0 c.length), [(0, .vec 1 ((stepB k c).map jD))]) := by
  obtain ⟨pl, hp1, hp2, hp3⟩ := pins_ok k
  have hcl := clone64_run c (by omega)
  have ht := struth_run
  have hlen : (pl.length : Int) = c.length := by omega
  rw [run42 (by simp)]
  by_cases hk : k < 10 ∨ 18 < k
  · rw [stepB_other hk]
    try simp at hcl
    try simp at hp1
    simp [Tryz.f42, hcl, hp1, hlen, show ¬ k = 10 by omega, show ¬ k = 11 by omega, show ¬ k = 12 by omega, show ¬ k = 13 by omega, show ¬ k = 14 by omega, show ¬ k = 15 by omega, show ¬ k = 16 by omega, show ¬ k = 17 by omega, show ¬ k = 18 by omega, drwK_end]
  · have hk' : k = 10 ∨ k = 11 ∨ k = 12 ∨ k = 13 ∨ k = 14 ∨ k = 15 ∨ k = 16 ∨ k = 17 ∨ k = 18 := by omega
    clear hk
    have pin : (k = 10 ∨ k = 11 → pinsN k = 4) ∧ (k = 12 ∨ k = 13 ∨ k = 14 → pinsN k = 6) ∧ (k = 15 ∨ k = 16 ∨ k = 17 ∨ k = 18 → pinsN k = 3) := by
      refine ⟨?_, ?_, ?_⟩
      · rintro (rfl | rfl) <;> rfl
      · rintro (rfl | rfl | rfl) <;> rfl
      · rintro (rfl | rfl | rfl | rfl) <;> rfl
    obtain ⟨p4, p6, p3⟩ := pin
    rcases hk' with h | h | h | h | h | h | h | h | h
    · obtain ⟨a, b, q, e, rfl⟩ := len4 (hc.trans (p4 (by omega)))
      have := timer4_run k a b q e (.inl h) (hI _ (by simp)) (hI _ (by simp))
      subst h
      simp at hcl hp1 hlen
      simp [stepB]
      have hz := step4_len 10 a b q e
      generalize step4 10 a b q e = z at *
      have hzt : (z.map jD).take z.length = z.map jD := List.take_of_length_le (by simp)
      rw [hz] at hzt
      try simp at this
      simp [Tryz.f42, hcl, hp1, hlen, this, hz, hzt, drwK_end]
    · obtain ⟨a, b, q, e, rfl⟩ := len4 (hc.trans (p4 (by omega)))
      have := timer4_run k a b q e (.inr h) (hI _ (by simp)) (hI _ (by simp))
      subst h
      simp at hcl hp1 hlen
      simp [stepB]
      have hz := step4_len 11 a b q e
      generalize step4 11 a b q e = z at *
      have hzt : (z.map jD).take z.length = z.map jD := List.take_of_length_le (by simp)
      rw [hz] at hzt
      try simp at this
      simp [Tryz.f42, hcl, hp1, hlen, this, hz, hzt, drwK_end]
    · obtain ⟨a, b, q, e, p, r, rfl⟩ := len6 (hc.trans (p6 (by omega)))
      have := timer6_run a b q e p r (hI _ (by simp)) (hI _ (by simp))
      subst h
      simp at hcl hp1 hlen
      simp [stepB]
      have hz := step6_len 12 a b q e p r
      generalize step6 12 a b q e p r = z at *
      have hzt : (z.map jD).take z.length = z.map jD := List.take_of_length_le (by simp)
      rw [hz] at hzt
      try simp at this
      simp [Tryz.f42, hcl, hp1, hlen, this, hz, hzt, drwK_end]
    · obtain ⟨a, b, q, e, p, r, rfl⟩ := len6 (hc.trans (p6 (by omega)))
      have := counter_run k a b q e p r (.inl h) (hI _ (by simp))
      subst h
      simp at hcl hp1 hlen
      simp [stepB]
      have hz := step6_len 13 a b q e p r
      generalize step6 13 a b q e p r = z at *
      have hzt : (z.map jD).take z.length = z.map jD := List.take_of_length_le (by simp)
      rw [hz] at hzt
      try simp at this
      simp [Tryz.f42, hcl, hp1, hlen, this, hz, hzt, drwK_end]
    · obtain ⟨a, b, q, e, p, r, rfl⟩ := len6 (hc.trans (p6 (by omega)))
      have := counter_run k a b q e p r (.inr h) (hI _ (by simp))
      subst h
      simp at hcl hp1 hlen
      simp [stepB]
      have hz := step6_len 14 a b q e p r
      generalize step6 14 a b q e p r = z at *
      have hzt : (z.map jD).take z.length = z.map jD := List.take_of_length_le (by simp)
      rw [hz] at hzt
      try simp at this
      simp [Tryz.f42, hcl, hp1, hlen, this, hz, hzt, drwK_end]
    · obtain ⟨a, b, q, rfl⟩ := len3 (hc.trans (p3 (by omega)))
      subst h
      simp at hcl hp1 hlen
      clear hI hc p3 p4 p6 hp2 hp3
      rcases Decidable.em (a = 0) with rfl | ha <;> rcases Decidable.em (q = 0) with rfl | hq <;> simp [Tryz.f42, stepB, step3, drwK_end, bne, *]
    · obtain ⟨a, b, q, rfl⟩ := len3 (hc.trans (p3 (by omega)))
      subst h
      simp at hcl hp1 hlen
      clear hI hc p3 p4 p6 hp2 hp3
      rcases Decidable.em (a = 0) with rfl | ha <;> rcases Decidable.em (q = 0) with rfl | hq <;> simp [Tryz.f42, stepB, step3, drwK_end, bne, *]
    · obtain ⟨a, b, q, rfl⟩ := len3 (hc.trans (p3 (by omega)))
      subst h
      simp at hcl hp1 hlen
      clear hI hc p3 p4 p6 hp2 hp3
      rcases Decidable.em (a = 0) with rfl | ha <;> rcases Decidable.em (q = 0) with rfl | hq <;> rcases Decidable.em (b = 0) with rfl | hb <;> simp [Tryz.f42, stepB, step3, drwK_end, bne, *]
    · obtain ⟨a, b, q, rfl⟩ := len3 (hc.trans (p3 (by omega)))
      subst h
      simp at hcl hp1 hlen
      clear hI hc p3 p4 p6 hp2 hp3
      rcases Decidable.em (a = 0) with rfl | ha <;> rcases Decidable.em (q = 0) with rfl | hq <;> rcases Decidable.em (b = 0) with rfl | hb <;> simp [Tryz.f42, stepB, step3, drwK_end, bne, *]
end Go.Am
end
section
namespace Go.Am
open Go Go.Proofs
set_option maxRecDepth 20000
theorem foldOp1_run (op a : Int) (t : Bool) (ha : I64 a) : callT ctx 58 [.d (.int .i64 op), .d (.list [.int .i64 a]), .d (.bool t)] [] = some (.ret (opZ (op1 op a t)), []) := by
  rw [run58 (by simp)]
  by_cases hb : t = true ∧ a ≠ 0 ∧ a ≠ 1
  · obtain ⟨rfl, h0, h1⟩ := hb
    simp [Tryz.f58]
    rw [denK_loop]
    simp [h0, h1, op1, noOp]
  · have h1 := ofOne_run op a t ha (by intro h; subst h; simp at hb; omega)
    have hg : (t && (a != 0)) = true → a = 1 := by simp; intro h1 h2; simp [h1] at hb; exact hb h2
    generalize op1 op a t = p at *
    simp at h1
    cases t
    · simp [Tryz.f58]
      rw [denK_loop]
      simp
      rw [denK_loop]
      simp [h1]
    · have hg' : a = 0 ∨ a = 1 := by simp at hg; omega
      rcases hg' with rfl | rfl
      · simp [Tryz.f58]
        rw [denK_loop]
        simp
        rw [denK_loop]
        simp [h1]
      · simp [Tryz.f58]
        rw [denK_loop]
        simp
        rw [denK_loop]
        simp [h1]
theorem foldOp2_run (op a b : Int) (t : Bool) (ha : I64 a) (hb : I64 b) : callT ctx 58 [.d (.int .i64 op), .d (.list [.int .i64 a, .int .i64 b]), .d (.bool t)] [] = some (.ret (opZ (op2 op a b t)), []) := by
  rw [run58 (by simp)]
  have cmp := fun h => compared_run op a b h
  have rck := fun h => reckoned_run op a b h ha hb
  have tru := fun h1 h2 => ofTruths_run op a b h1 h2
  unfold op2
  cases t
  · have hno : ¬ (8 ≤ op ∧ op ≤ 12) → ¬ (13 ≤ op ∧ op ≤ 18) → opN op a b = noOp := by
      intro h1 h2
      unfold opN
      simp only [show ¬ op = 8 by omega, show ¬ op = 9 by omega, show ¬ op = 10 by omega, show ¬ op = 11 by omega, show ¬ op = 12 by omega, show ¬ op = 13 by omega, show ¬ op = 14 by omega, show ¬ op = 15 by omega, show ¬ op = 16 by omega, show ¬ op = 17 by omega, show ¬ op = 18 by omega, if_false]
    generalize opN op a b = p at *
    simp [Tryz.f58]
    rw [denK_loop]
    simp
    rw [denK_loop]
    simp
    rw [denK_loop]
    simp
    by_cases h1 : 8 ≤ op ∧ op ≤ 12
    · have r := rck h1
      simp at r
      simp [h1.1, h1.2, r, drwK_end]
    · by_cases h2 : 13 ≤ op ∧ op ≤ 18
      · have r := cmp h2
        have h3 : ¬ op ≤ 12 := by omega
        have h4 : 8 ≤ op := by omega
        simp at r
        simp [h2.1, h2.2, h3, h4, r, drwK_end]
      · have hp := hno h1 h2
        subst hp
        by_cases h5 : 8 ≤ op
        · have h6 : ¬ op ≤ 12 := by omega
          have h7 : 13 ≤ op := by omega
          have h8 : ¬ op ≤ 18 := by omega
          simp [h5, h6, h7, h8, noOp]
        · have h7 : ¬ 13 ≤ op := by omega
          simp [h5, h7, noOp]
  · by_cases h1 : a = 0 ∨ a = 1
    · by_cases h2 : b = 0 ∨ b = 1
      · have r := tru h1 h2
        generalize opT op a b = p at *
        rcases h1 with rfl | rfl <;> rcases h2 with rfl | rfl <;>
          (simp at r
           simp [Tryz.f58]
           rw [denK_loop]
           simp
           rw [denK_loop]
           simp
           rw [denK_loop]
           simp [r, drwK_end])
      · have h3 : ¬ b = 0 := by omega
        have h4 : ¬ b = 1 := by omega
        rcases h1 with rfl | rfl <;>
          (simp [Tryz.f58]
           rw [denK_loop]
           simp
           rw [denK_loop]
           simp [h3, h4, noOp])
    · have h3 : ¬ a = 0 := by omega
      have h4 : ¬ a = 1 := by omega
      simp [Tryz.f58]
      rw [denK_loop]
      simp [h3, h4, noOp]
end Go.Am
end
section
namespace Go.Am
open Go Go.Proofs
set_option maxRecDepth 20000
@[simp] def iA (n : Int) : AV := .d (.int .i64 n)
/-- The program's machine: its code, its cells, what is on the stack (and behind it), how high that is, the place, the fuel, the fault. -/
def mB (I : AV) (vr cl : Int) (cv : AV) (S G : List Int) (h a f x : Int) : List AV :=
  I :: .d (.int .i64 vr) :: .d (.int .i64 cl) :: cv :: ((S ++ G).map iA ++ [.d (.int .i64 h), .d (.int .i64 a), .d (.int .i64 f), .d (.int .i64 x)])
section
variable {I : AV} {vr cl : Int} {cv : AV} {S G : List Int} {h a f x : Int}
theorem mB_len (hs : S.length + G.length = 64) : (mB I vr cl cv S G h a f x).length = 72 := by simp [mB]; omega
theorem mB_0 : (mB I vr cl cv S G h a f x)[0]? = some I := rfl
theorem mB_1 : (mB I vr cl cv S G h a f x)[1]? = some (.d (.int .i64 vr)) := rfl
theorem mB_2 : (mB I vr cl cv S G h a f x)[2]? = some (.d (.int .i64 cl)) := rfl
theorem mB_3 : (mB I vr cl cv S G h a f x)[3]? = some cv := rfl
theorem mB_get (hs : S.length + G.length = 64) (k : Nat) (hk : 68 ≤ k) : (mB I vr cl cv S G h a f x)[k]? = [AV.d (.int .i64 h), .d (.int .i64 a), .d (.int .i64 f), .d (.int .i64 x)][k - 68]? := by
  obtain ⟨j, rfl⟩ : ∃ j, k = 68 + j := ⟨k - 68, by omega⟩
  have e : 68 + j = (64 + j) + 1 + 1 + 1 + 1 := by omega
  rw [mB, e]
  simp only [List.getElem?_cons_succ]
  rw [List.getElem?_append_right (by simp; omega)]
  congr 1
  simp; omega
theorem mB_68 (hs : S.length + G.length = 64) : (mB I vr cl cv S G h a f x)[68]? = some (.d (.int .i64 h)) := by rw [mB_get hs 68 (by omega)]; rfl
theorem mB_69 (hs : S.length + G.length = 64) : (mB I vr cl cv S G h a f x)[69]? = some (.d (.int .i64 a)) := by rw [mB_get hs 69 (by omega)]; rfl
theorem mB_70 (hs : S.length + G.length = 64) : (mB I vr cl cv S G h a f x)[70]? = some (.d (.int .i64 f)) := by rw [mB_get hs 70 (by omega)]; rfl
theorem mB_71 (hs : S.length + G.length = 64) : (mB I vr cl cv S G h a f x)[71]? = some (.d (.int .i64 x)) := by rw [mB_get hs 71 (by omega)]; rfl
theorem mB_stk (k : Nat) (hk : k < (S ++ G).length) : (mB I vr cl cv S G h a f x)[4 + k]? = some (.d (.int .i64 (S ++ G)[k])) := by
  rw [mB, show 4 + k = k + 1 + 1 + 1 + 1 by omega]
  simp only [List.getElem?_cons_succ]
  rw [List.getElem?_append_left (by simpa using hk), List.getElem?_map, List.getElem?_eq_getElem hk]
  rfl
theorem gE {l : List AV} {k : Nat} {y : AV} (h : l[k]? = some y) (hk : k < l.length) : l[k] = y := by
  rw [List.getElem?_eq_getElem hk] at h
  exact Option.some.inj h
theorem mB_g0 (hk) : (mB I vr cl cv S G h a f x)[0]'hk = I := rfl
theorem mB_g1 (hk) : (mB I vr cl cv S G h a f x)[1]'hk = .d (.int .i64 vr) := rfl
theorem mB_g2 (hk) : (mB I vr cl cv S G h a f x)[2]'hk = .d (.int .i64 cl) := rfl
theorem mB_g3 (hk) : (mB I vr cl cv S G h a f x)[3]'hk = cv := rfl
theorem mB_g68 (hs : S.length + G.length = 64) (hk) : (mB I vr cl cv S G h a f x)[68]'hk = .d (.int .i64 h) := gE (mB_68 hs) hk
theorem mB_g69 (hs : S.length + G.length = 64) (hk) : (mB I vr cl cv S G h a f x)[69]'hk = .d (.int .i64 a) := gE (mB_69 hs) hk
theorem mB_g70 (hs : S.length + G.length = 64) (hk) : (mB I vr cl cv S G h a f x)[70]'hk = .d (.int .i64 f) := gE (mB_70 hs) hk
theorem mB_g71 (hs : S.length + G.length = 64) (hk) : (mB I vr cl cv S G h a f x)[71]'hk = .d (.int .i64 x) := gE (mB_71 hs) hk
theorem mB_set3 (y : AV) : (mB I vr cl cv S G h a f x).set 3 y = mB I vr cl y S G h a f x := rfl
theorem mB_setK (hs : S.length + G.length = 64) (k : Nat) (y : AV) : (mB I vr cl cv S G h a f x).set (68 + k) y = I :: .d (.int .i64 vr) :: .d (.int .i64 cl) :: cv :: ((S ++ G).map iA ++ [AV.d (.int .i64 h), .d (.int .i64 a), .d (.int .i64 f), .d (.int .i64 x)].set k y) := by
  rw [mB, show 68 + k = (64 + k) + 1 + 1 + 1 + 1 by omega]
  simp only [List.set_cons_succ]
  rw [List.set_append_right _ _ (by simp; omega)]
  congr 6
  simp; omega
theorem mB_set68 (hs : S.length + G.length = 64) (n : Int) : (mB I vr cl cv S G h a f x).set 68 (.d (.int .i64 n)) = mB I vr cl cv S G n a f x := mB_setK hs 0 _
theorem mB_set69 (hs : S.length + G.length = 64) (n : Int) : (mB I vr cl cv S G h a f x).set 69 (.d (.int .i64 n)) = mB I vr cl cv S G h n f x := mB_setK hs 1 _
theorem mB_set70 (hs : S.length + G.length = 64) (n : Int) : (mB I vr cl cv S G h a f x).set 70 (.d (.int .i64 n)) = mB I vr cl cv S G h a n x := mB_setK hs 2 _
theorem mB_set71 (hs : S.length + G.length = 64) (n : Int) : (mB I vr cl cv S G h a f x).set 71 (.d (.int .i64 n)) = mB I vr cl cv S G h a f n := mB_setK hs 3 _
theorem mB_push (g n : Int) : (mB I vr cl cv S (g :: G) h a f x).set (4 + S.length) (.d (.int .i64 n)) = mB I vr cl cv (S ++ [n]) G h a f x := by
  rw [mB, show 4 + S.length = S.length + 1 + 1 + 1 + 1 by omega]
  simp only [List.set_cons_succ]
  rw [List.set_append_left _ _ (by simp)]
  simp [mB]
theorem mB_top (n : Int) : (mB I vr cl cv (S ++ [n]) G h a f x)[4 + S.length]? = some (.d (.int .i64 n)) := by
  rw [mB_stk _ (by simp)]
  simp
theorem mB_gtop (n : Int) (hk) : (mB I vr cl cv (S ++ [n]) G h a f x)[4 + S.length]'hk = .d (.int .i64 n) := gE (mB_top n) hk
theorem mB_gtop2 (n : Int) (hk) : (mB I vr cl cv S (n :: G) h a f x)[4 + S.length]'hk = .d (.int .i64 n) := gE (by rw [mB_stk _ (by simp)]; simp) hk
theorem mB_pop (n : Int) : mB I vr cl cv (S ++ [n]) G h a f x = mB I vr cl cv S (n :: G) h a f x := by simp [mB]
theorem avsKeys_map (L : List Int) (r : List AV) : avsKeys (L.map iA ++ r) = avsKeys r := by
  induction L with
  | nil => rfl
  | cons x t ih => simpa [avsKeys, avKeys, iA] using ih
theorem mB_keys (i : D) : avsKeys (mB (.d i) vr cl cv S G h a f x) = avKeys cv := by
  simp only [mB, avsKeys, avKeys, avsKeys_map, List.nil_append]
  simp
theorem vws_map (m : Mem) (ρ : List Nat) (bor : Nat → Bool) (nv : Nat → Nat → Nat) (L : List Int) (r : List AV) : vws m ρ bor nv (L.map iA ++ r) = L.map iA ++ vws m ρ bor nv r := by
  induction L with
  | nil => rfl
  | cons x t ih => simpa [vws, vw, iA] using ih
theorem mB_vws (m : Mem) (ρ : List Nat) (bor : Nat → Bool) (nv : Nat → Nat → Nat) (i : D) : vws m ρ bor nv (mB (.d i) vr cl cv S G h a f x) = mB (.d i) vr cl (vw m ρ bor nv cv) S G h a f x := by
  simp only [mB, vws, vw, vws_map]
theorem ups_map (ρ bs : List Nat) (L : List Int) (r : List AV) : ups ρ bs (L.map iA ++ r) = L.map iA ++ ups ρ bs r := by
  induction L with
  | nil => rfl
  | cons x t ih => simpa [ups, up, iA] using ih
theorem mB_ups (ρ bs : List Nat) (i : D) : ups ρ bs (mB (.d i) vr cl cv S G h a f x) = mB (.d i) vr cl (up ρ bs cv) S G h a f x := by
  simp only [mB, ups, up, ups_map]
end
theorem push_run (i : D) (vr cl : Int) (C S G : List Int) (g a f x n : Int) (hs : S.length + (G.length + 1) = 64) :
    callT ctx 36 [.ptr 0 0 0, .d (.int .i64 n)] [.box (mB (.d i) vr cl (.vec 1 0 0 C.length) S (g :: G) S.length a f x), .vec 1 (C.map jD)] =
      some (.ret (.tup []), [(0, .box (mB (.d i) vr cl (.vec 1 0 0 C.length) (S ++ [n]) G ((S ++ [n]).length : Nat) a f x)), (0, .vec 1 (C.map jD))]) := by
  have h1 : S.length + (g :: G).length = 64 := by simpa using hs
  have h2 : (S ++ [n]).length + G.length = 64 := by simp; omega
  have hl : S.length < 64 := by omega
  have h5 : 4 + S.length ≤ 71 := by omega
  have w1 : IntKind.i64.wrap ((S.length : Int) + 1) = (S.length : Int) + 1 := wrap_id (by unfold I64; omega)
  rw [run36 (by simp)]
  simp [Tryz.f36, drwK_end, mB_len h1, mB_g68 h1, mB_push, mB_len h2, mB_g68 h2, mB_set68 h2, mB_keys, mB_vws, mB_ups, hl, h5, w1]
theorem pop_run (i : D) (vr cl : Int) (C S G : List Int) (a f x n : Int) (hs : S.length + (G.length + 1) = 64) :
    callT ctx 39 [.ptr 0 0 0] [.box (mB (.d i) vr cl (.vec 1 0 0 C.length) (S ++ [n]) G ((S ++ [n]).length : Nat) a f x), .vec 1 (C.map jD)] =
      some (.ret (.d (.int .i64 n)), [(0, .box (mB (.d i) vr cl (.vec 1 0 0 C.length) S (n :: G) S.length a f x)), (0, .vec 1 (C.map jD))]) := by
  have h1 : S.length + (n :: G).length = 64 := by simpa using hs
  have hl : S.length < 64 := by omega
  have h5 : 4 + S.length < 72 := by omega
  have w1 : IntKind.i64.wrap (S.length : Int) = (S.length : Int) := wrap_id (by unfold I64; omega)
  rw [run39 (by simp), mB_pop]
  simp [Tryz.f39, drwK_end, mB_len h1, mB_g68 h1, mB_set68 h1, mB_gtop2, mB_keys, mB_vws, mB_ups, hl, h5, w1]
theorem truth_run (b : Bool) : callT ctx 37 [.d (.bool b)] [] = some (.ret (.d (.int .i64 (if b = true then 1 else 0))), []) := by
  rw [run37 (by simp)]
  cases b <;> simp [Tryz.f37]
/-- A place in an array: what is read, and the fault. -/
def inArr (x : Ins) (n : Int) : Bool := decide (x.n ≤ n) && decide (n ≤ x.m)
theorem place_run (i : D) (vr cl : Int) (C S G : List Int) (h a f x0 : Int) (x : Ins) (n : Int) (hs : S.length + G.length = 64) (hx : 0 ≤ x.n ∧ x.m ≤ 255 ∧ 0 ≤ x.a ∧ x.a ≤ 8192) :
    callT ctx 38 [.ptr 0 0 0, .d (insD x), .d (.int .i64 n)] [.box (mB (.d i) vr cl (.vec 1 0 0 C.length) S G h a f x0), .vec 1 (C.map jD)] =
      some (if inArr x n = true then .ret (.tup [.d (.int .i64 (x.a + (n - x.n))), .d (.bool true)]) else .ret (.tup [.d (.int .i64 0), .d (.bool false)]),
        [(0, .box (mB (.d i) vr cl (.vec 1 0 0 C.length) S G h a f (if inArr x n = true then x0 else 3))), (0, .vec 1 (C.map jD))]) := by
  rw [run38 (by simp)]
  unfold inArr
  by_cases h1 : x.n ≤ n
  · by_cases h2 : n ≤ x.m
    · have w1 : IntKind.i64.wrap (n - x.n) = n - x.n := wrap_id (by unfold I64; omega)
      have w2 : IntKind.i64.wrap (x.a + (n - x.n)) = x.a + (n - x.n) := wrap_id (by unfold I64; omega)
      have n1 : ¬ n < x.n := by omega
      have n2 : ¬ x.m < n := by omega
      simp [Tryz.f38, drwK_end, mB_len hs, mB_g71 hs, mB_set71 hs, mB_keys, mB_vws, mB_ups, h1, h2, n1, n2, w1, w2]
    · have n1 : ¬ n < x.n := by omega
      have n2 : x.m < n := by omega
      simp [Tryz.f38, drwK_end, mB_len hs, mB_g71 hs, mB_set71 hs, mB_keys, mB_vws, mB_ups, h1, h2, n1, n2]
  · have n1 : n < x.n := by omega
    simp [Tryz.f38, drwK_end, mB_len hs, mB_g71 hs, mB_set71 hs, mB_keys, mB_vws, mB_ups, h1, n1]
def atI (C : List Int) (k : Int) : Int := C[k.toNat]?.getD 0
theorem cellAt {C : List Int} {k : Int} (h : k.toNat < C.length) : C[k.toNat] = atI C k := by unfold atI; rw [List.getElem?_eq_getElem h]; rfl
def upToS (C : List Int) (x : Ins) : Bool := decide (0 ≤ atI C (x.b + 1) ∧ atI C x.a ≤ atI C x.b) || decide (atI C (x.b + 1) < 0 ∧ atI C x.b ≤ atI C x.a)
theorem upTo_run (i : D) (vr cl : Int) (C S G : List Int) (h a f x0 : Int) (x : Ins) (hs : S.length + G.length = 64) (hx : 0 ≤ x.a ∧ x.a.toNat < C.length ∧ 0 ≤ x.b ∧ x.b.toNat + 1 < C.length ∧ C.length ≤ 8192) :
    callT ctx 43 [.ptr 0 0 0, .d (insD x)] [.box (mB (.d i) vr cl (.vec 1 0 0 C.length) S G h a f x0), .vec 1 (C.map jD)] =
      some (.ret (.d (.bool (upToS C x))), [(0, .box (mB (.d i) vr cl (.vec 1 0 0 C.length) S G h a f x0)), (0, .vec 1 (C.map jD))]) := by
  obtain ⟨a1, a2, b1, b2, hc⟩ := hx
  have w1 : IntKind.i64.wrap (x.b + 1) = x.b + 1 := wrap_id (by unfold I64; omega)
  have b3 : (x.b + 1).toNat < C.length := by omega
  have b4 : 0 ≤ x.b + 1 := by omega
  have b5 : x.b.toNat < C.length := by omega
  rw [run43 (by simp)]
  simp [Tryz.f43, drwK_end, mB_len hs, mB_g3, mB_keys, mB_vws, mB_ups, a1, a2, b1, b3, b4, b5, w1, cellAt]
  unfold upToS
  grind
end Go.Am
end
section
namespace Go.Am
open Go Go.Proofs
/-- A state of a run. -/
structure Ms where
  cells : List Int
  stk : List Int
  at_ : Int
  fuel : Int
  fault : Int
def Ms.pop (s : Ms) : Ms := { s with stk := s.stk.dropLast }
def Ms.push (s : Ms) (n : Int) : Ms := { s with stk := s.stk ++ [n] }
def Ms.top (s : Ms) : Int := s.stk.getLast?.getD 0
def setI (C : List Int) (k n : Int) : List Int := C.set k.toNat n
/-- An instruction of those that move cells. -/
def moveF (x : Ins) (s : Ms) : Option Ms :=
  if x.op = 1 then some (s.push x.n)
  else if x.op = 2 then some (s.push (atI s.cells x.a))
  else if x.op = 3 then some (s.push (oneZ (decide (atI s.cells x.a ≠ 0))))
  else if x.op = 4 ∨ x.op = 5 then
    (if inArr x s.top = true then some (s.pop.push (if x.op = 4 then atI s.cells (x.a + (s.top - x.n)) else oneZ (decide (atI s.cells (x.a + (s.top - x.n)) ≠ 0)))) else some { s.pop with fault := 3 })
  else if x.op = 6 then some { s.pop with cells := setI s.cells x.a s.top }
  else if x.op = 7 then
    (if inArr x s.pop.top = true then some { s.pop.pop with cells := setI s.cells (x.a + (s.pop.top - x.n)) s.top } else some { s.pop.pop with fault := 3 })
  else none
def doF (x : Ins) (s : Ms) : Ms :=
  if x.b = 6 ∨ x.b = 7 then
    (if (op1 x.b s.top (decide (x.a = 1))).2.2 = 0 then s.pop.push (op1 x.b s.top (decide (x.a = 1))).1 else { s.pop with fault := (op1 x.b s.top (decide (x.a = 1))).2.2 })
  else
    (if (op2 x.b s.pop.top s.top (decide (x.a = 1))).2.2 = 0 then s.pop.pop.push (op2 x.b s.pop.top s.top (decide (x.a = 1))).1 else { s.pop.pop with fault := (op2 x.b s.pop.top s.top (decide (x.a = 1))).2.2 })
def blockF (x : Ins) (C : List Int) : List Int := C.take x.a.toNat ++ stepB x.b ((C.drop x.a.toNat).take (pinsN x.b)) ++ C.drop (x.a.toNat + pinsN x.b)
def ctlF (x : Ins) (s : Ms) : Ms :=
  if x.op = 8 then doF x s
  else if x.op = 9 then { s with at_ := x.a }
  else if x.op = 10 then (if s.top = 0 then { s.pop with at_ := x.a } else s.pop)
  else if x.op = 11 then (if s.fuel = 0 then { s with fault := 4 } else { s with fuel := s.fuel - 1 })
  else if x.op = 12 then { s with cells := blockF x s.cells }
  else if x.op = 13 then s.push (oneZ (upToS s.cells x))
  else if x.op = 14 then s.push (oneZ (decide (x.n ≤ atI s.cells x.a ∧ atI s.cells x.a ≤ x.m)))
  else s
/-- A step: the place is moved on first. -/
def stepF (x : Ins) (s : Ms) : Ms :=
  match moveF x { s with at_ := s.at_ + 1 } with
  | some t => t
  | none => ctlF x { s with at_ := s.at_ + 1 }
end Go.Am
end
section
namespace Go.Am
open Go Go.Proofs
set_option maxRecDepth 20000
def cellOk (n : Nat) (k : Int) : Prop := 0 ≤ k ∧ k.toNat < n
def arrOk (n : Nat) (x : Ins) : Prop := 0 ≤ x.n ∧ x.n ≤ x.m ∧ x.m ≤ 255 ∧ 0 ≤ x.a ∧ x.a + (x.m - x.n) < n
/-- What an instruction needs of the cells and the stack. -/
structure Fit (x : Ins) (n h : Nat) : Prop where
  top : h ≤ 64
  i1 : x.op = 1 → h < 64
  i2 : x.op = 2 ∨ x.op = 3 ∨ x.op = 14 → h < 64 ∧ cellOk n x.a
  i4 : x.op = 4 ∨ x.op = 5 → 1 ≤ h ∧ arrOk n x
  i6 : x.op = 6 → 1 ≤ h ∧ cellOk n x.a
  i7 : x.op = 7 → 2 ≤ h ∧ arrOk n x
  i8 : x.op = 8 → (x.b = 6 ∨ x.b = 7 → 1 ≤ h) ∧ (¬ (x.b = 6 ∨ x.b = 7) → 2 ≤ h)
  i10 : x.op = 10 → 1 ≤ h
  i12 : x.op = 12 → 0 ≤ x.a ∧ x.a.toNat + pinsN x.b ≤ n
  i13 : x.op = 13 → h < 64 ∧ cellOk n x.a ∧ cellOk n x.b ∧ cellOk n (x.b + 1)
theorem snoc_of {l : List Int} (h : 1 ≤ l.length) : ∃ S n, l = S ++ [n] := by
  have hne : l ≠ [] := by intro h0; subst h0; simp at h
  exact ⟨l.dropLast, l.getLast hne, (List.dropLast_concat_getLast hne).symm⟩
theorem snoc2_of {l : List Int} (h : 2 ≤ l.length) : ∃ S m n, l = S ++ [m, n] := by
  obtain ⟨T, n, rfl⟩ := snoc_of (l := l) (by omega)
  obtain ⟨S, m, rfl⟩ := snoc_of (l := T) (by simp at h; omega)
  exact ⟨S, m, n, by simp⟩
theorem room_of {S G : List Int} (hs : S.length + G.length = 64) (h : S.length < 64) : ∃ g G', G = g :: G' ∧ S.length + (G'.length + 1) = 64 := by
  match G, hs with
  | [], hs => simp at hs; omega
  | g :: G', hs => exact ⟨g, G', rfl, by simpa using hs⟩
theorem set_jD (C : List Int) (i : Nat) (n : Int) : (C.map jD).set i (.int .i64 n) = (C.set i n).map jD := by rw [List.map_set]; rfl
/-- The machine that runs, by its state. -/
def mC (i : D) (vr cl : Int) (s : Ms) (G : List Int) : List Cont := [.box (mB (.d i) vr cl (.vec 1 0 0 s.cells.length) s.stk G s.stk.length s.at_ s.fuel s.fault), .vec 1 (s.cells.map jD)]
def mC2 (i : D) (vr cl : Int) (s : Ms) (G : List Int) : List (Nat × Cont) := [(0, .box (mB (.d i) vr cl (.vec 1 0 0 s.cells.length) s.stk G s.stk.length s.at_ s.fuel s.fault)), (0, .vec 1 (s.cells.map jD))]
theorem mv_1 (i : D) (vr cl : Int) (x : Ins) (s : Ms) (G : List Int) (hs : s.stk.length + G.length = 64) (hf : Fit x s.cells.length s.stk.length) (hop : x.op = 1) :
    ∃ G', (s.push x.n).stk.length + G'.length = 64 ∧ callT ctx 22 [.ptr 0 0 0, .d (insD x)] (mC i vr cl s G) = some (.ret (.d (.bool true)), mC2 i vr cl (s.push x.n) G') := by
  obtain ⟨C, S, a, f, x0⟩ := s
  simp only at hs hf
  obtain ⟨g, G', rfl, hs'⟩ := room_of hs (hf.i1 hop)
  refine ⟨G', by simp [Ms.push]; omega, ?_⟩
  have hp := push_run i vr cl C S G' g a f x0 x.n hs'
  have h1 : S.length + (g :: G').length = 64 := by simpa using hs'
  simp at hp
  rw [run22 (by simp [mC])]
  simp [Tryz.f22, mC, mC2, Ms.push, hop, hp, mB_keys, mB_vws, mB_ups, drwK_end]
theorem mv_2 (i : D) (vr cl : Int) (x : Ins) (s : Ms) (G : List Int) (hs : s.stk.length + G.length = 64) (hf : Fit x s.cells.length s.stk.length) (hop : x.op = 2) :
    ∃ G', (s.push (atI s.cells x.a)).stk.length + G'.length = 64 ∧ callT ctx 22 [.ptr 0 0 0, .d (insD x)] (mC i vr cl s G) = some (.ret (.d (.bool true)), mC2 i vr cl (s.push (atI s.cells x.a)) G') := by
  obtain ⟨C, S, a, f, x0⟩ := s
  simp only at hs hf
  obtain ⟨hl, hc1, hc2⟩ := hf.i2 (.inl hop)
  obtain ⟨g, G', rfl, hs'⟩ := room_of hs hl
  refine ⟨G', by simp [Ms.push]; omega, ?_⟩
  have hp := push_run i vr cl C S G' g a f x0 (atI C x.a) hs'
  have h1 : S.length + (g :: G').length = 64 := by simpa using hs'
  simp at hp
  rw [run22 (by simp [mC])]
  simp [Tryz.f22, mC, mC2, Ms.push, hop, hp, mB_keys, mB_vws, mB_ups, mB_len h1, mB_g3, hc1, hc2, cellAt, drwK_end]
theorem mv_3 (i : D) (vr cl : Int) (x : Ins) (s : Ms) (G : List Int) (hs : s.stk.length + G.length = 64) (hf : Fit x s.cells.length s.stk.length) (hop : x.op = 3) :
    ∃ G', (s.push (oneZ (decide (atI s.cells x.a ≠ 0)))).stk.length + G'.length = 64 ∧ callT ctx 22 [.ptr 0 0 0, .d (insD x)] (mC i vr cl s G) = some (.ret (.d (.bool true)), mC2 i vr cl (s.push (oneZ (decide (atI s.cells x.a ≠ 0)))) G') := by
  obtain ⟨C, S, a, f, x0⟩ := s
  simp only at hs hf
  obtain ⟨hl, hc1, hc2⟩ := hf.i2 (.inr (.inl hop))
  obtain ⟨g, G', rfl, hs'⟩ := room_of hs hl
  refine ⟨G', by simp [Ms.push]; omega, ?_⟩
  have hp := push_run i vr cl C S G' g a f x0 (oneZ (decide (atI C x.a ≠ 0))) hs'
  have ht := truth_run (decide (atI C x.a ≠ 0))
  have ho : (if decide (atI C x.a ≠ 0) = true then (1 : Int) else 0) = oneZ (decide (atI C x.a ≠ 0)) := rfl
  rw [ho] at ht
  have h1 : S.length + (g :: G').length = 64 := by simpa using hs'
  have hb : (atI C x.a != 0) = decide (atI C x.a ≠ 0) := by by_cases h : atI C x.a = 0 <;> simp [h]
  generalize decide (atI C x.a ≠ 0) = b at *
  simp at hp
  rw [run22 (by simp [mC])]
  simp [Tryz.f22, mC, mC2, Ms.push, hop, hp, ht, hb, mB_keys, mB_vws, mB_ups, mB_len h1, mB_g3, hc1, hc2, cellAt, drwK_end]
theorem snoc_top (S : List Int) (n : Int) : (S ++ [n]).getLast?.getD 0 = n := by simp
theorem mv_4 (i : D) (vr cl : Int) (x : Ins) (s : Ms) (G : List Int) (hs : s.stk.length + G.length = 64) (hcl : s.cells.length ≤ 8192) (hf : Fit x s.cells.length s.stk.length) (hop : x.op = 4 ∨ x.op = 5) :
    ∃ t G', moveF x s = some t ∧ t.stk.length + G'.length = 64 ∧ callT ctx 22 [.ptr 0 0 0, .d (insD x)] (mC i vr cl s G) = some (.ret (.d (.bool true)), mC2 i vr cl t G') := by
  obtain ⟨C, S0, a, f, x0⟩ := s
  simp only at hs hf hcl
  obtain ⟨hl, k1, k2, k3, k4, k5⟩ := hf.i4 hop
  obtain ⟨S, n, rfl⟩ := snoc_of hl
  have hs' : S.length + (G.length + 1) = 64 := by simp at hs; omega
  have hpop := pop_run i vr cl C S G a f x0 n hs'
  have hs2 : S.length + (n :: G).length = 64 := by simpa using hs'
  have hpl := place_run i vr cl C S (n :: G) S.length a f x0 x n hs2 ⟨k1, k3, k4, by omega⟩
  have hpush := fun v => push_run i vr cl C S G n a f x0 v hs'
  have h1 : x.op ≠ 1 := by omega
  have h2 : x.op ≠ 2 := by omega
  have h3 : x.op ≠ 3 := by omega
  by_cases hin : inArr x n = true
  · have hr : 0 ≤ x.a + (n - x.n) ∧ (x.a + (n - x.n)).toNat < C.length := by
      unfold inArr at hin
      simp at hin
      omega
    obtain ⟨r1, r2⟩ := hr
    rw [if_pos hin, if_pos hin] at hpl
    generalize hv : x.a + (n - x.n) = v at *
    rcases hop with hop | hop
    · have hpush := hpush (atI C v)
      refine ⟨_, G, by simp [moveF, hop, Ms.top, Ms.pop, hin, hv]; rfl, by simp [Ms.push]; omega, ?_⟩
      simp [hop] at hpop hpl hpush
      rw [run22 (by simp [mC])]
      simp [Tryz.f22, mC, mC2, Ms.push, Ms.pop, hop, hpop, hpl, hpush, mB_keys, mB_vws, mB_ups, mB_len hs2, mB_g3, r1, r2, cellAt, drwK_end]
    · have hpush := hpush (oneZ (decide (atI C v ≠ 0)))
      have ht := truth_run (decide (atI C v ≠ 0))
      have ho : (if decide (atI C v ≠ 0) = true then (1 : Int) else 0) = oneZ (decide (atI C v ≠ 0)) := rfl
      rw [ho] at ht
      have hb : (atI C v != 0) = decide (atI C v ≠ 0) := by by_cases h : atI C v = 0 <;> simp [h]
      refine ⟨_, G, by simp only [moveF, hop, Ms.top, Ms.pop]; simp [hin, hv]; rfl, by simp [Ms.push]; omega, ?_⟩
      have hd : decide (atI C v ≠ 0) = !decide (atI C v = 0) := by simp
      rw [hd] at hpush ht hb
      generalize (!decide (atI C v = 0)) = b at *
      simp [hop] at hpop hpl hpush
      rw [run22 (by simp [mC])]
      simp [Tryz.f22, mC, mC2, Ms.push, Ms.pop, hop, hpop, hpl, hpush, ht, hb, mB_keys, mB_vws, mB_ups, mB_len hs2, mB_g3, r1, r2, cellAt, drwK_end]
  · rw [if_neg hin, if_neg hin] at hpl
    have hin' : inArr x n = false := by simpa using hin
    refine ⟨_, n :: G, by simp only [moveF, Ms.top, Ms.pop]; simp [h1, h2, h3, hop, hin']; rfl, by simpa using hs', ?_⟩
    rw [run22 (by simp [mC])]
    rcases hop with hop | hop <;> simp [hop] at hpop hpl <;>
    simp [Tryz.f22, mC, mC2, Ms.push, Ms.pop, hop, hpop, hpl, mB_keys, mB_vws, mB_ups, mB_len hs2, mB_g3, drwK_end]
theorem mv_6 (i : D) (vr cl : Int) (x : Ins) (s : Ms) (G : List Int) (hs : s.stk.length + G.length = 64) (hf : Fit x s.cells.length s.stk.length) (hop : x.op = 6) :
    ∃ t G', moveF x s = some t ∧ t.stk.length + G'.length = 64 ∧ callT ctx 22 [.ptr 0 0 0, .d (insD x)] (mC i vr cl s G) = some (.ret (.d (.bool true)), mC2 i vr cl t G') := by
  obtain ⟨C, S0, a, f, x0⟩ := s
  simp only at hs hf
  obtain ⟨hl, hc1, hc2⟩ := hf.i6 hop
  obtain ⟨S, n, rfl⟩ := snoc_of hl
  have hs' : S.length + (G.length + 1) = 64 := by simp at hs; omega
  have hpop := pop_run i vr cl C S G a f x0 n hs'
  have hs2 : S.length + (n :: G).length = 64 := by simpa using hs'
  refine ⟨_, n :: G, by simp only [moveF, Ms.top, Ms.pop]; simp [hop]; rfl, by simpa using hs', ?_⟩
  simp at hpop
  rw [run22 (by simp [mC])]
  simp [Tryz.f22, mC, mC2, setI, hop, hpop, mB_keys, mB_vws, mB_ups, mB_len hs2, mB_g3, hc1, hc2, drwK_end]
theorem top2 (S : List Int) (m n : Int) : (S ++ [m, n]).getLast? = some n := by
  rw [show S ++ [m, n] = (S ++ [m]) ++ [n] by simp]; simp
theorem pop2 (S : List Int) (m n : Int) : (S ++ [m, n]).dropLast = S ++ [m] := by
  rw [show S ++ [m, n] = (S ++ [m]) ++ [n] by simp, List.dropLast_concat]
theorem mv_7 (i : D) (vr cl : Int) (x : Ins) (s : Ms) (G : List Int) (hs : s.stk.length + G.length = 64) (hcl : s.cells.length ≤ 8192) (hf : Fit x s.cells.length s.stk.length) (hop : x.op = 7) :
    ∃ t G', moveF x s = some t ∧ t.stk.length + G'.length = 64 ∧ callT ctx 22 [.ptr 0 0 0, .d (insD x)] (mC i vr cl s G) = some (.ret (.d (.bool true)), mC2 i vr cl t G') := by
  obtain ⟨C, S0, a, f, x0⟩ := s
  simp only at hs hf hcl
  obtain ⟨hl, k1, k2, k3, k4, k5⟩ := hf.i7 hop
  obtain ⟨S, m, n, rfl⟩ := snoc2_of hl
  have hs' : S.length + (G.length + 1 + 1) = 64 := by simp at hs; omega
  have hpop := pop_run i vr cl C (S ++ [m]) G a f x0 n (by simp; omega)
  have hpop2 := pop_run i vr cl C S (n :: G) a f x0 m (by simp; omega)
  have hs2 : S.length + (m :: n :: G).length = 64 := by simpa using hs'
  have hpl := place_run i vr cl C S (m :: n :: G) S.length a f x0 x m hs2 ⟨k1, k3, k4, by omega⟩
  by_cases hin : inArr x m = true
  · have hr : 0 ≤ x.a + (m - x.n) ∧ (x.a + (m - x.n)).toNat < C.length := by
      unfold inArr at hin
      simp at hin
      omega
    obtain ⟨r1, r2⟩ := hr
    rw [if_pos hin, if_pos hin] at hpl
    generalize hv : x.a + (m - x.n) = v at *
    refine ⟨_, m :: n :: G, by simp only [moveF, Ms.top, Ms.pop]; simp [hop, hin, hv, top2, pop2]; rfl, by simpa using hs', ?_⟩
    simp [hop] at hpop hpop2 hpl
    rw [run22 (by simp [mC])]
    simp [Tryz.f22, mC, mC2, setI, hop, hpop, hpop2, hpl, mB_keys, mB_vws, mB_ups, mB_len hs2, mB_g3, r1, r2, drwK_end]
  · rw [if_neg hin, if_neg hin] at hpl
    have hin' : inArr x m = false := by simpa using hin
    refine ⟨_, m :: n :: G, by simp only [moveF, Ms.top, Ms.pop]; simp [hop, hin', top2, pop2]; rfl, by simpa using hs', ?_⟩
    simp [hop] at hpop hpop2 hpl
    rw [run22 (by simp [mC])]
    simp [Tryz.f22, mC, mC2, hop, hpop, hpop2, hpl, mB_keys, mB_vws, mB_ups, mB_len hs2, mB_g3, drwK_end]
theorem vmoves_run (i : D) (vr cl : Int) (x : Ins) (s : Ms) (G : List Int) (hs : s.stk.length + G.length = 64) (hcl : s.cells.length ≤ 8192) (hf : Fit x s.cells.length s.stk.length) (hop : 1 ≤ x.op ∧ x.op ≤ 7) :
    ∃ t G', moveF x s = some t ∧ t.stk.length + G'.length = 64 ∧ callT ctx 22 [.ptr 0 0 0, .d (insD x)] (mC i vr cl s G) = some (.ret (.d (.bool true)), mC2 i vr cl t G') := by
  have hc : x.op = 1 ∨ x.op = 2 ∨ x.op = 3 ∨ (x.op = 4 ∨ x.op = 5) ∨ x.op = 6 ∨ x.op = 7 := by omega
  rcases hc with h | h | h | h | h | h
  · obtain ⟨G', h1, h2⟩ := mv_1 i vr cl x s G hs hf h
    exact ⟨_, G', by simp [moveF, h], h1, h2⟩
  · obtain ⟨G', h1, h2⟩ := mv_2 i vr cl x s G hs hf h
    exact ⟨_, G', by simp [moveF, h], h1, h2⟩
  · obtain ⟨G', h1, h2⟩ := mv_3 i vr cl x s G hs hf h
    exact ⟨_, G', by simp only [moveF, h]; rfl, h1, h2⟩
  · exact mv_4 i vr cl x s G hs hcl hf h
  · exact mv_6 i vr cl x s G hs hf h
  · exact mv_7 i vr cl x s G hs hcl hf h
theorem vmoves_none (i : D) (vr cl : Int) (x : Ins) (s : Ms) (G : List Int) (hop : 8 ≤ x.op) :
    moveF x s = none ∧ callT ctx 22 [.ptr 0 0 0, .d (insD x)] (mC i vr cl s G) = some (.ret (.d (.bool false)), mC2 i vr cl s G) := by
  have h1 : x.op ≠ 1 := by omega
  have h2 : x.op ≠ 2 := by omega
  have h3 : x.op ≠ 3 := by omega
  have h4 : x.op ≠ 4 := by omega
  have h5 : x.op ≠ 5 := by omega
  have h6 : x.op ≠ 6 := by omega
  have h7 : x.op ≠ 7 := by omega
  refine ⟨by simp [moveF, h1, h2, h3, h4, h5, h6, h7], ?_⟩
  obtain ⟨C, S, a, f, x0⟩ := s
  rw [run22 (by simp [mC])]
  simp [Tryz.f22, mC, mC2, h1, h2, h3, h4, h5, h6, h7, mB_keys, mB_vws, mB_ups]
end Go.Am
end
section
namespace Go.Am
open Go Go.Proofs
set_option maxRecDepth 20000
theorem flats_map : ∀ T : List Int, flats (T.map iA) = some (T.map jD)
  | [] => rfl
  | x :: r => by
    have := flats_map r
    simp only [List.map_cons, iA] at this ⊢
    rw [flats.eq_2, this]
    rfl
theorem mB_drop {I : AV} {vr cl : Int} {cv : AV} {S T G : List Int} {h a f x : Int} : (mB I vr cl cv (S ++ T) G h a f x).drop (4 + S.length) = T.map iA ++ (G.map iA ++ [.d (.int .i64 h), .d (.int .i64 a), .d (.int .i64 f), .d (.int .i64 x)]) := by
  rw [mB, show 4 + S.length = S.length + 1 + 1 + 1 + 1 by omega]
  simp only [List.drop_succ_cons, List.map_append, List.append_assoc]
  rw [List.drop_append_of_le_length (by simp), show S.length = (S.map iA).length by simp, List.drop_length]
  rfl
theorem flatsT {I : AV} {vr cl : Int} {cv : AV} {S T G : List Int} {h a f x : Int} {n : Nat} (hn : n = T.length) : flats (((mB I vr cl cv (S ++ T) G h a f x).drop (4 + S.length)).take n) = some (T.map jD) := by
  rw [mB_drop, hn, List.take_append_of_le_length (by simp), show T.length = (T.map iA).length by simp, List.take_length]
  exact flats_map T
theorem clone64_eq (L : List Int) (hl : L.length ≤ 100000) : callT ctx 21 [.d (.list (L.map jD))] [] = some (.ret (.vec 0 0 0 L.length), [(0, .vec 1 (L.map jD))]) := clone64_run L hl
theorem does_1 (i : D) (vr cl : Int) (x : Ins) (C S G : List Int) (a f x0 n : Int) (hs : S.length + (G.length + 1) = 64) (hn : I64 n) (hb : x.b = 6 ∨ x.b = 7) :
    callT ctx 40 [.ptr 0 0 0, .d (insD x)] [.box (mB (.d i) vr cl (.vec 1 0 0 C.length) (S ++ [n]) G ((S ++ [n]).length : Nat) a f x0), .vec 1 (C.map jD)] =
      some (.ret (.tup []), if (op1 x.b n (decide (x.a = 1))).2.2 = 0 then [(0, .box (mB (.d i) vr cl (.vec 1 0 0 C.length) (S ++ [(op1 x.b n (decide (x.a = 1))).1]) G ((S ++ [n]).length : Nat) a f x0)), (0, .vec 1 (C.map jD))]
        else [(0, .box (mB (.d i) vr cl (.vec 1 0 0 C.length) S (n :: G) S.length a f (op1 x.b n (decide (x.a = 1))).2.2)), (0, .vec 1 (C.map jD))]) := by
  have hop := foldOp1_run x.b n (decide (x.a = 1)) hn
  have hcl := clone64_eq [n] (by simp)
  have hfl : ∀ h, flats (((mB (.d i) vr cl (.vec 1 0 0 C.length) (S ++ [n]) G h a f x0).drop (4 + S.length)).take 1) = some [D.int .i64 n] := fun h => flatsT rfl
  simp only [mB_pop] at hfl
  have g1 : (S.length : Int) ≤ (S.length : Int) + 1 := by omega
  have h1 : (S ++ [n]).length + G.length = 64 := by simp; omega
  have h2 : S.length + (n :: G).length = 64 := by simpa using hs
  have hlt : 4 + S.length + 1 ≤ 72 := by omega
  have hle : S.length + 1 ≤ 64 := by omega
  have hpush := fun v => push_run i vr cl C S G n a f x0 v hs
  have w1 : IntKind.i64.wrap (S.length : Int) = (S.length : Int) := wrap_id (by unfold I64; omega)
  have g0 : (0 : Int) ≤ (S.length : Int) := by omega
  have hbb : (decide (x.b = 6) || decide (x.b = 7)) = true := by simpa using hb
  generalize op1 x.b n (decide (x.a = 1)) = p at *
  have hpush := hpush p.1
  simp at hop hcl hpush
  rw [run40 (by simp)]
  by_cases hp : p.2.2 = 0
  · rcases hb with hb | hb <;> simp only [hb] at hop <;>
    simp [Tryz.f40, hb, hop, hcl, hfl, hp, hpush, mB_keys, mB_vws, mB_ups, mB_len h1, mB_len h2, mB_g68 h1, mB_g68 h2, mB_set68 h1, mB_set68 h2, mB_pop, hlt, hle, w1, g0, g1, drwK_end]
  · rcases hb with hb | hb <;> simp only [hb] at hop <;>
    simp [Tryz.f40, hb, hop, hcl, hfl, hp, mB_keys, mB_vws, mB_ups, mB_len h1, mB_len h2, mB_g68 h1, mB_g68 h2, mB_set68 h1, mB_set68 h2, mB_set71 h2, mB_pop, hlt, hle, w1, g0, g1, drwK_end]
theorem mB_pop2 {I : AV} {vr cl : Int} {cv : AV} {S G : List Int} {h a f x : Int} (m n : Int) : mB I vr cl cv (S ++ [m, n]) G h a f x = mB I vr cl cv S (m :: n :: G) h a f x := by simp [mB]
theorem does_2 (i : D) (vr cl : Int) (x : Ins) (C S G : List Int) (a f x0 m n : Int) (hs : S.length + (G.length + 2) = 64) (hm : I64 m) (hn : I64 n) (hb : ¬ (x.b = 6 ∨ x.b = 7)) :
    callT ctx 40 [.ptr 0 0 0, .d (insD x)] [.box (mB (.d i) vr cl (.vec 1 0 0 C.length) (S ++ [m, n]) G ((S ++ [m, n]).length : Nat) a f x0), .vec 1 (C.map jD)] =
      some (.ret (.tup []), if (op2 x.b m n (decide (x.a = 1))).2.2 = 0 then [(0, .box (mB (.d i) vr cl (.vec 1 0 0 C.length) (S ++ [(op2 x.b m n (decide (x.a = 1))).1]) (n :: G) ((S ++ [n]).length : Nat) a f x0)), (0, .vec 1 (C.map jD))]
        else [(0, .box (mB (.d i) vr cl (.vec 1 0 0 C.length) S (m :: n :: G) S.length a f (op2 x.b m n (decide (x.a = 1))).2.2)), (0, .vec 1 (C.map jD))]) := by
  have hop := foldOp2_run x.b m n (decide (x.a = 1)) hm hn
  have hcl := clone64_eq [m, n] (by simp)
  have hfl : ∀ h, flats (((mB (.d i) vr cl (.vec 1 0 0 C.length) (S ++ [m, n]) G h a f x0).drop (4 + S.length)).take 2) = some [D.int .i64 m, D.int .i64 n] := fun h => flatsT rfl
  simp only [mB_pop2] at hfl
  have g1 : (S.length : Int) ≤ (S.length : Int) + 2 := by omega
  have h2 : S.length + (m :: n :: G).length = 64 := by simpa using hs
  have hlt : 4 + S.length + 2 ≤ 72 := by omega
  have hle : S.length + 2 ≤ 64 := by omega
  have tn : ((S.length : Int) + 2).toNat = S.length + 2 := by omega
  have tn2 : ((S.length : Int) + 2).toNat - S.length = 2 := by omega
  have hle2 : (S.length : Int) + 2 ≤ 64 := by omega
  have hpush := fun v => push_run i vr cl C S (n :: G) m a f x0 v (by simpa using hs)
  have w1 : IntKind.i64.wrap ((S.length : Int) + 2 - 2) = (S.length : Int) := by rw [show (S.length : Int) + 2 - 2 = S.length by omega]; exact wrap_id (by unfold I64; omega)
  have w2 : IntKind.i64.wrap (S.length : Int) = (S.length : Int) := wrap_id (by unfold I64; omega)
  have g0 : (0 : Int) ≤ (S.length : Int) := by omega
  have hb1 : ¬ x.b = 6 := fun h => hb (.inl h)
  have hb2 : ¬ x.b = 7 := fun h => hb (.inr h)
  generalize op2 x.b m n (decide (x.a = 1)) = p at *
  have hpush := hpush p.1
  simp at hop hcl hpush
  rw [run40 (by simp)]
  by_cases hp : p.2.2 = 0
  · simp [Tryz.f40, hb1, hb2, hop, hcl, hfl, hp, hpush, mB_keys, mB_vws, mB_ups, mB_len h2, mB_g68 h2, mB_set68 h2, mB_pop2, mB_pop, hlt, hle, hle2, tn, tn2, w1, w2, g0, g1, drwK_end]
  · simp [Tryz.f40, hb1, hb2, hop, hcl, hfl, hp, mB_keys, mB_vws, mB_ups, mB_len h2, mB_g68 h2, mB_set68 h2, mB_set71 h2, mB_pop2, mB_pop, hlt, hle, hle2, tn, tn2, w1, w2, g0, g1, drwK_end]
end Go.Am
end
section
namespace Go.Am
open Go Go.Proofs
set_option maxRecDepth 20000
/-- Numbers of a state that have room. -/
structure NumsOk (s : Ms) : Prop where
  cells : ∀ n ∈ s.cells, I64 n
  stk : ∀ n ∈ s.stk, I64 n
  few : s.cells.length ≤ 8192
  fuel : 0 ≤ s.fuel ∧ s.fuel ≤ 16384
  place : 0 ≤ s.at_ ∧ s.at_ ≤ 5000
def CtlOk (i : D) (vr cl : Int) (x : Ins) (s : Ms) (G : List Int) : Prop :=
  ∃ G', (ctlF x s).stk.length + G'.length = 64 ∧ callT ctx 23 [.ptr 0 0 0, .d (insD x)] (mC i vr cl s G) = some (.ret (.tup []), mC2 i vr cl (ctlF x s) G')
theorem ct_8 (i : D) (vr cl : Int) (x : Ins) (s : Ms) (G : List Int) (hs : s.stk.length + G.length = 64) (hf : Fit x s.cells.length s.stk.length) (hN : NumsOk s) (hop : x.op = 8) : CtlOk i vr cl x s G := by
  obtain ⟨C, S0, a, f, x0⟩ := s
  simp only at hs hf
  obtain ⟨f1, f2⟩ := hf.i8 hop
  have hstk := hN.stk
  simp only at hstk
  unfold CtlOk
  have hct : ctlF x ⟨C, S0, a, f, x0⟩ = doF x ⟨C, S0, a, f, x0⟩ := by simp [ctlF, hop]
  rw [hct]
  rw [run23 (by simp [mC])]
  by_cases hb : x.b = 6 ∨ x.b = 7
  · obtain ⟨S, n, rfl⟩ := snoc_of (f1 hb)
    have hd := does_1 i vr cl x C S G a f x0 n (by simp at hs; omega) (hstk n (by simp)) hb
    unfold doF
    rw [if_pos hb]
    simp only [Ms.top, Ms.pop, Ms.push, List.getLast?_concat, Option.getD_some, List.dropLast_concat]
    generalize op1 x.b n (decide (x.a = 1)) = p at *
    by_cases hp : p.2.2 = 0
    · rw [if_pos hp] at hd ⊢
      refine ⟨G, by simpa using hs, ?_⟩
      simp [hop] at hd
      simp [Tryz.f23, mC, mC2, hop, hd, mB_keys, mB_vws, mB_ups, drwK_end]
    · rw [if_neg hp] at hd ⊢
      refine ⟨n :: G, by simp at hs ⊢; omega, ?_⟩
      simp [hop] at hd
      simp [Tryz.f23, mC, mC2, hop, hd, mB_keys, mB_vws, mB_ups, drwK_end]
  · obtain ⟨S, m, n, rfl⟩ := snoc2_of (f2 hb)
    have hd := does_2 i vr cl x C S G a f x0 m n (by simp at hs; omega) (hstk m (by simp)) (hstk n (by simp)) hb
    unfold doF
    rw [if_neg hb]
    simp only [Ms.top, Ms.pop, Ms.push, top2, pop2, List.getLast?_concat, Option.getD_some, List.dropLast_concat]
    generalize op2 x.b m n (decide (x.a = 1)) = p at *
    by_cases hp : p.2.2 = 0
    · rw [if_pos hp] at hd ⊢
      refine ⟨n :: G, by simp at hs ⊢; omega, ?_⟩
      simp [hop] at hd
      simp [Tryz.f23, mC, mC2, hop, hd, mB_keys, mB_vws, mB_ups, drwK_end]
    · rw [if_neg hp] at hd ⊢
      refine ⟨m :: n :: G, by simp at hs ⊢; omega, ?_⟩
      simp [hop] at hd
      simp [Tryz.f23, mC, mC2, hop, hd, mB_keys, mB_vws, mB_ups, drwK_end]
theorem ct_9 (i : D) (vr cl : Int) (x : Ins) (s : Ms) (G : List Int) (hs : s.stk.length + G.length = 64) (hop : x.op = 9) : CtlOk i vr cl x s G := by
  obtain ⟨C, S, a, f, x0⟩ := s
  simp only at hs
  unfold CtlOk
  refine ⟨G, by simpa [ctlF, hop] using hs, ?_⟩
  rw [run23 (by simp [mC])]
  simp [Tryz.f23, ctlF, mC, mC2, hop, mB_keys, mB_vws, mB_ups, mB_len hs, mB_set69 hs, drwK_end]
theorem ct_10 (i : D) (vr cl : Int) (x : Ins) (s : Ms) (G : List Int) (hs : s.stk.length + G.length = 64) (hf : Fit x s.cells.length s.stk.length) (hop : x.op = 10) : CtlOk i vr cl x s G := by
  obtain ⟨C, S0, a, f, x0⟩ := s
  simp only at hs hf
  obtain ⟨S, n, rfl⟩ := snoc_of (hf.i10 hop)
  have hs' : S.length + (G.length + 1) = 64 := by simp at hs; omega
  have hpop := pop_run i vr cl C S G a f x0 n hs'
  have hs2 : S.length + (n :: G).length = 64 := by simpa using hs'
  unfold CtlOk
  rw [run23 (by simp [mC])]
  simp at hpop
  by_cases hn : n = 0
  · refine ⟨n :: G, by simp [ctlF, hop, Ms.top, Ms.pop, hn]; omega, ?_⟩
    subst hn
    simp [Tryz.f23, ctlF, Ms.top, Ms.pop, mC, mC2, hop, hpop, mB_keys, mB_vws, mB_ups, mB_len hs2, mB_set69 hs2, drwK_end]
  · refine ⟨n :: G, by simp [ctlF, hop, Ms.top, Ms.pop, hn]; omega, ?_⟩
    simp [Tryz.f23, ctlF, Ms.top, Ms.pop, mC, mC2, hop, hpop, hn, mB_keys, mB_vws, mB_ups, drwK_end]
theorem ct_11 (i : D) (vr cl : Int) (x : Ins) (s : Ms) (G : List Int) (hs : s.stk.length + G.length = 64) (hN : NumsOk s) (hop : x.op = 11) : CtlOk i vr cl x s G := by
  obtain ⟨C, S, a, f, x0⟩ := s
  have hfu := hN.fuel
  simp only at hs hfu
  unfold CtlOk
  rw [run23 (by simp [mC])]
  by_cases hn : f = 0
  · refine ⟨G, by simpa [ctlF, hop, hn] using hs, ?_⟩
    simp [Tryz.f23, ctlF, mC, mC2, hop, hn, mB_keys, mB_vws, mB_ups, mB_len hs, mB_g70 hs, mB_set71 hs, drwK_end]
  · have w : IntKind.i64.wrap (f - 1) = f - 1 := wrap_id (by unfold I64; omega)
    refine ⟨G, by simpa [ctlF, hop, hn] using hs, ?_⟩
    simp [Tryz.f23, ctlF, mC, mC2, hop, hn, w, mB_keys, mB_vws, mB_ups, mB_len hs, mB_g70 hs, mB_set70 hs, drwK_end]
theorem ct_13 (i : D) (vr cl : Int) (x : Ins) (s : Ms) (G : List Int) (hs : s.stk.length + G.length = 64) (hf : Fit x s.cells.length s.stk.length) (hN : NumsOk s) (hop : x.op = 13) : CtlOk i vr cl x s G := by
  obtain ⟨C, S, a, f, x0⟩ := s
  have hfew := hN.few
  simp only at hs hf hfew
  obtain ⟨h1, ⟨a1, a2⟩, ⟨b1, b2⟩, ⟨c1, c2⟩⟩ := hf.i13 hop
  obtain ⟨g, G', rfl, hs'⟩ := room_of hs h1
  have hu := upTo_run i vr cl C S (g :: G') S.length a f x0 x hs ⟨a1, a2, b1, by omega, hfew⟩
  have ht := truth_run (upToS C x)
  have ho : (if upToS C x = true then (1 : Int) else 0) = oneZ (upToS C x) := rfl
  rw [ho] at ht
  have hpush := push_run i vr cl C S G' g a f x0 (oneZ (upToS C x)) hs'
  unfold CtlOk
  rw [run23 (by simp [mC])]
  refine ⟨G', by simp [ctlF, hop, Ms.push]; omega, ?_⟩
  simp [hop] at hu hpush
  simp [Tryz.f23, ctlF, Ms.push, mC, mC2, hop, hu, ht, hpush, mB_keys, mB_vws, mB_ups, drwK_end]
theorem ct_14 (i : D) (vr cl : Int) (x : Ins) (s : Ms) (G : List Int) (hs : s.stk.length + G.length = 64) (hf : Fit x s.cells.length s.stk.length) (hop : x.op = 14) : CtlOk i vr cl x s G := by
  obtain ⟨C, S, a, f, x0⟩ := s
  simp only at hs hf
  obtain ⟨hl, hc1, hc2⟩ := hf.i2 (.inr (.inr hop))
  obtain ⟨g, G', rfl, hs'⟩ := room_of hs hl
  have hpush := fun v => push_run i vr cl C S G' g a f x0 v hs'
  unfold CtlOk
  rw [run23 (by simp [mC])]
  refine ⟨G', by simp [ctlF, hop, Ms.push]; omega, ?_⟩
  have ht := truth_run
  by_cases h1 : x.n ≤ atI C x.a
  · by_cases h2 : atI C x.a ≤ x.m
    · have hpush := hpush 1
      simp at hpush
      simp [Tryz.f23, ctlF, Ms.push, mC, mC2, hop, ht, oneZ, hpush, h1, h2, hc1, hc2, cellAt, mB_keys, mB_vws, mB_ups, mB_len hs, mB_g3, drwK_end]
    · have hpush := hpush 0
      simp at hpush
      simp [Tryz.f23, ctlF, Ms.push, mC, mC2, hop, ht, oneZ, hpush, h1, h2, hc1, hc2, cellAt, mB_keys, mB_vws, mB_ups, mB_len hs, mB_g3, drwK_end]
  · have hpush := hpush 0
    simp at hpush
    simp [Tryz.f23, ctlF, Ms.push, mC, mC2, hop, ht, oneZ, hpush, h1, hc1, hc2, cellAt, mB_keys, mB_vws, mB_ups, mB_len hs, mB_g3, drwK_end]
theorem plainDs_jD : ∀ Y : List Int, plainDs (Y.map jD) = true
  | [] => rfl
  | x :: r => by simp [plainDs, plainD, plainDs_jD r]
theorem putC_map (C Y : List Int) (a : Nat) (h : a + Y.length ≤ C.length) : putCells (C.map jD) a (Y.map jD) = (C.take a ++ Y ++ C.drop (a + Y.length)).map jD := by
  rw [putCells_eq _ _ _ (by simpa using h)]
  simp [List.map_take, List.map_drop]
theorem ct_12 (i : D) (vr cl : Int) (x : Ins) (s : Ms) (G : List Int) (hs : s.stk.length + G.length = 64) (hf : Fit x s.cells.length s.stk.length) (hN : NumsOk s) (hop : x.op = 12) : CtlOk i vr cl x s G := by
  obtain ⟨C, S, a, f, x0⟩ := s
  have hfew := hN.few
  have hcI := hN.cells
  simp only at hs hf hfew hcI
  obtain ⟨k1, k2⟩ := hf.i12 hop
  obtain ⟨pl, hp1, hp2, hp3⟩ := pins_ok x.b
  obtain ⟨o, ho⟩ : ∃ o : Nat, x.a = (o : Int) := ⟨x.a.toNat, by omega⟩
  have k2' : o + pl.length ≤ C.length := by rw [ho] at k2; simp at k2; omega
  have hlen : ((C.drop o).take pl.length).length = pl.length := by simp; omega
  have hst := step_run x.b ((C.drop o).take pl.length) (by rw [hlen, hp2]) (fun y hy => hcI y (List.mem_of_mem_drop (List.mem_of_mem_take hy)))
  have hYl : (stepB x.b ((C.drop o).take pl.length)).length = pl.length := by rw [stepB_len, hlen]
  have hblk : blockF x C = C.take o ++ stepB x.b ((C.drop o).take pl.length) ++ C.drop (o + (stepB x.b ((C.drop o).take pl.length)).length) := by
    unfold blockF
    rw [ho, hYl, ← hp2]
    simp
  have hput := putC_map C (stepB x.b ((C.drop o).take pl.length)) o (by omega)
  rw [← hblk] at hput
  have hbl : (blockF x C).length = C.length := by
    rw [hblk]
    simp only [List.length_append, List.length_take, List.length_drop, hYl]
    omega
  rw [hlen] at hst
  generalize hY : stepB x.b ((C.drop o).take pl.length) = Y at *
  have htk : (Y.map jD).take (C.length - o) = Y.map jD := List.take_of_length_le (by simp; omega)
  have htk2 : (Y.map jD).take pl.length = Y.map jD := List.take_of_length_le (by simp; omega)
  have wa : IntKind.i64.wrap ((o : Int) + (pl.length : Int)) = (o : Int) + (pl.length : Int) := wrap_id (by unfold I64; omega)
  have tn : ((o : Int) + (pl.length : Int)).toNat = o + pl.length := by omega
  have ho1 : o ≤ C.length := by omega
  have ho2 : (o : Int) ≤ (C.length : Int) := by omega
  have ho3 : (0 : Int) ≤ (o : Int) + (pl.length : Int) := by omega
  have ho4 : (o : Int) ≤ (o : Int) + (pl.length : Int) := by omega
  have ho5 : o + (C.length - o) ≤ C.length := by omega
  unfold CtlOk
  refine ⟨G, by simpa [ctlF, hop] using hs, ?_⟩
  rw [run23 (by simp [mC])]
  clear hN hf hcI hY hblk
  try simp at hp1
  simp only [List.map_take, List.map_drop] at hst
  simp [Tryz.f23, ctlF, mC, mC2, hop, ho, hp1, hst, hYl, htk, htk2, hput, hbl, wa, tn, ho1, ho2, ho3, ho4, ho5, k2', mB_keys, mB_vws, mB_ups, mB_len hs, mB_g3, plainDs_jD, drwK_end]
theorem control_run (i : D) (vr cl : Int) (x : Ins) (s : Ms) (G : List Int) (hs : s.stk.length + G.length = 64) (hf : Fit x s.cells.length s.stk.length) (hN : NumsOk s) (hop : 8 ≤ x.op ∧ x.op ≤ 14) : CtlOk i vr cl x s G := by
  have hc : x.op = 8 ∨ x.op = 9 ∨ x.op = 10 ∨ x.op = 11 ∨ x.op = 12 ∨ x.op = 13 ∨ x.op = 14 := by omega
  rcases hc with h | h | h | h | h | h | h
  · exact ct_8 i vr cl x s G hs hf hN h
  · exact ct_9 i vr cl x s G hs h
  · exact ct_10 i vr cl x s G hs hf h
  · exact ct_11 i vr cl x s G hs hN h
  · exact ct_12 i vr cl x s G hs hf hN h
  · exact ct_13 i vr cl x s G hs hf hN h
  · exact ct_14 i vr cl x s G hs hf h
end Go.Am
end
section
namespace Go.Am
open Go Go.Proofs
inductive RunsF (l : List Ins) : Ms → Ms → Prop
  | fault (s : Ms) (h : s.fault ≠ 0) : RunsF l s s
  | fin (s : Ms) (x : Ins) (h0 : s.fault = 0) (hx : l[s.at_.toNat]? = some x) (h : x.op = 15) : RunsF l s s
  | step (s : Ms) (x : Ins) (t : Ms) (h0 : s.fault = 0) (hx : l[s.at_.toNat]? = some x) (h : x.op ≠ 15) (h' : RunsF l (stepF x s) t) : RunsF l s t
structure VInv (l : List Ins) (st : Nat → List Bool) (n : Nat) (s : Ms) : Prop where
  nums : NumsOk s
  len : s.cells.length = n
  h64 : s.stk.length ≤ 64
  here : s.fault = 0 → s.at_.toNat < l.length ∧ s.stk.length = (st s.at_.toNat).length
theorem giveS_some {t : Bool} {S S' : List Bool} (h : giveS t S = some S') : S.length < 64 ∧ S'.length = S.length + 1 := by
  unfold giveS at h
  split at h
  · rename_i hl; cases h; exact ⟨hl, by simp⟩
  · cases h
theorem takeS_some {n : Nat} {t : Bool} {S S' : List Bool} (h : takeS n t S = some S') : n ≤ S.length ∧ S'.length = S.length - n := by
  unfold takeS at h
  split at h
  · cases h
  · rename_i hl
    split at h
    · cases h
    · cases h; exact ⟨by omega, by simp⟩
theorem emptyS_some {S S' : List Bool} (h : emptyS S = some S') : S = [] ∧ S' = [] := by
  unfold emptyS at h
  split at h
  · rename_i hl; cases h; exact ⟨hl, rfl⟩
  · cases h
theorem cellB_ok {cells n : Nat} {a : Int} (h : cellB cells a n = true) : 0 ≤ a ∧ a.toNat + n ≤ cells := by
  unfold cellB at h
  simp only [Bool.and_eq_true, decide_eq_true_eq] at h
  omega
/-- What an instruction does to the stack's height. -/
def hgt (x : Ins) (h : Nat) : Nat :=
  if x.op = 1 ∨ x.op = 2 ∨ x.op = 3 ∨ x.op = 13 ∨ x.op = 14 then h + 1 else if x.op = 4 ∨ x.op = 5 then h else if x.op = 6 ∨ x.op = 10 then h - 1 else if x.op = 7 then h - 2
  else if x.op = 8 then (if x.b = 6 ∨ x.b = 7 then h else h - 1) else h
theorem arrB_ok {n : Nat} {x : Ins} (h : arrB n x = true) : arrOk n x := by
  unfold arrB cellB at h
  unfold arrOk
  simp only [Bool.and_eq_true, decide_eq_true_eq] at h
  omega
theorem fit_of {n : Nat} {last at_ : Int} {x : Ins} {S S' : List Bool} (hfm : formB pinsN n last at_ x = true) (hmv : movesS x S = some S') (h64 : S.length ≤ 64) :
    Fit x n S.length ∧ S'.length = hgt x S.length ∧ (x.op = 10 → S'.length = 0) ∧ (x.op = 9 → S'.length = 0) ∧ (1 ≤ x.op ∧ x.op ≤ 15) := by
  have hop : x.op = 1 ∨ x.op = 2 ∨ x.op = 3 ∨ x.op = 4 ∨ x.op = 5 ∨ x.op = 6 ∨ x.op = 7 ∨ x.op = 8 ∨ x.op = 9 ∨ x.op = 10 ∨ x.op = 11 ∨ x.op = 12 ∨ x.op = 13 ∨ x.op = 14 ∨ x.op = 15 := by
    apply Classical.byContradiction
    intro hc
    simp only [not_or] at hc
    unfold formB at hfm
    simp [hc] at hfm
  unfold formB at hfm
  unfold movesS at hmv
  have one : ∀ {a : Int}, cellB n a 1 = true → cellOk n a := fun h => by
    have := cellB_ok (n := 1) h
    exact ⟨this.1, by omega⟩
  rcases hop with e | e | e | e | e | e | e | e | e | e | e | e | e | e | e <;> simp [e] at hfm hmv
  · obtain ⟨h1, h2⟩ := giveS_some hmv
    exact ⟨⟨h64, fun _ => h1, by simp [e], by simp [e], by simp [e], by simp [e], by simp [e], by simp [e], by simp [e], by simp [e]⟩, by simp [hgt, e, h2], by simp [e], by simp [e], by simp [e]⟩
  · obtain ⟨h1, h2⟩ := giveS_some hmv
    exact ⟨⟨h64, by simp [e], fun _ => ⟨h1, one hfm⟩, by simp [e], by simp [e], by simp [e], by simp [e], by simp [e], by simp [e], by simp [e]⟩, by simp [hgt, e, h2], by simp [e], by simp [e], by simp [e]⟩
  · obtain ⟨h1, h2⟩ := giveS_some hmv
    exact ⟨⟨h64, by simp [e], fun _ => ⟨h1, one hfm⟩, by simp [e], by simp [e], by simp [e], by simp [e], by simp [e], by simp [e], by simp [e]⟩, by simp [hgt, e, h2], by simp [e], by simp [e], by simp [e]⟩
  · obtain ⟨T, t1, t2⟩ := Option.bind_eq_some_iff.1 hmv
    obtain ⟨h1, h2⟩ := takeS_some t1
    obtain ⟨h3, h4⟩ := giveS_some t2
    exact ⟨⟨h64, by simp [e], by simp [e], fun _ => ⟨h1, arrB_ok hfm⟩, by simp [e], by simp [e], by simp [e], by simp [e], by simp [e], by simp [e]⟩, by simp [hgt, e]; omega, by simp [e], by simp [e], by simp [e]⟩
  · obtain ⟨T, t1, t2⟩ := Option.bind_eq_some_iff.1 hmv
    obtain ⟨h1, h2⟩ := takeS_some t1
    obtain ⟨h3, h4⟩ := giveS_some t2
    exact ⟨⟨h64, by simp [e], by simp [e], fun _ => ⟨h1, arrB_ok hfm⟩, by simp [e], by simp [e], by simp [e], by simp [e], by simp [e], by simp [e]⟩, by simp [hgt, e]; omega, by simp [e], by simp [e], by simp [e]⟩
  · obtain ⟨h1, h2⟩ := takeS_some hmv
    exact ⟨⟨h64, by simp [e], by simp [e], by simp [e], fun _ => ⟨h1, one hfm⟩, by simp [e], by simp [e], by simp [e], by simp [e], by simp [e]⟩, by simp [hgt, e]; omega, by simp [e], by simp [e], by simp [e]⟩
  · obtain ⟨h1, h2⟩ := takeS_some hmv
    exact ⟨⟨h64, by simp [e], by simp [e], by simp [e], by simp [e], fun _ => ⟨h1, arrB_ok hfm⟩, by simp [e], by simp [e], by simp [e], by simp [e]⟩, by simp [hgt, e]; omega, by simp [e], by simp [e], by simp [e]⟩
  · obtain ⟨T, t1, t2⟩ := Option.bind_eq_some_iff.1 hmv
    obtain ⟨h1, h2⟩ := takeS_some t1
    obtain ⟨h3, h4⟩ := giveS_some t2
    by_cases hb : x.b = 6 ∨ x.b = 7
    · rw [if_pos hb] at h1 h2
      exact ⟨⟨h64, by simp [e], by simp [e], by simp [e], by simp [e], by simp [e], fun _ => ⟨fun _ => h1, fun h => absurd hb h⟩, by simp [e], by simp [e], by simp [e]⟩, by simp [hgt, e, hb]; omega, by simp [e], by simp [e], by simp [e]⟩
    · rw [if_neg hb] at h1 h2
      exact ⟨⟨h64, by simp [e], by simp [e], by simp [e], by simp [e], by simp [e], fun _ => ⟨fun h => absurd h hb, fun _ => h1⟩, by simp [e], by simp [e], by simp [e]⟩, by simp [hgt, e, hb]; omega, by simp [e], by simp [e], by simp [e]⟩
  · obtain ⟨h1, h2⟩ := emptyS_some hmv
    exact ⟨⟨h64, by simp [e], by simp [e], by simp [e], by simp [e], by simp [e], by simp [e], by simp [e], by simp [e], by simp [e]⟩, by simp [hgt, e, h1, h2], by simp [e], fun _ => by simp [h2], by simp [e]⟩
  · obtain ⟨T, t1, t2⟩ := Option.bind_eq_some_iff.1 hmv
    obtain ⟨h1, h2⟩ := takeS_some t1
    obtain ⟨h3, h4⟩ := emptyS_some t2
    subst h3
    subst h4
    exact ⟨⟨h64, by simp [e], by simp [e], by simp [e], by simp [e], by simp [e], by simp [e], fun _ => h1, by simp [e], by simp [e]⟩, by simp [hgt, e]; simpa using h2, fun _ => rfl, by simp [e], by simp [e]⟩
  · obtain ⟨h1, h2⟩ := emptyS_some hmv
    exact ⟨⟨h64, by simp [e], by simp [e], by simp [e], by simp [e], by simp [e], by simp [e], by simp [e], by simp [e], by simp [e]⟩, by simp [hgt, e, h1, h2], by simp [e], by simp [e], by simp [e]⟩
  · obtain ⟨h1, h2⟩ := emptyS_some hmv
    have hc := cellB_ok hfm.2
    exact ⟨⟨h64, by simp [e], by simp [e], by simp [e], by simp [e], by simp [e], by simp [e], by simp [e], fun _ => hc, by simp [e]⟩, by simp [hgt, e, h1, h2], by simp [e], by simp [e], by simp [e]⟩
  · obtain ⟨h1, h2⟩ := giveS_some hmv
    have hb := cellB_ok (n := 2) hfm.2
    exact ⟨⟨h64, by simp [e], by simp [e], by simp [e], by simp [e], by simp [e], by simp [e], by simp [e], by simp [e], fun _ => ⟨h1, one hfm.1, ⟨hb.1, by omega⟩, ⟨by omega, by omega⟩⟩⟩, by simp [hgt, e, h2], by simp [e], by simp [e], by simp [e]⟩
  · obtain ⟨h1, h2⟩ := giveS_some hmv
    exact ⟨⟨h64, by simp [e], fun _ => ⟨h1, one hfm⟩, by simp [e], by simp [e], by simp [e], by simp [e], by simp [e], by simp [e], by simp [e]⟩, by simp [hgt, e, h2], by simp [e], by simp [e], by simp [e]⟩
  · obtain ⟨h1, h2⟩ := emptyS_some hmv
    exact ⟨⟨h64, by simp [e], by simp [e], by simp [e], by simp [e], by simp [e], by simp [e], by simp [e], by simp [e], by simp [e]⟩, by simp [hgt, e, h1, h2], by simp [e], by simp [e], by simp [e]⟩
end Go.Am
end
section
namespace Go.Am
open Go Go.Proofs
theorem I64_0 : I64 0 := by unfold I64; omega
theorem I64_1 : I64 1 := by unfold I64; omega
theorem oneZ_I (b : Bool) : I64 (oneZ b) := by unfold oneZ; split; exact I64_1; exact I64_0
theorem fitZ_I (z : Int) : I64 (fitZ z).1 := by
  unfold fitZ
  split
  · rename_i h; exact h
  · exact I64_0
theorem fitR_I {p : Int × Bool} (h : I64 p.1) : I64 (fitR p).1 := by
  unfold fitR
  split
  · exact h
  · exact I64_0
theorem tdiv_I {a b : Int} (ha : I64 a) (hb : b ≠ 0) (h : ¬ (a = -9223372036854775808 ∧ b = -1)) : I64 (a.tdiv b) := by
  have hq := tdiv_abs a b
  unfold I64 at *
  have hdl : a.natAbs / b.natAbs ≤ a.natAbs := Nat.div_le_self _ _
  have hle2 : decide (a < 0) = decide (b < 0) → a.natAbs / b.natAbs ≤ 9223372036854775807 := by
    intro hd
    by_cases ha1 : a = -9223372036854775808
    · have hb2 : 2 ≤ b.natAbs := by
        have : b < 0 := by rw [ha1] at hd; simpa using hd
        omega
      have h3 := Nat.div_le_div_left hb2 (by decide) (a := a.natAbs)
      omega
    · omega
  generalize a.natAbs / b.natAbs = q at *
  split at hq
  · rename_i hd
    have := hle2 hd
    omega
  · omega
theorem tmod_I {a b : Int} (ha : I64 a) (hb : b ≠ 0) : I64 (a.tmod b) := by
  have hq := tmod_abs a b
  unfold I64 at *
  have hml2 : a.natAbs % b.natAbs ≤ a.natAbs := Nat.mod_le _ _
  have hml : a.natAbs % b.natAbs < b.natAbs := Nat.mod_lt _ (by omega)
  generalize a.natAbs % b.natAbs = q at *
  split at hq <;> omega
theorem errR_I {p : Int × Int} (h : I64 p.1) : I64 (errR p).1 := by
  unfold errR
  split
  · exact I64_0
  · split
    · exact h
    · exact I64_0
theorem divZ_I {a b : Int} (ha : I64 a) : I64 (divZ a b).1 := by
  unfold divZ
  split
  · exact I64_0
  · rename_i hb
    split
    · exact I64_0
    · rename_i h; exact tdiv_I ha hb h
theorem modZ_I {a b : Int} (ha : I64 a) : I64 (modZ a b).1 := by
  unfold modZ
  split
  · exact I64_0
  · rename_i hb; exact tmod_I ha hb
theorem op1_I (op a : Int) (t : Bool) : I64 (op1 op a t).1 := by
  unfold op1 noOp
  repeat' split
  all_goals first | exact I64_0 | exact oneZ_I _ | exact fitR_I (fitZ_I _)
theorem opT_I (op a b : Int) : I64 (opT op a b).1 := by
  unfold opT noOp
  repeat' split
  all_goals first | exact I64_0 | exact oneZ_I _
theorem opN_I (op a b : Int) (ha : I64 a) : I64 (opN op a b).1 := by
  have k1 := fitR_I (fitZ_I (a + b))
  have k2 := fitR_I (fitZ_I (a - b))
  have k3 := fitR_I (fitZ_I (a * b))
  have k4 := errR_I (divZ_I (b := b) ha)
  have k5 := errR_I (modZ_I (b := b) ha)
  unfold opN noOp
  by_cases h8 : op = 8
  · rw [if_pos h8]; exact k1
  rw [if_neg h8]
  by_cases h9 : op = 9
  · rw [if_pos h9]; exact k2
  rw [if_neg h9]
  by_cases h10 : op = 10
  · rw [if_pos h10]; exact k3
  rw [if_neg h10]
  by_cases h11 : op = 11
  · rw [if_pos h11]; exact k4
  rw [if_neg h11]
  by_cases h12 : op = 12
  · rw [if_pos h12]; exact k5
  rw [if_neg h12]
  repeat' split
  all_goals first | exact I64_0 | exact oneZ_I _
theorem op2_I (op a b : Int) (t : Bool) (ha : I64 a) : I64 (op2 op a b t).1 := by
  unfold op2
  split
  · split
    · exact I64_0
    · exact opT_I ..
  · exact opN_I _ _ _ ha
theorem upZ_I {e b : Int} (he : I64 e) (hb : I64 b) : I64 (upZ e b) := by unfold upZ I64 at *; split <;> omega
theorem stepB_I (k : Int) (c : List Int) (h : ∀ n ∈ c, I64 n) : ∀ n ∈ stepB k c, I64 n := by
  unfold stepB
  split
  · rename_i a b q
    have ha := h a (by simp)
    have hb := h b (by simp)
    have hq := h q (by simp)
    unfold step3
    repeat' split
    all_goals (simp only [List.forall_mem_cons]; simp [ha, hb, hq, oneZ_I])
  · rename_i a b q e
    have ha := h a (by simp)
    have hb := h b (by simp)
    have hq := h q (by simp)
    have he := h e (by simp)
    have hu := upZ_I he hb
    unfold step4
    repeat' split
    all_goals (simp only [List.forall_mem_cons]; simp [ha, hb, hq, he, hu, oneZ_I, I64_0, I64_1])
  · rename_i a b q e p r
    have ha := h a (by simp)
    have hb := h b (by simp)
    have hq := h q (by simp)
    have he := h e (by simp)
    have hp := h p (by simp)
    have hr := h r (by simp)
    have hu := upZ_I he hb
    have hu0 := upZ_I I64_0 hb
    have w1 : p < 9223372036854775807 → I64 (p + 1) := fun _ => by unfold I64 at *; omega
    have w2 : -9223372036854775808 < p → I64 (p - 1) := fun _ => by unfold I64 at *; omega
    have c1 : I64 (if b ≠ 0 then 0 else if a ≠ 0 ∧ r = 0 ∧ p < 9223372036854775807 then p + 1 else p) := by
      split
      · exact I64_0
      · split
        · rename_i h; exact w1 h.2.2
        · exact hp
    have c2 : I64 (if b ≠ 0 then q else if a ≠ 0 ∧ r = 0 ∧ -9223372036854775808 < p then p - 1 else p) := by
      split
      · exact hq
      · split
        · rename_i h; exact w2 h.2.2
        · exact hp
    have c3 : I64 (if a ≠ 0 ∧ p = 0 ∧ r = 0 then 1 else r) := by split; exact I64_1; exact hr
    have c4 : I64 (if a ≠ 0 ∧ p = 0 ∧ r = 0 then 0 else e) := by split; exact I64_0; exact he
    unfold step6 tpS cuS cdS
    dsimp only
    generalize (if b ≠ 0 then 0 else if a ≠ 0 ∧ r = 0 ∧ p < 9223372036854775807 then p + 1 else p) = v1 at *
    generalize (if b ≠ 0 then q else if a ≠ 0 ∧ r = 0 ∧ -9223372036854775808 < p then p - 1 else p) = v2 at *
    generalize (if a ≠ 0 ∧ p = 0 ∧ r = 0 then (1 : Int) else r) = v3 at *
    generalize (if a ≠ 0 ∧ p = 0 ∧ r = 0 then (0 : Int) else e) = v4 at *
    have hu4 := upZ_I c4 hb
    repeat' split
    all_goals (simp only [List.forall_mem_cons]; simp [ha, hb, hq, he, hp, hr, hu, hu4, c1, c2, c3, c4, oneZ_I, I64_0, I64_1])
  · exact h
theorem atI_I {C : List Int} (h : ∀ n ∈ C, I64 n) (k : Int) : I64 (atI C k) := by
  unfold atI
  cases hk : C[k.toNat]? with
  | none => exact I64_0
  | some v => exact h v (List.mem_of_getElem? hk)
theorem setI_I {C : List Int} (h : ∀ n ∈ C, I64 n) (k : Int) {v : Int} (hv : I64 v) : ∀ n ∈ setI C k v, I64 n := by
  intro n hn
  unfold setI at hn
  rcases List.mem_or_eq_of_mem_set hn with hn | rfl
  · exact h n hn
  · exact hv
theorem top_I {S : List Int} (h : ∀ n ∈ S, I64 n) : I64 (S.getLast?.getD 0) := by
  cases hk : S.getLast? with
  | none => exact I64_0
  | some v => exact h v (List.mem_of_getLast? hk)
theorem pop_I {S : List Int} (h : ∀ n ∈ S, I64 n) : ∀ n ∈ S.dropLast, I64 n := fun n hn => h n (by rw [List.dropLast_eq_take] at hn; exact List.mem_of_mem_take hn)
theorem push_I {S : List Int} (h : ∀ n ∈ S, I64 n) {v : Int} (hv : I64 v) : ∀ n ∈ S ++ [v], I64 n := by
  intro n hn
  rcases List.mem_append.1 hn with hn | hn
  · exact h n hn
  · simp at hn; subst hn; exact hv
theorem blockF_I {C : List Int} (h : ∀ n ∈ C, I64 n) (x : Ins) : ∀ n ∈ blockF x C, I64 n := by
  intro n hn
  unfold blockF at hn
  rcases List.mem_append.1 hn with hn | hn
  · rcases List.mem_append.1 hn with hn | hn
    · exact h n (List.mem_of_mem_take hn)
    · exact stepB_I _ _ (fun m hm => h m (List.mem_of_mem_drop (List.mem_of_mem_take hm))) n hn
  · exact h n (List.mem_of_mem_drop hn)
theorem blockF_len {C : List Int} {x : Ins} (h : x.a.toNat + pinsN x.b ≤ C.length) : (blockF x C).length = C.length := by
  unfold blockF
  simp only [List.length_append, List.length_take, List.length_drop, stepB_len]
  omega
end Go.Am
end
section
namespace Go.Am
open Go Go.Proofs
structure StepFacts (x : Ins) (s t : Ms) : Prop where
  len : t.cells.length = s.cells.length
  cI : ∀ n ∈ t.cells, I64 n
  sI : ∀ n ∈ t.stk, I64 n
  h64 : t.stk.length ≤ 64
  fuel : t.fuel = s.fuel ∨ (x.op = 11 ∧ t.fuel + 1 = s.fuel ∧ s.fuel ≠ 0)
  at_ : t.at_ = s.at_ + 1 ∨ ((x.op = 9 ∨ x.op = 10) ∧ t.at_ = x.a)
  ok : t.fault = 0 → t.stk.length = hgt x s.stk.length ∧ (x.op = 9 → t.at_ = x.a) ∧ (x.op = 11 → t.fuel + 1 = s.fuel)
theorem step_facts {x : Ins} {s : Ms} (hf : Fit x s.cells.length s.stk.length) (hN : NumsOk s) (h0 : s.fault = 0) (hop : 1 ≤ x.op ∧ x.op ≤ 14) (hxn : x.op = 1 → I64 x.n) : StepFacts x s (stepF x s) := by
  obtain ⟨C, S, a, f, x0⟩ := s
  obtain ⟨hC, hS, _, _, _⟩ := hN
  simp only at hf hC hS h0
  subst h0
  have h64 := hf.top
  have oI := oneZ_I
  have aI := fun k => atI_I hC k
  have hc : x.op = 1 ∨ x.op = 2 ∨ x.op = 3 ∨ x.op = 4 ∨ x.op = 5 ∨ x.op = 6 ∨ x.op = 7 ∨ x.op = 8 ∨ x.op = 9 ∨ x.op = 10 ∨ x.op = 11 ∨ x.op = 12 ∨ x.op = 13 ∨ x.op = 14 := by omega
  rcases hc with e | e | e | e | e | e | e | e | e | e | e | e | e | e
  · have := hf.i1 e
    have hst : stepF x ⟨C, S, a, f, 0⟩ = ⟨C, S ++ [x.n], a + 1, f, 0⟩ := by simp [stepF, moveF, e, Ms.push]
    rw [hst]
    exact ⟨rfl, hC, push_I hS (hxn e), by simp; omega, .inl rfl, .inl rfl, fun _ => ⟨by simp [hgt, e], by omega, by omega⟩⟩
  · have := hf.i2 (by omega)
    have hst : stepF x ⟨C, S, a, f, 0⟩ = ⟨C, S ++ [atI C x.a], a + 1, f, 0⟩ := by simp [stepF, moveF, e, Ms.push]
    rw [hst]
    exact ⟨rfl, hC, push_I hS (aI _), by simp; omega, .inl rfl, .inl rfl, fun _ => ⟨by simp [hgt, e], by omega, by omega⟩⟩
  · have := hf.i2 (by omega)
    have hst : stepF x ⟨C, S, a, f, 0⟩ = ⟨C, S ++ [oneZ (decide (atI C x.a ≠ 0))], a + 1, f, 0⟩ := by simp [stepF, moveF, e, Ms.push]
    rw [hst]
    exact ⟨rfl, hC, push_I hS (oI _), by simp; omega, .inl rfl, .inl rfl, fun _ => ⟨by simp [hgt, e], by omega, by omega⟩⟩
  · have := hf.i4 (by omega)
    by_cases hin : inArr x (S.getLast?.getD 0) = true
    · have hst : stepF x ⟨C, S, a, f, 0⟩ = ⟨C, S.dropLast ++ [atI C (x.a + (S.getLast?.getD 0 - x.n))], a + 1, f, 0⟩ := by simp [stepF, moveF, e, Ms.push, Ms.pop, Ms.top, hin]
      rw [hst]
      exact ⟨rfl, hC, push_I (pop_I hS) (aI _), by simp; omega, .inl rfl, .inl rfl, fun _ => ⟨by simp [hgt, e]; omega, by omega, by omega⟩⟩
    · have hst : stepF x ⟨C, S, a, f, 0⟩ = ⟨C, S.dropLast, a + 1, f, 3⟩ := by simp [stepF, moveF, e, Ms.push, Ms.pop, Ms.top, hin]
      rw [hst]
      exact ⟨rfl, hC, pop_I hS, by simp; omega, .inl rfl, .inl rfl, fun h => by simp at h⟩
  · have := hf.i4 (by omega)
    by_cases hin : inArr x (S.getLast?.getD 0) = true
    · have hst : stepF x ⟨C, S, a, f, 0⟩ = ⟨C, S.dropLast ++ [oneZ (decide (atI C (x.a + (S.getLast?.getD 0 - x.n)) ≠ 0))], a + 1, f, 0⟩ := by by_cases hz : atI C (x.a + (S.getLast?.getD 0 - x.n)) = 0 <;> simp [stepF, moveF, e, Ms.push, Ms.pop, Ms.top, hin, hz]
      rw [hst]
      exact ⟨rfl, hC, push_I (pop_I hS) (oI _), by simp; omega, .inl rfl, .inl rfl, fun _ => ⟨by simp [hgt, e]; omega, by omega, by omega⟩⟩
    · have hst : stepF x ⟨C, S, a, f, 0⟩ = ⟨C, S.dropLast, a + 1, f, 3⟩ := by simp [stepF, moveF, e, Ms.push, Ms.pop, Ms.top, hin]
      rw [hst]
      exact ⟨rfl, hC, pop_I hS, by simp; omega, .inl rfl, .inl rfl, fun h => by simp at h⟩
  · have := hf.i6 e
    have hst : stepF x ⟨C, S, a, f, 0⟩ = ⟨setI C x.a (S.getLast?.getD 0), S.dropLast, a + 1, f, 0⟩ := by simp [stepF, moveF, e, Ms.pop, Ms.top]
    rw [hst]
    exact ⟨by simp [setI], setI_I hC _ (top_I hS), pop_I hS, by simp; omega, .inl rfl, .inl rfl, fun _ => ⟨by simp [hgt, e], by omega, by omega⟩⟩
  · have := hf.i7 e
    by_cases hin : inArr x (S.dropLast.getLast?.getD 0) = true
    · have hst : stepF x ⟨C, S, a, f, 0⟩ = ⟨setI C (x.a + (S.dropLast.getLast?.getD 0 - x.n)) (S.getLast?.getD 0), S.dropLast.dropLast, a + 1, f, 0⟩ := by simp [stepF, moveF, e, Ms.push, Ms.pop, Ms.top, hin]
      rw [hst]
      exact ⟨by simp [setI], setI_I hC _ (top_I hS), pop_I (pop_I hS), by simp; omega, .inl rfl, .inl rfl, fun _ => ⟨by simp [hgt, e]; omega, by omega, by omega⟩⟩
    · have hst : stepF x ⟨C, S, a, f, 0⟩ = ⟨C, S.dropLast.dropLast, a + 1, f, 3⟩ := by simp [stepF, moveF, e, Ms.push, Ms.pop, Ms.top, hin]
      rw [hst]
      exact ⟨rfl, hC, pop_I (pop_I hS), by simp; omega, .inl rfl, .inl rfl, fun h => by simp at h⟩
  · obtain ⟨f1, f2⟩ := hf.i8 e
    have hst : stepF x ⟨C, S, a, f, 0⟩ = doF x ⟨C, S, a + 1, f, 0⟩ := by simp [stepF, moveF, ctlF, e]
    rw [hst]
    unfold doF
    by_cases hb : x.b = 6 ∨ x.b = 7
    · have := f1 hb
      rw [if_pos hb]
      have key : ∀ p : Int × Bool × Int, I64 p.1 → StepFacts x ⟨C, S, a, f, 0⟩ (if p.2.2 = 0 then ⟨C, S.dropLast ++ [p.1], a + 1, f, 0⟩ else ⟨C, S.dropLast, a + 1, f, p.2.2⟩) := by
        intro p hI
        by_cases hp : p.2.2 = 0
        · rw [if_pos hp]
          exact ⟨rfl, hC, push_I (pop_I hS) hI, by simp; omega, .inl rfl, .inl rfl, fun _ => ⟨by simp [hgt, e, hb]; omega, by omega, by omega⟩⟩
        · rw [if_neg hp]
          exact ⟨rfl, hC, pop_I hS, by simp; omega, .inl rfl, .inl rfl, fun h => absurd h hp⟩
      exact key _ (op1_I x.b (S.getLast?.getD 0) (decide (x.a = 1)))
    · have := f2 hb
      rw [if_neg hb]
      have key : ∀ p : Int × Bool × Int, I64 p.1 → StepFacts x ⟨C, S, a, f, 0⟩ (if p.2.2 = 0 then ⟨C, S.dropLast.dropLast ++ [p.1], a + 1, f, 0⟩ else ⟨C, S.dropLast.dropLast, a + 1, f, p.2.2⟩) := by
        intro p hI
        by_cases hp : p.2.2 = 0
        · rw [if_pos hp]
          exact ⟨rfl, hC, push_I (pop_I (pop_I hS)) hI, by simp; omega, .inl rfl, .inl rfl, fun _ => ⟨by simp [hgt, e, hb]; omega, by omega, by omega⟩⟩
        · rw [if_neg hp]
          exact ⟨rfl, hC, pop_I (pop_I hS), by simp; omega, .inl rfl, .inl rfl, fun h => absurd h hp⟩
      exact key _ (op2_I x.b (S.dropLast.getLast?.getD 0) (S.getLast?.getD 0) (decide (x.a = 1)) (top_I (pop_I hS)))
  · have hst : stepF x ⟨C, S, a, f, 0⟩ = ⟨C, S, x.a, f, 0⟩ := by simp [stepF, moveF, ctlF, e]
    rw [hst]
    exact ⟨rfl, hC, hS, h64, .inl rfl, .inr ⟨.inl e, rfl⟩, fun _ => ⟨by simp [hgt, e], fun _ => rfl, by omega⟩⟩
  · have := hf.i10 e
    by_cases hz : S.getLast?.getD 0 = 0
    · have hst : stepF x ⟨C, S, a, f, 0⟩ = ⟨C, S.dropLast, x.a, f, 0⟩ := by simp [stepF, moveF, ctlF, e, Ms.top, Ms.pop, hz]
      rw [hst]
      exact ⟨rfl, hC, pop_I hS, by simp; omega, .inl rfl, .inr ⟨.inr e, rfl⟩, fun _ => ⟨by simp [hgt, e], by omega, by omega⟩⟩
    · have hst : stepF x ⟨C, S, a, f, 0⟩ = ⟨C, S.dropLast, a + 1, f, 0⟩ := by simp [stepF, moveF, ctlF, e, Ms.top, Ms.pop, hz]
      rw [hst]
      exact ⟨rfl, hC, pop_I hS, by simp; omega, .inl rfl, .inl rfl, fun _ => ⟨by simp [hgt, e], by omega, by omega⟩⟩
  · by_cases hz : f = 0
    · have hst : stepF x ⟨C, S, a, f, 0⟩ = ⟨C, S, a + 1, f, 4⟩ := by simp [stepF, moveF, ctlF, e, hz]
      rw [hst]
      exact ⟨rfl, hC, hS, h64, .inl rfl, .inl rfl, fun h => by simp at h⟩
    · have hst : stepF x ⟨C, S, a, f, 0⟩ = ⟨C, S, a + 1, f - 1, 0⟩ := by simp [stepF, moveF, ctlF, e, hz]
      rw [hst]
      exact ⟨rfl, hC, hS, h64, .inr ⟨e, by simp, hz⟩, .inl rfl, fun _ => ⟨by simp [hgt, e], by omega, fun _ => by simp⟩⟩
  · have := hf.i12 e
    have hst : stepF x ⟨C, S, a, f, 0⟩ = ⟨blockF x C, S, a + 1, f, 0⟩ := by simp [stepF, moveF, ctlF, e]
    rw [hst]
    exact ⟨blockF_len this.2, blockF_I hC x, hS, h64, .inl rfl, .inl rfl, fun _ => ⟨by simp [hgt, e], by omega, by omega⟩⟩
  · have := hf.i13 e
    have hst : stepF x ⟨C, S, a, f, 0⟩ = ⟨C, S ++ [oneZ (upToS C x)], a + 1, f, 0⟩ := by simp [stepF, moveF, ctlF, e, Ms.push]
    rw [hst]
    exact ⟨rfl, hC, push_I hS (oI _), by simp; omega, .inl rfl, .inl rfl, fun _ => ⟨by simp [hgt, e], by omega, by omega⟩⟩
  · have := hf.i2 (by omega)
    have hst : stepF x ⟨C, S, a, f, 0⟩ = ⟨C, S ++ [oneZ (decide (x.n ≤ atI C x.a ∧ atI C x.a ≤ x.m))], a + 1, f, 0⟩ := by simp [stepF, moveF, ctlF, e, Ms.push]
    rw [hst]
    exact ⟨rfl, hC, push_I hS (oI _), by simp; omega, .inl rfl, .inl rfl, fun _ => ⟨by simp [hgt, e], by omega, by omega⟩⟩
/-- Numbers in code have room. -/
def InsOk (l : List Ins) : Prop := ∀ x ∈ l, I64 x.n
theorem step_inv {l : List Ins} {r : Nat → Nat} {st : Nat → List Bool} {n : Nat} {s : Ms} {x : Ins} (hg : Good pinsN n l r st) (hl : InsOk l) (hv : VInv l st n s) (h0 : s.fault = 0) (hx : l[s.at_.toNat]? = some x) (h15 : x.op ≠ 15) :
    Fit x s.cells.length s.stk.length ∧ (1 ≤ x.op ∧ x.op ≤ 14) ∧ VInv l st n (stepF x s) ∧ ((stepF x s).fault = 0 → (stepF x s).fuel + 1 = s.fuel ∨ ((stepF x s).fuel = s.fuel ∧ r (stepF x s).at_.toNat < r s.at_.toNat)) := by
  obtain ⟨hh1, hh2⟩ := hv.here h0
  have hp := hv.nums.place
  have hlen := hg.len
  obtain ⟨hfit, hS', hs10, hs9, hop⟩ := fit_of (S' := st (s.at_.toNat + 1)) (hg.form _ x hx) (hg.mv _ x hx) (by rw [← hh2]; exact hv.h64)
  rw [← hh2] at hfit hS'
  have hfit' : Fit x s.cells.length s.stk.length := by rw [hv.len]; exact hfit
  have hop' : 1 ≤ x.op ∧ x.op ≤ 14 := by omega
  have hF := step_facts hfit' hv.nums h0 hop' (fun _ => hl x (List.mem_of_getElem? hx))
  have hnl : s.at_.toNat + 1 < l.length := by
    have : ¬ s.at_.toNat + 1 = l.length := fun h => h15 ((hg.fifteen hx).2 h)
    omega
  have hja : (x.op = 9 ∨ x.op = 10) → 0 ≤ x.a ∧ x.a.toNat < l.length := fun hj => hg.tgt hx hj
  have hat : 0 ≤ (stepF x s).at_ ∧ (stepF x s).at_.toNat < l.length := by
    rcases hF.at_ with h | ⟨h1, h2⟩
    · rw [h]; omega
    · rw [h2]; exact hja h1
  have hnext : (stepF x s).at_.toNat ∈ nextI l s.at_.toNat ∨ (stepF x s).fault ≠ 0 := by
    by_cases hfz : (stepF x s).fault = 0
    · left
      unfold nextI
      rw [hx]
      simp only
      by_cases e9 : x.op = 9
      · rw [if_pos e9, (hF.ok hfz).2.1 e9]; simp
      · rw [if_neg e9]
        by_cases e10 : x.op = 10
        · rw [if_pos e10]
          rcases hF.at_ with h | ⟨_, h2⟩
          · rw [h]; simp; left; omega
          · rw [h2]; simp
        · rw [if_neg e10, if_neg h15]
          rcases hF.at_ with h | ⟨h1, _⟩
          · rw [h]; simp; omega
          · omega
    · exact .inr hfz
  refine ⟨hfit', hop', ⟨⟨hF.cI, hF.sI, by rw [hF.len]; exact hv.nums.few, ?_, by omega⟩, by rw [hF.len]; exact hv.len, hF.h64, fun hfz => ⟨hat.2, ?_⟩⟩, fun hfz => ?_⟩
  · have := hv.nums.fuel
    rcases hF.fuel with h | ⟨_, h, h2⟩ <;> omega
  · obtain ⟨k1, k2, k3⟩ := hF.ok hfz
    rw [k1]
    by_cases hj : x.op = 9 ∨ x.op = 10
    · have hled := hg.led _ x hx hj
      rcases hF.at_ with h | ⟨_, h⟩
      · rw [h, ← hS']
        congr 2
        omega
      · rw [h, hled]
        rcases hj with e | e
        · rw [← hS', hs9 e]; rfl
        · rw [← hS', hs10 e]; rfl
    · rcases hF.at_ with h | ⟨h1, _⟩
      · rw [h, ← hS']
        congr 2
        omega
      · exact absurd h1 hj
  · by_cases e11 : x.op = 11
    · exact .inl ((hF.ok hfz).2.2 e11)
    · right
      refine ⟨?_, ?_⟩
      · rcases hF.fuel with h | ⟨h, _⟩
        · exact h
        · exact absurd h e11
      · rcases hnext with h | h
        · exact hg.rank _ x hx e11 _ h
        · exact absurd hfz h
theorem runs_ex {l : List Ins} {r : Nat → Nat} {st : Nat → List Bool} {n : Nat} (hg : Good pinsN n l r st) (hl : InsOk l) : ∀ (f k : Nat) (s : Ms), VInv l st n s → s.fuel = (f : Int) → r s.at_.toNat ≤ k → ∃ t, RunsF l s t ∧ VInv l st n t := by
  intro f
  induction f with
  | zero =>
    intro k
    induction k with
    | zero =>
      intro s hv hf hr
      by_cases h0 : s.fault = 0
      · obtain ⟨x, hx⟩ : ∃ x, l[s.at_.toNat]? = some x := ⟨_, List.getElem?_eq_getElem (hv.here h0).1⟩
        by_cases h15 : x.op = 15
        · exact ⟨s, .fin s x h0 hx h15, hv⟩
        · obtain ⟨_, _, hv', hd⟩ := step_inv hg hl hv h0 hx h15
          by_cases hfz : (stepF x s).fault = 0
          · have := hd hfz
            have := hv'.nums.fuel
            omega
          · exact ⟨_, .step s x _ h0 hx h15 (.fault _ hfz), hv'⟩
      · exact ⟨s, .fault s h0, hv⟩
    | succ k ih =>
      intro s hv hf hr
      by_cases h0 : s.fault = 0
      · obtain ⟨x, hx⟩ : ∃ x, l[s.at_.toNat]? = some x := ⟨_, List.getElem?_eq_getElem (hv.here h0).1⟩
        by_cases h15 : x.op = 15
        · exact ⟨s, .fin s x h0 hx h15, hv⟩
        · obtain ⟨_, _, hv', hd⟩ := step_inv hg hl hv h0 hx h15
          by_cases hfz : (stepF x s).fault = 0
          · have hd := hd hfz
            have := hv'.nums.fuel
            obtain ⟨t, h1, h2⟩ := ih (stepF x s) hv' (by omega) (by omega)
            exact ⟨t, .step s x _ h0 hx h15 h1, h2⟩
          · exact ⟨_, .step s x _ h0 hx h15 (.fault _ hfz), hv'⟩
      · exact ⟨s, .fault s h0, hv⟩
  | succ f ihf =>
    intro k
    induction k with
    | zero =>
      intro s hv hf hr
      by_cases h0 : s.fault = 0
      · obtain ⟨x, hx⟩ : ∃ x, l[s.at_.toNat]? = some x := ⟨_, List.getElem?_eq_getElem (hv.here h0).1⟩
        by_cases h15 : x.op = 15
        · exact ⟨s, .fin s x h0 hx h15, hv⟩
        · obtain ⟨_, _, hv', hd⟩ := step_inv hg hl hv h0 hx h15
          by_cases hfz : (stepF x s).fault = 0
          · have hd := hd hfz
            obtain ⟨t, h1, h2⟩ := ihf (r (stepF x s).at_.toNat) (stepF x s) hv' (by omega) (Nat.le_refl _)
            exact ⟨t, .step s x _ h0 hx h15 h1, h2⟩
          · exact ⟨_, .step s x _ h0 hx h15 (.fault _ hfz), hv'⟩
      · exact ⟨s, .fault s h0, hv⟩
    | succ k ih =>
      intro s hv hf hr
      by_cases h0 : s.fault = 0
      · obtain ⟨x, hx⟩ : ∃ x, l[s.at_.toNat]? = some x := ⟨_, List.getElem?_eq_getElem (hv.here h0).1⟩
        by_cases h15 : x.op = 15
        · exact ⟨s, .fin s x h0 hx h15, hv⟩
        · obtain ⟨_, _, hv', hd⟩ := step_inv hg hl hv h0 hx h15
          by_cases hfz : (stepF x s).fault = 0
          · rcases hd hfz with hd | ⟨hd1, hd2⟩
            · obtain ⟨t, h1, h2⟩ := ihf (r (stepF x s).at_.toNat) (stepF x s) hv' (by omega) (Nat.le_refl _)
              exact ⟨t, .step s x _ h0 hx h15 h1, h2⟩
            · obtain ⟨t, h1, h2⟩ := ih (stepF x s) hv' (by omega) (by omega)
              exact ⟨t, .step s x _ h0 hx h15 h1, h2⟩
          · exact ⟨_, .step s x _ h0 hx h15 (.fault _ hfz), hv'⟩
      · exact ⟨s, .fault s h0, hv⟩
end Go.Am
end
section
namespace Go.Am
open Go Go.Proofs
def setA (k : Int) (s : Ms) : Ms := { s with at_ := k }
structure Eqm (s t : Ms) : Prop where
  cells : t.cells = s.cells
  fault : t.fault = s.fault
  fuel : t.fuel = s.fuel
theorem moveF_at (k : Int) (x : Ins) (s : Ms) : moveF x (setA k s) = (moveF x s).map (setA k) := by
  unfold moveF
  have e1 : (setA k s).top = s.top := rfl
  have e2 : (setA k s).pop.top = s.pop.top := rfl
  rw [e1, e2]
  by_cases h1 : x.op = 1
  · rw [if_pos h1, if_pos h1]; rfl
  rw [if_neg h1, if_neg h1]
  by_cases h2 : x.op = 2
  · rw [if_pos h2, if_pos h2]; rfl
  rw [if_neg h2, if_neg h2]
  by_cases h3 : x.op = 3
  · rw [if_pos h3, if_pos h3]; rfl
  rw [if_neg h3, if_neg h3]
  by_cases h4 : x.op = 4 ∨ x.op = 5
  · rw [if_pos h4, if_pos h4]
    by_cases hi : inArr x s.top = true
    · rw [if_pos hi, if_pos hi]; rfl
    · rw [if_neg hi, if_neg hi]; rfl
  rw [if_neg h4, if_neg h4]
  by_cases h6 : x.op = 6
  · rw [if_pos h6, if_pos h6]; rfl
  rw [if_neg h6, if_neg h6]
  by_cases h7 : x.op = 7
  · rw [if_pos h7, if_pos h7]
    by_cases hi : inArr x s.pop.top = true
    · rw [if_pos hi, if_pos hi]; rfl
    · rw [if_neg hi, if_neg hi]; rfl
  rw [if_neg h7, if_neg h7]
  rfl
theorem doF_at (k : Int) (x : Ins) (s : Ms) : doF x (setA k s) = setA k (doF x s) := by
  unfold doF
  have e1 : (setA k s).top = s.top := rfl
  have e2 : (setA k s).pop.top = s.pop.top := rfl
  rw [e1, e2]
  split
  · split <;> rfl
  · split <;> rfl
theorem ctlF_at (k : Int) (x : Ins) (s : Ms) (hj : ¬ isJ x) : ctlF x (setA k s) = setA k (ctlF x s) := by
  unfold ctlF
  by_cases h8 : x.op = 8
  · rw [if_pos h8, if_pos h8]; exact doF_at k x s
  rw [if_neg h8, if_neg h8]
  have h9 : ¬ x.op = 9 := fun h => hj (.inl h)
  have h10 : ¬ x.op = 10 := fun h => hj (.inr h)
  rw [if_neg h9, if_neg h9, if_neg h10, if_neg h10]
  by_cases h11 : x.op = 11
  · rw [if_pos h11, if_pos h11]
    have e1 : (setA k s).fuel = s.fuel := rfl
    rw [e1]
    split <;> rfl
  rw [if_neg h11, if_neg h11]
  by_cases h12 : x.op = 12
  · rw [if_pos h12, if_pos h12]; rfl
  rw [if_neg h12, if_neg h12]
  by_cases h13 : x.op = 13
  · rw [if_pos h13, if_pos h13]; rfl
  rw [if_neg h13, if_neg h13]
  by_cases h14 : x.op = 14
  · rw [if_pos h14, if_pos h14]; rfl
  rw [if_neg h14, if_neg h14]
theorem stepF_at (k : Int) (x : Ins) (s : Ms) (hj : ¬ isJ x) : stepF x (setA k s) = setA (k + 1) (stepF x s) := by
  unfold stepF
  have e : ({ setA k s with at_ := (setA k s).at_ + 1 } : Ms) = setA (k + 1) { s with at_ := s.at_ + 1 } := rfl
  rw [e, moveF_at]
  cases hmv : moveF x { s with at_ := s.at_ + 1 } with
  | some t => rfl
  | none => exact ctlF_at (k + 1) x _ hj
theorem stepF_next (x : Ins) (s : Ms) (hj : ¬ isJ x) : (stepF x s).at_ = s.at_ + 1 := by
  have h := stepF_at s.at_ x s hj
  rw [show setA s.at_ s = s from rfl] at h
  rw [h]
  rfl
theorem step9 {x : Ins} (h : x.op = 9) (s : Ms) : stepF x s = setA x.a s := by
  simp [stepF, moveF, ctlF, h, setA]
theorem step10 {x : Ins} (h : x.op = 10) (s : Ms) : stepF x s = if s.top = 0 then setA x.a s.pop else setA (s.at_ + 1) s.pop := by
  by_cases hz : s.stk.getLast?.getD 0 = 0 <;> simp [stepF, moveF, ctlF, h, setA, Ms.pop, Ms.top, hz]
theorem step1 {x : Ins} (h : x.op = 1) (s : Ms) : stepF x s = setA (s.at_ + 1) (s.push x.n) := by
  simp [stepF, moveF, h, setA, Ms.push]
theorem sim {l l' : List Ins} {r : Nat → Nat} {st : Nat → List Bool} {n : Nat} (hg : Good pinsN n l r st) (hl : InsOk l) (R : Ms → Ms → Prop)
    (hE : ∀ s s', R s s' → Eqm s s')
    (h15 : ∀ s s' x, R s s' → s.fault = 0 → 0 ≤ s.at_ → l[s.at_.toNat]? = some x → x.op = 15 → ∃ x', l'[s'.at_.toNat]? = some x' ∧ x'.op = 15)
    (hs : ∀ s s' x, R s s' → s.fault = 0 → 0 ≤ s.at_ → l[s.at_.toNat]? = some x → x.op ≠ 15 → R (stepF x s) s' ∨ ∃ x', l'[s'.at_.toNat]? = some x' ∧ x'.op ≠ 15 ∧ R (stepF x s) (stepF x' s'))
    {s t : Ms} (h : RunsF l s t) : VInv l st n s → ∀ s', R s s' → ∃ t', RunsF l' s' t' ∧ Eqm t t' := by
  induction h with
  | fault s h => exact fun hv s' hR => ⟨s', .fault s' (by rw [(hE _ _ hR).fault]; exact h), hE _ _ hR⟩
  | fin s x h0 hx h =>
    intro hv s' hR
    obtain ⟨x', hx', ho⟩ := h15 s s' x hR h0 hv.nums.place.1 hx h
    exact ⟨s', .fin s' x' (by rw [(hE _ _ hR).fault]; exact h0) hx' ho, hE _ _ hR⟩
  | step s x t h0 hx h15' h' ih =>
    intro hv s' hR
    obtain ⟨_, _, hv', _⟩ := step_inv hg hl hv h0 hx h15'
    rcases hs s s' x hR h0 hv.nums.place.1 hx h15' with hR' | ⟨x', hx', ho, hR'⟩
    · exact ih hv' s' hR'
    · obtain ⟨t', h1, h2⟩ := ih hv' _ hR'
      exact ⟨t', .step s' x' t' (by rw [(hE _ _ hR).fault]; exact h0) hx' ho h1, h2⟩
/- Instructions are left out: the same state at another place. -/
def RW (out : List Bool) (s s' : Ms) : Prop := ∃ k : Int, s' = setA k s ∧ (s.fault = 0 → k = ((tos out s.at_.toNat : Nat) : Int))
theorem RW.eqm {out s s'} (h : RW out s s') : Eqm s s' := by
  obtain ⟨k, rfl, _⟩ := h
  exact ⟨rfl, rfl, rfl⟩
theorem wo_at {l : List Ins} {out : List Bool} {i : Nat} {x : Ins} (hlen : l.length = out.length) (hx : l[i]? = some x) (ho : out[i]? = some false) : (wo l out)[tos out i]? = some (mvI out x) := by
  unfold wo
  rw [woF_get _ _ _ _ hlen, inv_tos out i ho, hx]
  rfl
theorem keep {out : List Bool} {x : Ins} {s : Ms} (ho : out[s.at_.toNat]? = some false) (h0 : 0 ≤ s.at_) (hf : s.fault = 0) : RW out (stepF x s) (stepF (mvI out x) (setA ((tos out s.at_.toNat : Nat) : Int) s)) := by
  have e1 : (s.at_ + 1).toNat = s.at_.toNat + 1 := by omega
  have e2 : ((tos out (s.at_ + 1).toNat : Nat) : Int) = ((tos out s.at_.toNat : Nat) : Int) + 1 := by
    rw [e1, tos_succ ho]; simp
  by_cases hj : isJ x
  · have em : mvI out x = { x with a := tos out x.a.toNat } := by unfold mvI; rw [if_pos hj]
    rw [em]
    rcases hj with e | e
    · rw [step9 e, step9 (x := { x with a := tos out x.a.toNat }) e]
      exact ⟨_, rfl, fun _ => rfl⟩
    · rw [step10 e, step10 (x := { x with a := tos out x.a.toNat }) e]
      have et : (setA ((tos out s.at_.toNat : Nat) : Int) s).top = s.top := rfl
      rw [et]
      by_cases hz : s.top = 0
      · rw [if_pos hz, if_pos hz]
        exact ⟨_, rfl, fun _ => rfl⟩
      · rw [if_neg hz, if_neg hz]
        exact ⟨_, rfl, fun _ => e2.symm⟩
  · have em : mvI out x = x := by unfold mvI; rw [if_neg hj]
    rw [em, stepF_at _ _ _ hj]
    exact ⟨_, rfl, fun _ => by rw [stepF_next _ _ hj]; exact e2.symm⟩
theorem next_of {l : List Ins} {x : Ins} {s : Ms} (hx : l[s.at_.toNat]? = some x) (h15 : x.op ≠ 15) (h0 : 0 ≤ s.at_) : (stepF x s).at_.toNat ∈ nextI l s.at_.toNat := by
  unfold nextI
  rw [hx]
  simp only
  have e1 : (s.at_ + 1).toNat = s.at_.toNat + 1 := by omega
  by_cases e9 : x.op = 9
  · rw [if_pos e9, step9 e9]
    simp [setA]
  rw [if_neg e9]
  by_cases e10 : x.op = 10
  · rw [if_pos e10, step10 e10]
    by_cases hz : s.top = 0
    · rw [if_pos hz]; simp [setA]
    · rw [if_neg hz]; simp [setA, e1]
  rw [if_neg e10, if_neg h15, stepF_next x s (fun hj => by rcases hj with e | e; exact e9 e; exact e10 e), e1]
  simp
end Go.Am
end
section
namespace Go.Am
open Go Go.Proofs
section
variable {l : List Ins} {r : Nat → Nat} {st : Nat → List Bool} {n : Nat}
theorem sim_thread (hg : Good pinsN n l r st) (hl : InsOk l) {i : Nat} {x y : Ins} (hx : l[i]? = some x) (hj : isJ x) (hy : l[x.a.toNat]? = some y) (h9 : y.op = 9) {s t : Ms} (h : RunsF l s t) (hv : VInv l st n s) :
    ∃ t', RunsF (l.set i { x with a := y.a }) s t' ∧ Eqm t t' := by
  have hi := (List.getElem?_eq_some_iff.1 hx).1
  have hgt : ∀ k, (l.set i { x with a := y.a })[k]? = if i = k then some { x with a := y.a } else l[k]? := fun k => by rw [set_get]; simp [hi]
  have hr := hg.rank i x hx (by rcases hj with e | e <;> omega) x.a.toNat (jump_next hx hj)
  have htx := hg.tgt hx hj
  refine sim hg hl (fun s s' => s' = s ∨ (s.fault = 0 ∧ s.at_ = x.a ∧ s' = setA y.a s)) ?_ ?_ ?_ h hv s (.inl rfl)
  · rintro s s' (rfl | ⟨_, _, rfl⟩) <;> exact ⟨rfl, rfl, rfl⟩
  · rintro s s' z (rfl | ⟨_, ha, rfl⟩) h0 hp hz h15
    · refine ⟨z, ?_, h15⟩
      rw [hgt, if_neg]
      · exact hz
      · intro e
        rw [← e, hx] at hz
        cases hz
        rcases hj with e | e <;> omega
    · rw [ha, hy] at hz
      cases hz
      omega
  · rintro s s' z (rfl | ⟨_, ha, rfl⟩) h0 hp hz h15
    · right
      by_cases e : i = s'.at_.toNat
      · refine ⟨{ x with a := y.a }, by rw [hgt, if_pos e], by rcases hj with e | e <;> (simp only; omega), ?_⟩
        rw [← e, hx] at hz
        cases hz
        rcases hj with e9 | e10
        · right
          rw [step9 e9, step9 (x := { x with a := y.a }) e9]
          exact ⟨h0, rfl, rfl⟩
        · rw [step10 e10, step10 (x := { x with a := y.a }) e10]
          by_cases hz : s'.top = 0
          · rw [if_pos hz, if_pos hz]
            exact .inr ⟨h0, rfl, rfl⟩
          · rw [if_neg hz, if_neg hz]
            exact .inl rfl
      · exact ⟨z, by rw [hgt, if_neg e]; exact hz, h15, .inl rfl⟩
    · left
      rw [ha, hy] at hz
      cases hz
      left
      rw [step9 h9]
theorem sim_reach (hg : Good pinsN n l r st) (hl : InsOk l) {s t : Ms} (h : RunsF l s t) (hv : VInv l st n s) (hs : s.at_ = 0) :
    ∃ t', RunsF (wo l (rO l)) s t' ∧ Eqm t t' := by
  have hkeep : ∀ {j}, Reach l j → (rO l)[j]? = some false := fun hr => rO_false.2 ⟨reach_in hg hr, .inl hr⟩
  refine sim hg hl (fun s s' => RW (rO l) s s' ∧ (s.fault = 0 → Reach l s.at_.toNat)) (fun s s' h => h.1.eqm) ?_ ?_ h hv s ⟨⟨s.at_, rfl, fun _ => by rw [hs]; rfl⟩, fun _ => by rw [hs]; exact .zero⟩
  · rintro s s' x ⟨⟨k, rfl, hk⟩, hr⟩ h0 hp hx h15
    rw [hk h0]
    exact ⟨_, wo_at (by rw [rO_len]) hx (hkeep (hr h0)), by rw [mvI_op]; exact h15⟩
  · rintro s s' x ⟨⟨k, rfl, hk⟩, hr⟩ h0 hp hx h15
    right
    rw [hk h0]
    exact ⟨_, wo_at (by rw [rO_len]) hx (hkeep (hr h0)), by rw [mvI_op]; exact h15, keep (hkeep (hr h0)) hp h0, fun _ => .step (hr h0) (next_of hx h15 hp)⟩
theorem sim_next (hg : Good pinsN n l r st) (hl : InsOk l) {s t : Ms} (h : RunsF l s t) (hv : VInv l st n s) (hs : s.at_ = 0) :
    ∃ t', RunsF (wo l (jO l)) s t' ∧ Eqm t t' := by
  have hb : ∀ {j : Nat} {x}, l[j]? = some x → ∃ b, (jO l)[j]? = some b ∧ (b = true → x.op = 9 ∧ x.a = (j : Int) + 1) := fun hx => by
    refine ⟨_, by rw [jO_get, hx]; rfl, fun h => ?_⟩
    simpa using h
  refine sim hg hl (RW (jO l)) (fun s s' h => h.eqm) ?_ ?_ h hv s ⟨s.at_, rfl, fun _ => by rw [hs]; rfl⟩
  · rintro s s' x ⟨k, rfl, hk⟩ h0 hp hx h15
    obtain ⟨b, hb, hb2⟩ := hb hx
    cases b with
    | true => have := hb2 rfl; omega
    | false => exact ⟨_, by rw [hk h0]; exact wo_at (by rw [jO_len]) hx hb, by rw [mvI_op]; exact h15⟩
  · rintro s s' x ⟨k, rfl, hk⟩ h0 hp hx h15
    obtain ⟨b, hb, hb2⟩ := hb hx
    cases b with
    | true =>
      left
      obtain ⟨e9, ea⟩ := hb2 rfl
      rw [step9 e9]
      refine ⟨k, rfl, fun _ => ?_⟩
      rw [hk h0]
      show _ = ((tos (jO l) x.a.toNat : Nat) : Int)
      rw [show x.a.toNat = s.at_.toNat + 1 by omega, tos_succ hb]
      simp
    | false =>
      right
      rw [hk h0]
      exact ⟨_, wo_at (by rw [jO_len]) hx hb, by rw [mvI_op]; exact h15, keep hb hp h0⟩
theorem sim_tested (hg : Good pinsN n l r st) (hl : InsOk l) {s t : Ms} (h : RunsF l s t) (hv : VInv l st n s) (hs : s.at_ = 0) :
    ∃ t', RunsF (wo (tL l l.length) (tO l l.length)) s t' ∧ Eqm t t' := by
  have hout : ∀ {i x}, l[i]? = some x → (tO l l.length)[i]? = some ((isP l i && decide (x.n = 1)) || (decide (1 ≤ i) && isP l (i - 1))) := fun {i x} hx => by
    have hi := (List.getElem?_eq_some_iff.1 hx).1
    rw [tO_get hi]
    simp [hi, show i - 1 < l.length by omega, nAt, (List.getElem?_eq_some_iff.1 hx).2]
  have htl : ∀ {i x}, l[i]? = some x → (tL l l.length)[i]? = some (if (isP l i && decide (x.n = 0)) = true then ⟨9, aAt l (i + 1), 0, 0, 0⟩ else x) := fun {i x} hx => by
    have hi := (List.getElem?_eq_some_iff.1 hx).1
    rw [tL_get, hx]
    simp [hi]
  have hlen : (tL l l.length).length = (tO l l.length).length := by rw [tL_len, tO_len]
  let S2 : Ms → Prop := fun s => s.fault = 0 → ¬ (1 ≤ s.at_.toNat ∧ isP l (s.at_.toNat - 1) = true)
  let R1 : Ms → Ms → Prop := fun s s' => RW (tO l l.length) s s' ∧ S2 s
  let Mid : Ms → Ms → Prop := fun s s' => ∃ y, l[s.at_.toNat]? = some y ∧ y.op = 10 ∧ 0 ≤ s.at_ ∧ R1 (stepF y s) s'
  have hled : ∀ {i x}, l[i]? = some x → isJ x → ¬ (1 ≤ x.a.toNat ∧ isP l (x.a.toNat - 1) = true) := fun {i x} hx hj hc => by
    have h1 := hg.led i x hx hj
    have h2 := (pair_st hg hc.2).2.1
    rw [show x.a.toNat - 1 + 1 = x.a.toNat by omega] at h2
    exact h2 h1
  have hnp : ∀ {i x}, l[i]? = some x → x.op ≠ 1 → isP l i = false := fun {i x} hx h1 => by
    cases hp : isP l i with
    | false => rfl
    | true =>
      obtain ⟨x2, y, hx2, _, h, _⟩ := isP_iff.1 hp
      rw [hx] at hx2
      cases hx2
      exact absurd h h1
  have hS2 : ∀ {s : Ms} {x}, l[s.at_.toNat]? = some x → 0 ≤ s.at_ → isP l s.at_.toNat = false → S2 (stepF x s) := fun {s x} hx hp hf _ hc => by
    have e1 : (s.at_ + 1).toNat = s.at_.toNat + 1 := by omega
    by_cases hj : isJ x
    · have hn := hled hx hj
      rcases hj with e | e
      · rw [step9 e] at hc
        exact hn hc
      · rw [step10 e] at hc
        by_cases hz : s.top = 0
        · rw [if_pos hz] at hc
          exact hn hc
        · rw [if_neg hz] at hc
          simp only [setA, e1, Nat.add_sub_cancel] at hc
          rw [hf] at hc
          exact absurd hc.2 (by decide)
    · rw [stepF_next x s hj, e1, Nat.add_sub_cancel, hf] at hc
      exact absurd hc.2 (by decide)
  refine sim hg hl (fun s s' => R1 s s' ∨ Mid s s') ?_ ?_ ?_ h hv s (.inl ⟨⟨s.at_, rfl, fun _ => by rw [hs]; rfl⟩, fun _ hc => by rw [hs] at hc; simp at hc⟩)
  · rintro s s' (h | ⟨y, _, h10, _, h⟩)
    · exact h.1.eqm
    · have := h.1.eqm
      rw [step10 h10] at this
      split at this <;> exact ⟨this.cells, this.fault, this.fuel⟩
  · rintro s s' x (⟨⟨k, rfl, hk⟩, h2⟩ | ⟨y, hy, h10, _, h⟩) h0 hp hx h15
    · have hf := hnp hx (by omega)
      have h2 := h2 h0
      have ho := hout hx
      have ht := htl hx
      rw [hf] at ho ht
      have ho2 : (tO l l.length)[s.at_.toNat]? = some false := by
        rw [ho]
        simp only [Bool.false_and, Bool.false_or, Option.some.injEq]
        cases hq : decide (1 ≤ s.at_.toNat) && isP l (s.at_.toNat - 1) with
        | false => rfl
        | true =>
          simp only [Bool.and_eq_true, decide_eq_true_eq] at hq
          exact absurd hq h2
      simp only [Bool.false_and, Bool.false_eq_true, if_false] at ht
      rw [hk h0]
      exact ⟨_, wo_at hlen ht ho2, by rw [mvI_op]; exact h15⟩
    · rw [hy] at hx
      cases hx
      omega
  · rintro s s' x (⟨⟨k, rfl, hk⟩, h2⟩ | ⟨y, hy, h10, _, h⟩) h0 hp hx h15
    · have h2 := h2 h0
      have ho := hout hx
      have ht := htl hx
      have hns : (decide (1 ≤ s.at_.toNat) && isP l (s.at_.toNat - 1)) = false := by
        cases hq : decide (1 ≤ s.at_.toNat) && isP l (s.at_.toNat - 1) with
        | false => rfl
        | true =>
          simp only [Bool.and_eq_true, decide_eq_true_eq] at hq
          exact absurd hq h2
      rw [hns, Bool.or_false] at ho
      cases hf : isP l s.at_.toNat with
      | false =>
        rw [hf] at ho ht
        simp only [Bool.false_and, Bool.false_eq_true, if_false] at ht ho
        right
        rw [hk h0]
        exact ⟨_, wo_at hlen ht ho, by rw [mvI_op]; exact h15, .inl ⟨keep ho hp h0, hS2 hx hp hf⟩⟩
      | true =>
        obtain ⟨x2, y, hx2, hy, h1, h10, hn⟩ := isP_iff.1 hf
        rw [hx] at hx2
        cases hx2
        have e1 : (s.at_ + 1).toNat = s.at_.toNat + 1 := by omega
        have hst := step1 h1 s
        have hat : (stepF x s).at_ = s.at_ + 1 := by rw [hst]; rfl
        have hy' : l[(stepF x s).at_.toNat]? = some y := by rw [hat, e1]; exact hy
        have htop : (stepF x s).top = x.n := by rw [hst]; simp [setA, Ms.push, Ms.top]
        have hpop : (stepF x s).pop = setA (s.at_ + 1) s := by rw [hst]; simp [setA, Ms.push, Ms.pop]
        have hp1 : 0 ≤ (stepF x s).at_ := by rw [hat]; omega
        have hS := hS2 hy' hp1 (by rw [hat, e1]; exact hnp hy (by omega))
        have hoy := hout hy
        rw [show s.at_.toNat + 1 - 1 = s.at_.toNat by omega, hf] at hoy
        simp only [Bool.and_true, show decide (1 ≤ s.at_.toNat + 1) = true by simp, Bool.or_true] at hoy
        rw [hf] at ho ht
        rcases hn with hn | hn
        · right
          rw [hn] at ho ht
          simp only [Bool.true_and, decide_true, if_true] at ht
          have ho2 : (tO l l.length)[s.at_.toNat]? = some false := by rw [ho]; rfl
          have hw := wo_at hlen ht ho2
          rw [hk h0]
          refine ⟨_, hw, by rw [mvI_op]; simp, .inr ⟨y, hy', h10, hp1, ?_, hS⟩⟩
          have hm : mvI (tO l l.length) ⟨9, aAt l (s.at_.toNat + 1), 0, 0, 0⟩ = ⟨9, ((tos (tO l l.length) y.a.toNat : Nat) : Int), 0, 0, 0⟩ := by
            unfold mvI
            rw [if_pos (.inl rfl)]
            simp [aAt, hy]
          rw [hm, step9 (x := ⟨9, ((tos (tO l l.length) y.a.toNat : Nat) : Int), 0, 0, 0⟩) rfl, step10 h10, htop, if_pos hn, hpop]
          exact ⟨_, rfl, fun _ => rfl⟩
        · left
          rw [hn] at ho
          have ho2 : (tO l l.length)[s.at_.toNat]? = some true := by rw [ho]; rfl
          refine .inr ⟨y, hy', h10, hp1, ?_, hS⟩
          rw [step10 h10, htop, if_neg (by omega), hpop, hat]
          refine ⟨k, rfl, fun _ => ?_⟩
          rw [hk h0]
          show _ = ((tos (tO l l.length) (s.at_ + 1 + 1).toNat : Nat) : Int)
          rw [show (s.at_ + 1 + 1).toNat = s.at_.toNat + 1 + 1 by omega, tos_succ hoy, tos_succ ho2]
          simp
    · left
      rw [hy] at hx
      cases hx
      exact .inl h
end
end Go.Am
end
section
namespace Go.Am
open Go Go.Proofs
set_option maxRecDepth 20000
theorem forms_loop (pins : Int → Nat) (hp : PinsOk 41 pins) (vars cells : Int) (n1 n2 : Nat) (S T : List D) (B : Cont) (hc : 0 ≤ cells ∧ cells ≤ 8192) (L : Int) : ∀ (rest pre : List Ins) (v : Nat) (ct : Cont), ((pre ++ rest).length : Int) - 1 = L → (pre ++ rest).length ≤ 5000 → ∀ k : Kt,
    ∃ v' ct', denK ctx 17 (.loop (Code.at (codeOf Tryz.f17) [1, 1, 1, 1, 0, 1, 0, 0])) ⟨66, gl0, [(0, true, .ptr 0 0 0), (53, true, .d (.list ((pre ++ rest).map insD))), (54, true, .d (.int .i64 (pre ++ rest).length)), (55, true, .d (.int .i64 pre.length))],
        [⟨0, 0, kBox (pre ++ rest) vars cells (.vec 1 0 0 n1) (.vec 2 0 0 n2)⟩, ⟨1, 0, .vec 1 S⟩, ⟨2, 0, .vec 1 T⟩, ⟨250, 1, B⟩, ⟨400, v, ct⟩]⟩ k =
      if formsB pins cells L pre.length rest = true then
        k (.exit 0) ⟨66, gl0, [(0, true, .ptr 0 0 0), (53, true, .d (.list ((pre ++ rest).map insD))), (54, true, .d (.int .i64 (pre ++ rest).length)), (55, true, .d (.int .i64 (pre ++ rest).length)), (56, true, .d (.bool false))],
        [⟨0, 0, kBox (pre ++ rest) vars cells (.vec 1 0 0 n1) (.vec 2 0 0 n2)⟩, ⟨1, 0, .vec 1 S⟩, ⟨2, 0, .vec 1 T⟩, ⟨250, 1, B⟩, ⟨400, v', ct'⟩]⟩
      else k .ret ⟨66, gl0, [(2, true, .d (.bool false))], [⟨0, 0, kBox (pre ++ rest) vars cells (.vec 1 0 0 n1) (.vec 2 0 0 n2)⟩, ⟨1, 0, .vec 1 S⟩, ⟨2, 0, .vec 1 T⟩, ⟨250, 1, B⟩, ⟨400, v', ct'⟩]⟩
  | [], pre, v, ct, hL, hl, k => by
    refine ⟨v, ct, ?_⟩
    rw [denK_loop]
    simp [Tryz.f17, formsB]
  | x :: rest, pre, v, ct, hL, hl, k => by
    have hf := form_run pins hp (pre ++ x :: rest) vars cells n1 n2 S T pre.length x hc hl
    rw [hL] at hf
    have h1 : (pre.length : Int) < pre.length + (rest.length + 1) := by omega
    have h2 : IntKind.i64.wrap ((pre.length : Int) + 1) = pre.length + 1 := wrap_id (by unfold I64; simp at hl; omega)
    cases hq : formB pins cells L pre.length x
    · refine ⟨v + 1, .box [.d (.int .i64 x.op), .d (.int .i64 x.a), .d (.int .i64 x.b), .d (.int .i64 x.n), .d (.int .i64 x.m)], ?_⟩
      rw [denK_loop]
      simp [hq] at hf
      simp [Tryz.f17, formsB, hq]
      simp [h1, hf]
    · obtain ⟨v', ct', ih⟩ := forms_loop pins hp vars cells n1 n2 S T B hc L rest (pre ++ [x]) (v + 1) (.box [.d (.int .i64 x.op), .d (.int .i64 x.a), .d (.int .i64 x.b), .d (.int .i64 x.n), .d (.int .i64 x.m)]) (by simpa using hL) (by simpa using hl) k
      refine ⟨v', ct', ?_⟩
      rw [denK_loop]
      simp [hq] at hf
      simp [Tryz.f17, formsB, hq] at ih ⊢
      simp [h1, h2, hf, ih]
theorem forms_run (pins : Int → Nat) (hp : PinsOk 41 pins) (ins : List Ins) (vars cells : Int) (n1 n2 : Nat) (S T : List D) (hl : ins.length ≤ 5000) :
    callT ctx 17 [.ptr 0 0 0] [kBox ins vars cells (.vec 1 0 0 n1) (.vec 2 0 0 n2), .vec 1 S, .vec 1 T] =
      some (.ret (.d (.bool (okForms pins ins vars cells))), [(0, kBox ins vars cells (.vec 1 0 0 n1) (.vec 2 0 0 n2)), (0, .vec 1 S), (0, .vec 1 T)]) := by
  rw [run17 (by simp)]
  unfold okForms headB
  by_cases h1 : 1 ≤ (ins.length : Int)
  · have c1 : ¬ ((ins.length : Int) < 1) := by omega
    obtain ⟨ini, last, rfl⟩ : ∃ ini last, ins = ini ++ [last] := ⟨ins.dropLast, ins.getLast (by intro h; simp [h] at h1), (List.dropLast_concat_getLast _).symm⟩
    have hlast : lastOp (ini ++ [last]) = last.op := by simp [lastOp]
    rw [hlast]
    have w1 : IntKind.i64.wrap ((ini.length : Int) + 1 - 1) = ini.length := by rw [wrap_id (by unfold I64; simp at hl; omega)]; omega
    simp at w1
    simp only [List.length_append, List.length_cons, List.length_nil] at hl
    by_cases h2 : (ini.length : Int) + 1 ≤ 4096
    rotate_left
    · have h2' : (4096 : Int) < (ini.length : Int) + 1 := by omega
      simp [Tryz.f17, h2, h2', w1]
    have h2' : ¬ ((4096 : Int) < (ini.length : Int) + 1) := by omega
    by_cases h3 : 0 ≤ cells
    rotate_left
    · simp [Tryz.f17, h2, h2', h3, w1]
    by_cases h4 : cells ≤ 8192
    rotate_left
    · simp [Tryz.f17, h2, h2', h3, h4, w1]
    by_cases h5 : 0 ≤ vars
    rotate_left
    · simp [Tryz.f17, h2, h2', h3, h4, h5, w1]
    by_cases h6 : vars ≤ cells
    rotate_left
    · simp [Tryz.f17, h2, h2', h3, h4, h5, h6, w1]
    by_cases h7 : last.op = 15
    rotate_left
    · simp [Tryz.f17, h2, h2', h3, h4, h5, h6, h7, w1]
    have h8 : (1 : Int) ≤ (ini.length : Int) + 1 := by omega
    have hloop := fun B => forms_loop pins hp vars cells n1 n2 S T B ⟨h3, h4⟩ ini.length (ini ++ [last]) [] 0 .dead (by simp) (by simp; omega)
    simp [Tryz.f17, h2, h2', h3, h4, h5, h6, h7, h8, w1] at hloop ⊢
    obtain ⟨v', ct', h9⟩ := hloop _ _
    rw [h9]
    split
    · rename_i q; simp [q]
    · rename_i q; simp [q]
  · have c1 : (ins.length : Int) < 1 := by omega
    simp [Tryz.f17, c1, h1]
end Go.Am
end
section
namespace Go.Am
open Go Go.Proofs
set_option maxRecDepth 20000
section
variable (ins : List Ins) (vars cells : Int) (n2 : Nat) (T : List D)
theorem give_run (t : Bool) (S : List Bool) (hl : S.length ≤ 5000) :
    callT ctx 55 [.ptr 0 0 0, .d (.bool t)] [kBox ins vars cells (.vec 1 0 0 S.length) (.vec 2 0 0 n2), .vec 1 (bD S), .vec 1 T] =
      some (.ret (.d (.bool (decide (S.length < 64)))), [(0, kBox ins vars cells (.vec 1 1 0 (S.length + 1)) (.vec 2 0 0 n2)), (1, .vec 1 (bD (S ++ [t]))), (0, .vec 1 T)]) := by
  have g1 : S.length + 1 ≤ 140737488355328 ∧ S.length ≤ 4611686018427387903 := by omega
  have g2 : ((S.length : Int) + 1 ≤ 64) = (S.length < 64) := by simp; omega
  rw [run55 (by simp)]
  simp [Tryz.f55, g1, g2]
theorem empty_run (S : List D) (n1 : Nat) :
    callT ctx 33 [.ptr 0 0 0] [kBox ins vars cells (.vec 1 0 0 n1) (.vec 2 0 0 n2), .vec 1 S, .vec 1 T] =
      some (.ret (.d (.bool (decide (n1 = 0)))), [(0, kBox ins vars cells (.vec 1 0 0 n1) (.vec 2 0 0 n2)), (0, .vec 1 S), (0, .vec 1 T)]) := by
  rw [run33 (by simp)]
  by_cases q : n1 = 0 <;> simp [Tryz.f33, q]
theorem take_loop (n : Nat) (t : Bool) (A : List Bool) (hA : A.length ≤ 5000) : ∀ (rest pre : List Bool), (pre ++ rest).length = n → n ≤ 5000 → ∀ k : Kt,
    denK ctx 56 (.loop (Code.at (codeOf Tryz.f56) [1, 1, 0, 1, 0, 0])) ⟨54, gl0, [(0, true, .ptr 0 0 0), (1, true, .d (.int .i64 n)), (2, true, .d (.bool t)), (27, true, .vec 1 0 A.length n), (28, true, .d (.int .i64 n)), (29, true, .d (.int .i64 pre.length))],
      [⟨0, 0, kBox ins vars cells (.vec 1 0 0 (A ++ (pre ++ rest)).length) (.vec 2 0 0 n2)⟩, ⟨1, 0, .vec 1 (bD (A ++ (pre ++ rest)))⟩, ⟨2, 0, .vec 1 T⟩]⟩ k =
      if (t && rest.any (fun b => !b)) = true then k .ret ⟨54, gl0, [(6, true, .d (.bool false))], [⟨0, 0, kBox ins vars cells (.vec 1 0 0 (A ++ (pre ++ rest)).length) (.vec 2 0 0 n2)⟩, ⟨1, 0, .vec 1 (bD (A ++ (pre ++ rest)))⟩, ⟨2, 0, .vec 1 T⟩]⟩
      else k (.exit 0) ⟨54, gl0, [(0, true, .ptr 0 0 0), (1, true, .d (.int .i64 n)), (2, true, .d (.bool t)), (27, true, .vec 1 0 A.length n), (28, true, .d (.int .i64 n)), (29, true, .d (.int .i64 n)), (30, true, .d (.bool false))],
      [⟨0, 0, kBox ins vars cells (.vec 1 0 0 (A ++ (pre ++ rest)).length) (.vec 2 0 0 n2)⟩, ⟨1, 0, .vec 1 (bD (A ++ (pre ++ rest)))⟩, ⟨2, 0, .vec 1 T⟩]⟩
  | [], pre, hn, hl, k => by
    subst hn
    rw [denK_loop]
    simp [Tryz.f56]
  | x :: rest, pre, hn, hl, k => by
    have ih := take_loop n t A hA rest (pre ++ [x]) (by simpa using hn) hl k
    have h1 : (pre.length : Int) < n := by simp at hn; omega
    have h1' : pre.length < n := by omega
    have h2 : IntKind.i64.wrap ((pre.length : Int) + 1) = pre.length + 1 := wrap_id (by unfold I64; omega)
    rw [denK_loop]
    simp [Tryz.f56] at ih ⊢
    cases t
    · simp [h1, h1', h2] at ih ⊢
      exact ih
    · cases x
      · simp [h1, h1', h2]
      · simp [h1, h1', h2] at ih ⊢
        exact ih
theorem take_run (n : Nat) (t : Bool) (S : List Bool) (hl : S.length ≤ 5000) (hn : n ≤ 5000) :
    callT ctx 56 [.ptr 0 0 0, .d (.int .i64 n), .d (.bool t)] [kBox ins vars cells (.vec 1 0 0 S.length) (.vec 2 0 0 n2), .vec 1 (bD S), .vec 1 T] =
      match takeS n t S with
      | some S' => some (.ret (.d (.bool true)), [(0, kBox ins vars cells (.vec 1 1 0 S'.length) (.vec 2 0 0 n2)), (1, .vec 1 (bD S')), (0, .vec 1 T)])
      | none => some (.ret (.d (.bool false)), [(0, kBox ins vars cells (.vec 1 1 0 S.length) (.vec 2 0 0 n2)), (1, .vec 1 (bD S)), (0, .vec 1 T)]) := by
  rw [run56 (by simp)]
  unfold takeS
  by_cases h1 : S.length < n
  · have h1' : (S.length : Int) < n := by omega
    simp [Tryz.f56, h1, h1']
  · have h1' : ¬ ((S.length : Int) < n) := by omega
    obtain ⟨A, B, rfl, hB⟩ : ∃ A B, S = A ++ B ∧ B.length = n := ⟨S.take (S.length - n), S.drop (S.length - n), (List.take_append_drop _ _).symm, by simp; omega⟩
    have hA : (A ++ B).length - n = A.length := by simp; omega
    have w1 : IntKind.i64.wrap (((A ++ B).length : Int) - n) = A.length := by rw [wrap_id (by unfold I64; omega)]; simp; omega
    have hloop := take_loop ins vars cells n2 T n t A (by simp at hl; omega) B [] (by simpa using hB) hn
    have hAn : A.length + B.length - A.length = n := by omega
    have hAn2 : A.length + n - A.length = n := by omega
    subst hB
    rw [hA]
    have c1 : ¬ ((A.length : Int) + B.length < B.length) := by omega
    have c2 : (A.length : Int) ≤ (A.length : Int) + B.length := by omega
    have c3 : ((A.length : Int) + B.length).toNat - A.length = B.length := by omega
    have c4 : ¬ (A.length + B.length < B.length) := by omega
    simp at h1 h1' w1
    simp [Tryz.f56] at hloop ⊢
    simp [w1, c1, c2, c3, c4]
    rw [drwK_nil (by kernel_rfl)]
    simp [c1, c2, c3, c4, hloop]
    by_cases q : t = true ∧ false ∈ B
    · simp [q]
    · rw [if_neg q, if_neg q]
      simp [w1, c1, c2, c3, c4]
      rw [drwK_nil (by kernel_rfl)]
      simp [w1]
end
end Go.Am
end
section
namespace Go.Am
open Go Go.Proofs
set_option maxRecDepth 20000
section
variable (ins : List Ins) (vars cells : Int) (n2 : Nat) (T : List D)
def MovesOk (x : Ins) (S : List Bool) (r : Ans) : Prop := ∃ S' : List Bool, r = some (.ret (.d (.bool (movesS x S).isSome)), [(0, kBox ins vars cells (.vec 1 1 0 S'.length) (.vec 2 0 0 n2)), (1, .vec 1 (bD S')), (0, .vec 1 T)]) ∧ ∀ S2, movesS x S = some S2 → S2 = S'
theorem takeS_len {n : Nat} {t : Bool} {S S' : List Bool} (h : takeS n t S = some S') : S'.length ≤ S.length := by
  unfold takeS at h
  split at h
  · cases h
  · split at h
    · cases h
    · cases h; simp
set_option maxHeartbeats 4000000 in
theorem moves_run (x : Ins) (S : List Bool) (hl : S.length ≤ 64) :
    MovesOk ins vars cells n2 T x S (callT ctx 34 [.ptr 0 0 0, .d (insD x)] [kBox ins vars cells (.vec 1 0 0 S.length) (.vec 2 0 0 n2), .vec 1 (bD S), .vec 1 T]) := by
  rw [run34 (by simp)]
  unfold MovesOk movesS
  have hgt := give_run ins vars cells n2 T true S (by omega)
  have hgf := give_run ins vars cells n2 T false S (by omega)
  have he := empty_run ins vars cells n2 T (bD S) S.length
  simp at hgt hgf he
  by_cases e1 : x.op = 1
  · refine ⟨S ++ [decide (x.n = 0) || decide (x.n = 1)], ?_, ?_⟩
    · by_cases q : x.n = 0
      · simp [Tryz.f34, e1, q, hgt, giveS]
        split <;> simp [*]
      · by_cases q1 : x.n = 1
        · simp [Tryz.f34, e1, q1, hgt, giveS]
          split <;> simp [*]
        · simp [Tryz.f34, e1, q, q1, hgf, giveS]
          split <;> simp [*]
    · simp [e1, giveS]
  by_cases e2 : x.op = 2
  · refine ⟨S ++ [false], ?_, ?_⟩
    · simp [Tryz.f34, e2, hgf, giveS]
      split <;> simp [*]
    · simp [e2, giveS]
  by_cases e3 : x.op = 3
  · refine ⟨S ++ [true], ?_, ?_⟩
    · simp [Tryz.f34, e3, hgt, giveS]
      split <;> simp [*]
    · simp [e3, giveS]
  by_cases e13 : x.op = 13
  · refine ⟨S ++ [true], ?_, ?_⟩
    · simp [Tryz.f34, e13, hgt, giveS]
      split <;> simp [*]
    · simp [e13, giveS]
  by_cases e14 : x.op = 14
  · refine ⟨S ++ [true], ?_, ?_⟩
    · simp [Tryz.f34, e14, hgt, giveS]
      split <;> simp [*]
    · simp [e14, giveS]
  have ht1 := take_run ins vars cells n2 T 1 false S (by omega) (by omega)
  by_cases e4 : x.op = 4
  · cases q : takeS 1 false S with
    | none =>
      simp [q] at ht1
      refine ⟨S, ?_, ?_⟩
      · simp [Tryz.f34, e4, ht1, q]
      · simp [e4, q]
    | some S1 =>
      have hl1 := takeS_len q
      have hg1 := give_run ins vars cells n2 T false S1 (by omega)
      simp [q] at ht1
      simp at hg1
      refine ⟨S1 ++ [false], ?_, ?_⟩
      · simp [Tryz.f34, e4, ht1, hg1, q, giveS]
        split <;> simp [*]
      · simp [e4, q, giveS]
  by_cases e5 : x.op = 5
  · cases q : takeS 1 false S with
    | none =>
      simp [q] at ht1
      refine ⟨S, ?_, ?_⟩
      · simp [Tryz.f34, e5, ht1, q]
      · simp [e5, q]
    | some S1 =>
      have hl1 := takeS_len q
      have hg1 := give_run ins vars cells n2 T true S1 (by omega)
      simp [q] at ht1
      simp at hg1
      refine ⟨S1 ++ [true], ?_, ?_⟩
      · simp [Tryz.f34, e5, ht1, hg1, q, giveS]
        split <;> simp [*]
      · simp [e5, q, giveS]
  by_cases e6 : x.op = 6
  · cases q : takeS 1 false S with
    | none =>
      simp [q] at ht1
      refine ⟨S, ?_, ?_⟩
      · simp [Tryz.f34, e6, ht1, q]
      · simp [e6, q]
    | some S1 =>
      simp [q] at ht1
      refine ⟨S1, ?_, ?_⟩
      · simp [Tryz.f34, e6, ht1, q]
      · simp [e6, q]
  by_cases e7 : x.op = 7
  · have ht2 := take_run ins vars cells n2 T 2 false S (by omega) (by omega)
    cases q : takeS 2 false S with
    | none =>
      simp [q] at ht2
      refine ⟨S, ?_, ?_⟩
      · simp [Tryz.f34, e7, ht2, q]
      · simp [e7, q]
    | some S1 =>
      simp [q] at ht2
      refine ⟨S1, ?_, ?_⟩
      · simp [Tryz.f34, e7, ht2, q]
      · simp [e7, q]
  by_cases e10 : x.op = 10
  · have ht2 := take_run ins vars cells n2 T 1 true S (by omega) (by omega)
    cases q : takeS 1 true S with
    | none =>
      simp [q] at ht2
      refine ⟨S, ?_, ?_⟩
      · simp [Tryz.f34, e10, ht2, q]
      · simp [e10, q]
    | some S1 =>
      have he1 := empty_run ins vars cells n2 T (bD S1) S1.length
      simp at he1
      simp [q] at ht2
      refine ⟨S1, ?_, ?_⟩
      · simp [Tryz.f34, e10, ht2, q, emptyS, he1]
        split <;> simp [*]
      · simp [e10, q, emptyS]
  by_cases e8 : x.op = 8
  · obtain ⟨n, hn⟩ : ∃ n : Nat, n = (if x.b = 6 ∨ x.b = 7 then 1 else 2) := ⟨_, rfl⟩
    obtain ⟨g, hg⟩ : ∃ g, g = (decide (x.b = 7) || decide (13 ≤ x.b)) := ⟨_, rfl⟩
    have hn2 : n ≤ 2 := by rw [hn]; split <;> omega
    have ht2 := take_run ins vars cells n2 T n (decide (x.a = 1)) S (by omega) (by omega)
    rw [← hn, ← hg]
    have hc : (x.b = 6 ∧ n = 1 ∧ g = false) ∨ (x.b = 7 ∧ n = 1 ∧ g = true) ∨ (x.b ≠ 6 ∧ x.b ≠ 7 ∧ ¬ 13 ≤ x.b ∧ n = 2 ∧ g = false) ∨ (x.b ≠ 6 ∧ x.b ≠ 7 ∧ 13 ≤ x.b ∧ n = 2 ∧ g = true) := by
      rw [hn, hg]
      by_cases h6 : x.b = 6
      · simp [h6]
      · by_cases h7 : x.b = 7
        · simp [h7]
        · by_cases h13 : 13 ≤ x.b <;> simp [h6, h7, h13]
    clear hn hg
    cases q : takeS n (decide (x.a = 1)) S with
    | none =>
      simp [q] at ht2
      refine ⟨S, ?_, ?_⟩
      · rcases hc with ⟨h1, rfl, rfl⟩ | ⟨h1, rfl, rfl⟩ | ⟨h1, h2, h3, rfl, rfl⟩ | ⟨h1, h2, h3, rfl, rfl⟩
        · simp at ht2
          simp [Tryz.f34, e8, h1, ht2, q]
        · simp at ht2
          simp [Tryz.f34, e8, h1, ht2, q]
        · simp at ht2
          simp [Tryz.f34, e8, h1, h2, h3, ht2, q]
        · simp at ht2
          simp [Tryz.f34, e8, h1, h2, h3, ht2, q]
      · simp [e8, q]
    | some S1 =>
      have hl1 := takeS_len q
      have hg1 := give_run ins vars cells n2 T g S1 (by omega)
      simp [q] at ht2
      simp at hg1
      refine ⟨S1 ++ [g], ?_, ?_⟩
      · rcases hc with ⟨h1, rfl, rfl⟩ | ⟨h1, rfl, rfl⟩ | ⟨h1, h2, h3, rfl, rfl⟩ | ⟨h1, h2, h3, rfl, rfl⟩
        · simp at ht2
          simp [Tryz.f34, e8, h1, ht2, hg1, q, giveS]
          split <;> simp [*]
        · simp at ht2
          simp [Tryz.f34, e8, h1, ht2, hg1, q, giveS]
          split <;> simp [*]
        · simp at ht2
          simp [Tryz.f34, e8, h1, h2, h3, ht2, hg1, q, giveS]
          split <;> simp [*]
        · simp at ht2
          simp [Tryz.f34, e8, h1, h2, h3, ht2, hg1, q, giveS]
          split <;> simp [*]
      · simp [e8, q, giveS]
  · refine ⟨S, ?_, ?_⟩
    · simp [Tryz.f34, e1, e2, e3, e4, e5, e6, e7, e8, e10, e13, e14, emptyS, he]
      split <;> simp [*]
    · simp [e1, e2, e3, e4, e5, e6, e7, e8, e10, e13, e14, emptyS]
end
end Go.Am
end
section
namespace Go.Am
open Go Go.Proofs
set_option maxRecDepth 20000
def ledStep (l : List Bool) (x : Ins) : List Bool := if x.op = 9 ∨ x.op = 10 then l.set x.a.toNat true else l
theorem ledStep_len (l : List Bool) (x : Ins) : (ledStep l x).length = l.length := by unfold ledStep; split <;> simp
theorem bD_set (l : List Bool) (i : Nat) (b : Bool) : (bD l).set i (.bool b) = bD (l.set i b) := by simp [bD, List.map_set]
theorem movesS_len {x : Ins} {S S' : List Bool} (hl : S.length ≤ 64) (h : movesS x S = some S') : S'.length ≤ 64 := by
  have g : ∀ {t S S'}, giveS t S = some S' → S'.length ≤ 64 := by
    intro t S S' h
    unfold giveS at h
    split at h
    · cases h; simp; omega
    · cases h
  have e : ∀ {S S'}, emptyS S = some S' → S'.length ≤ 64 := by
    intro S S' h
    unfold emptyS at h
    split at h
    · cases h; simp
    · cases h
  have tk : ∀ {n t S'}, takeS n t S = some S' → S'.length ≤ 64 := fun h => Nat.le_trans (takeS_len h) hl
  unfold movesS at h
  repeat' split at h
  all_goals first
    | exact g h
    | exact e h
    | exact tk h
    | (obtain ⟨y, _, h2⟩ := Option.bind_eq_some_iff.1 h; exact g h2)
    | (obtain ⟨y, _, h2⟩ := Option.bind_eq_some_iff.1 h; exact e h2)
section
variable (ins : List Ins) (vars cells : Int)
theorem led_loop (B : Cont) : ∀ (rest pre : List Ins) (T : List Bool) (v : Nat) (ct : Cont), (pre ++ rest).length ≤ 5000 → (∀ x ∈ rest, x.op = 9 ∨ x.op = 10 → 0 ≤ x.a ∧ x.a < T.length) → ∀ k : Kt,
    ∃ v' ct', denK ctx 18 (.loop (Code.at (codeOf Tryz.f18) [1, 0, 1, 0, 0])) ⟨63, gl0, [(0, true, .ptr 0 0 0), (11, true, .d (.list ((pre ++ rest).map insD))), (12, true, .d (.int .i64 (pre ++ rest).length)), (13, true, .d (.int .i64 pre.length))],
        [⟨0, 0, kBox ins vars cells (.vec 1 0 0 0) (.vec 2 0 0 T.length)⟩, ⟨1, 0, .vec 1 []⟩, ⟨2, 0, .vec 1 (bD T)⟩, ⟨300, v, ct⟩, ⟨400, 0, B⟩]⟩ k =
      k (.exit 0) ⟨63, gl0, [(0, true, .ptr 0 0 0), (11, true, .d (.list ((pre ++ rest).map insD))), (12, true, .d (.int .i64 (pre ++ rest).length)), (13, true, .d (.int .i64 (pre ++ rest).length)), (14, true, .d (.bool false))],
        [⟨0, 0, kBox ins vars cells (.vec 1 0 0 0) (.vec 2 0 0 T.length)⟩, ⟨1, 0, .vec 1 []⟩, ⟨2, 0, .vec 1 (bD (rest.foldl ledStep T))⟩, ⟨300, v', ct'⟩, ⟨400, 0, B⟩]⟩
  | [], pre, T, v, ct, hl, hT, k => by
    refine ⟨v, ct, ?_⟩
    rw [denK_loop]
    simp [Tryz.f18]
  | x :: rest, pre, T, v, ct, hl, hT, k => by
    obtain ⟨v', ct', ih⟩ := led_loop B rest (pre ++ [x]) (ledStep T x) (v + 1) (.box [.d (.int .i64 x.op), .d (.int .i64 x.a), .d (.int .i64 x.b), .d (.int .i64 x.n), .d (.int .i64 x.m)]) (by simpa using hl) (fun y hy h => by rw [ledStep_len]; exact hT y (by simp [hy]) h) k
    refine ⟨v', ct', ?_⟩
    have h1 : (pre.length : Int) < pre.length + (rest.length + 1) := by omega
    have h2 : IntKind.i64.wrap ((pre.length : Int) + 1) = pre.length + 1 := wrap_id (by unfold I64; simp at hl; omega)
    rw [ledStep_len] at ih
    rw [denK_loop]
    by_cases e9 : x.op = 9
    · obtain ⟨a1, a2⟩ := hT x (by simp) (.inl e9)
      have a3 : x.a.toNat < T.length := by omega
      have e : ledStep T x = T.set x.a.toNat true := by simp [ledStep, e9]
      rw [e, ← bD_set] at ih
      simp [Tryz.f18, e9] at ih ⊢
      simp [h1, h2, a1, a3]
      rw [drwK_nil (by kernel_rfl)]
      simp [h2, e, ih]
    · by_cases e10 : x.op = 10
      · obtain ⟨a1, a2⟩ := hT x (by simp) (.inr e10)
        have a3 : x.a.toNat < T.length := by omega
        have e : ledStep T x = T.set x.a.toNat true := by simp [ledStep, e10]
        rw [e, ← bD_set] at ih
        simp [Tryz.f18, e10] at ih ⊢
        simp [h1, h2, a1, a3]
        rw [drwK_nil (by kernel_rfl)]
        simp [h2, e, ih]
      · have e : ledStep T x = T := by simp [ledStep, e9, e10]
        rw [e] at ih
        simp [Tryz.f18, e9, e10] at ih ⊢
        simp [h1, h2, e, ih]
theorem stk_loop (L : List Bool) : ∀ (rest pre : List Ins) (S : List Bool) (v v1 : Nat) (B : Cont), (pre ++ rest).length = L.length → L.length ≤ 5000 → S.length ≤ 64 → ∀ (C : Cont) (vc : Nat) (k : Kt),
    ∃ v' v1' ct' S', denK ctx 18 (.loop (Code.at (codeOf Tryz.f18) [1, 1, 0, 1, 0, 0])) ⟨63, gl0, [(0, true, .ptr 0 0 0), (37, true, .d (.list ((pre ++ rest).map insD))), (38, true, .d (.int .i64 (pre ++ rest).length)), (39, true, .d (.int .i64 pre.length))],
        [⟨0, 0, kBox ins vars cells (.vec 1 v1 0 S.length) (.vec 2 0 0 L.length)⟩, ⟨1, v1, .vec 1 (bD S)⟩, ⟨2, 0, .vec 1 (bD L)⟩, ⟨300, vc, C⟩, ⟨400, v, B⟩]⟩ k =
      if stackS L pre.length rest S = true then
        k (.exit 2) ⟨63, gl0, [(0, true, .ptr 0 0 0), (37, true, .d (.list ((pre ++ rest).map insD))), (38, true, .d (.int .i64 (pre ++ rest).length)), (39, true, .d (.int .i64 (pre ++ rest).length)), (40, true, .d (.bool false))],
          [⟨0, 0, kBox ins vars cells (.vec 1 v1' 0 (S' : List Bool).length) (.vec 2 0 0 L.length)⟩, ⟨1, v1', .vec 1 (bD S')⟩, ⟨2, 0, .vec 1 (bD L)⟩, ⟨300, vc, C⟩, ⟨400, v', ct'⟩]⟩
      else k .ret ⟨63, gl0, [(2, true, .d (.bool false))], [⟨0, 0, kBox ins vars cells (.vec 1 v1' 0 S'.length) (.vec 2 0 0 L.length)⟩, ⟨1, v1', .vec 1 (bD S')⟩, ⟨2, 0, .vec 1 (bD L)⟩, ⟨300, vc, C⟩, ⟨400, v', ct'⟩]⟩
  | [], pre, S, v, v1, B, hl, hL, hS, C, vc, k => by
    refine ⟨v, v1, B, S, ?_⟩
    rw [denK_loop]
    simp [Tryz.f18, stackS]
  | x :: rest, pre, S, v, v1, B, hl, hL, hS, C, vc, k => by
    have h1 : (pre.length : Int) < pre.length + (rest.length + 1) := by omega
    have h2 : IntKind.i64.wrap ((pre.length : Int) + 1) = pre.length + 1 := wrap_id (by unfold I64; simp at hl; omega)
    have hp : pre.length < L.length := by simp at hl; omega
    obtain ⟨S2, hm, hm2⟩ := moves_run ins vars cells L.length (bD L) x S hS
    have he := empty_run ins vars cells L.length (bD L) (bD S) S.length
    have hget : (L.getD pre.length false) = L[pre.length] := by simp [hp]
    cases hb : L[pre.length]
    · cases hmv : movesS x S with
      | none =>
        refine ⟨v + 1, v1 + 1, .box [.d (.int .i64 x.op), .d (.int .i64 x.a), .d (.int .i64 x.b), .d (.int .i64 x.n), .d (.int .i64 x.m)], S2, ?_⟩
        rw [denK_loop]
        have hst : stackS L pre.length (x :: rest) S = false := by simp [stackS, hget, hb, hmv]
        rw [hst]
        simp [hmv] at hm
        simp [Tryz.f18, h1, hp, hb, hm]
      | some S3 =>
        have hS3 := movesS_len hS hmv
        obtain rfl := hm2 S3 hmv
        obtain ⟨v', v1', ct', S', ih⟩ := stk_loop L rest (pre ++ [x]) S3 (v + 1) (v1 + 1) (.box [.d (.int .i64 x.op), .d (.int .i64 x.a), .d (.int .i64 x.b), .d (.int .i64 x.n), .d (.int .i64 x.m)]) (by simpa using hl) hL hS3 C vc k
        refine ⟨v', v1', ct', S', ?_⟩
        have hst : stackS L pre.length (x :: rest) S = stackS L (pre ++ [x]).length rest S3 := by rw [stackS, hget, hb]; simp [hmv]
        rw [hst, denK_loop]
        simp [hmv] at hm
        simp [Tryz.f18] at ih ⊢
        simp [h1, h2, hp, hb, hm, ih]
    · cases S with
      | nil =>
        simp at he
        cases hmv : movesS x [] with
        | none =>
          refine ⟨v + 1, v1 + 1, .box [.d (.int .i64 x.op), .d (.int .i64 x.a), .d (.int .i64 x.b), .d (.int .i64 x.n), .d (.int .i64 x.m)], S2, ?_⟩
          rw [denK_loop]
          have hst : stackS L pre.length (x :: rest) [] = false := by simp [stackS, hmv]
          rw [hst]
          simp [hmv] at hm
          simp [Tryz.f18, h1, hp, hb, hm, he]
        | some S3 =>
          have hS3 := movesS_len hS hmv
          obtain rfl := hm2 S3 hmv
          obtain ⟨v', v1', ct', S', ih⟩ := stk_loop L rest (pre ++ [x]) S3 (v + 1) (v1 + 1) (.box [.d (.int .i64 x.op), .d (.int .i64 x.a), .d (.int .i64 x.b), .d (.int .i64 x.n), .d (.int .i64 x.m)]) (by simpa using hl) hL hS3 C vc k
          refine ⟨v', v1', ct', S', ?_⟩
          have hst : stackS L pre.length (x :: rest) [] = stackS L (pre ++ [x]).length rest S3 := by simp [stackS, hmv]
          rw [hst, denK_loop]
          simp [hmv] at hm
          simp [Tryz.f18] at ih ⊢
          simp [h1, h2, hp, hb, hm, he, ih]
      | cons y S =>
        refine ⟨v + 1, v1, .box [.d (.int .i64 x.op), .d (.int .i64 x.a), .d (.int .i64 x.b), .d (.int .i64 x.n), .d (.int .i64 x.m)], y :: S, ?_⟩
        have hst : stackS L pre.length (x :: rest) (y :: S) = false := by rw [stackS, hget, hb]; simp
        rw [hst, denK_loop]
        simp at he
        simp [Tryz.f18, h1, hp, hb, he]
theorem stacks_run (hl : ins.length ≤ 5000) (hA : ∀ x ∈ ins, x.op = 9 ∨ x.op = 10 → 0 ≤ x.a ∧ x.a < ins.length) :
    ∃ S', callT ctx 18 [.ptr 0 0 0] [kBox ins vars cells (.vec 1 0 0 0) (.vec 2 0 0 ins.length), .vec 1 [], .vec 1 (bD (List.replicate ins.length false))] =
      some (.ret (.d (.bool (stackS (ledOf ins) 0 ins []))), [(0, kBox ins vars cells (.vec 1 1 0 (S' : List Bool).length) (.vec 2 1 0 ins.length)), (1, .vec 1 (bD S')), (1, .vec 1 (bD (ledOf ins)))]) := by
  have hll : (ledOf ins).length = ins.length := by
    have : ∀ (l : List Ins) (T : List Bool), (l.foldl ledStep T).length = T.length := by
      intro l
      induction l with
      | nil => intro T; rfl
      | cons x l ih => intro T; simp only [List.foldl_cons]; rw [ih, ledStep_len]
    rw [show ledOf ins = ins.foldl ledStep (List.replicate ins.length false) from rfl, this]; simp
  have h1 := fun B => led_loop ins vars cells B ins [] (List.replicate ins.length false) 0 .dead hl (by simpa using hA)
  rw [show ins.foldl ledStep (List.replicate ins.length false) = ledOf ins from rfl] at h1
  have h2 := fun C vc => stk_loop ins vars cells (ledOf ins) ins [] [] 0 0 .dead (by simp [hll]) (by omega) (by simp) C vc
  generalize ledOf ins = L at hll h1 h2
  generalize hr : callT ctx 18 _ _ = r
  rw [run18 (by simp)] at hr
  simp [Tryz.f18, hll] at h1 h2 hr
  obtain ⟨f1, h1⟩ := Classical.axiomOfChoice (h1 .dead)
  obtain ⟨f2, h1⟩ := Classical.axiomOfChoice h1
  rw [h1] at hr
  clear h1
  generalize f1 _ = a at hr
  generalize f2 _ = b at hr
  simp at hr
  replace h2 := h2 b a
  obtain ⟨g1, h2⟩ := Classical.axiomOfChoice h2
  obtain ⟨g2, h2⟩ := Classical.axiomOfChoice h2
  obtain ⟨g3, h2⟩ := Classical.axiomOfChoice h2
  obtain ⟨g4, h2⟩ := Classical.axiomOfChoice h2
  rw [h2] at hr
  clear h2
  generalize g1 _ = a1 at hr
  generalize g2 _ = a2 at hr
  generalize g3 _ = a3 at hr
  generalize g4 _ = S' at hr
  refine ⟨S', ?_⟩
  rw [← hr]
  have hl2 : ins.length ≤ L.length := by omega
  have ht : List.take ins.length (List.map D.bool L) = List.map D.bool L := by rw [← hll]; simp
  cases hq : stackS L 0 ins []
  · simp [hl2, ht]
  · simp [hl2, ht]
end
end Go.Am
end
section
namespace Go.Am
open Go Go.Proofs
set_option maxRecDepth 20000
theorem dfs_keeps (succ : Nat → List Nat) : ∀ f : Nat,
    (∀ at_ seen, (dfs succ f at_ seen).2.length = seen.length ∧ fresh (dfs succ f at_ seen).2 ≤ fresh seen) ∧ (∀ l seen, (dfsL succ f l seen).2.length = seen.length ∧ fresh (dfsL succ f l seen).2 ≤ fresh seen)
  | 0 => by
    have h0 : ∀ at_ seen, (dfs succ 0 at_ seen).2.length = seen.length ∧ fresh (dfs succ 0 at_ seen).2 ≤ fresh seen := fun at_ seen => by unfold dfs; exact ⟨rfl, Nat.le_refl _⟩
    refine ⟨h0, fun l seen => ?_⟩
    cases l with
    | nil => unfold dfsL; exact ⟨rfl, Nat.le_refl _⟩
    | cons n r => unfold dfsL dfs; exact ⟨rfl, Nat.le_refl _⟩
  | f + 1 => by
    have hd : ∀ at_ seen, (dfs succ (f + 1) at_ seen).2.length = seen.length ∧ fresh (dfs succ (f + 1) at_ seen).2 ≤ fresh seen := by
      intro at_ seen
      unfold dfs
      split
      · exact ⟨rfl, Nat.le_refl _⟩
      · have h := (dfs_keeps succ f).2 (succ at_) (seen.set at_ 1)
        have h1 := fresh_set_le (l := seen) (i := at_) (v := 1) (by decide)
        obtain ⟨s, b, he⟩ : ∃ s b, dfsL succ f (succ at_) (seen.set at_ 1) = (b, s) := ⟨_, _, rfl⟩
        rw [he] at h ⊢
        simp only [List.length_set] at h
        cases b with
        | true => exact ⟨h.1, by simp only; omega⟩
        | false =>
          have h2 := fresh_set_le (l := s) (i := at_) (v := 2) (by decide)
          exact ⟨by simp only [List.length_set]; exact h.1, by simp only; omega⟩
    refine ⟨hd, fun l => ?_⟩
    induction l with
    | nil => intro seen; unfold dfsL; exact ⟨rfl, Nat.le_refl _⟩
    | cons n r ih =>
      intro seen
      unfold dfsL
      have h := hd n seen
      obtain ⟨s, b, he⟩ : ∃ s b, dfs succ (f + 1) n seen = (b, s) := ⟨_, _, rfl⟩
      rw [he] at h ⊢
      cases b with
      | true => exact h
      | false =>
        have h2 := ih s
        simp only at h
        exact ⟨by simp only; rw [h2.1, h.1], by simp only; omega⟩
@[simp] def iD (l : List Nat) : List D := l.map fun (n : Nat) => D.int .i64 (n : Int)
def nextL (i : Nat) (x : Ins) : List Nat := if x.op = 9 then [x.a.toNat] else if x.op = 10 then [i + 1, x.a.toNat] else if x.op = 15 then [] else [i + 1]
theorem next_run (i : Nat) (x : Ins) (hi : i < 5000) (ha : x.op = 9 ∨ x.op = 10 → 0 ≤ x.a) : callT ctx 57 [.d (.int .i64 i), .d (insD x)] [] = some (.ret (.d (.list (iD (nextL i x)))), []) := by
  have w : IntKind.i64.wrap ((i : Int) + 1) = i + 1 := wrap_id (by unfold I64; omega)
  rw [run57 (by simp)]
  unfold nextL
  by_cases e9 : x.op = 9
  · have h := ha (.inl e9)
    have h2 : max x.a 0 = x.a := by omega
    simp [Tryz.f57, e9, h2]
  by_cases e10 : x.op = 10
  · have h := ha (.inr e10)
    have h2 : max x.a 0 = x.a := by omega
    simp [Tryz.f57, e10, w, h2, List.range']
  by_cases e15 : x.op = 15
  · simp [Tryz.f57, e15]
  · simp [Tryz.f57, e9, e10, e15, w]
section
variable (ins : List Ins) (vars cells : Int) (n1 n2 : Nat) (S T : List D)
def RoundOk (f : Nat) : Prop := ∀ (at_ : Nat) (seen : List Nat), fresh seen < f → at_ < ins.length → seen.length = ins.length →
    callT ctx 35 [.ptr 0 0 0, .d (.int .i64 at_), .vec 1 0 0 ins.length] [kBox ins vars cells (.vec 2 0 0 n1) (.vec 3 0 0 n2), .vec 1 (iD seen), .vec 1 S, .vec 1 T] =
      some (.ret (.d (.bool (dfs (succP ins) f at_ seen).1)), [(0, kBox ins vars cells (.vec 2 0 0 n1) (.vec 3 0 0 n2)), (0, .vec 1 (iD (dfs (succP ins) f at_ seen).2)), (0, .vec 1 S), (0, .vec 1 T)])
theorem round_loop (hlen : ins.length ≤ 5000) (f at_ : Nat) (hr : RoundOk ins vars cells n1 n2 S T f) : ∀ (rest pre : List Nat) (seen : List Nat), fresh seen < f → (pre ++ rest).length < 5000 → (∀ n ∈ rest, n < ins.length) → seen.length = ins.length → ∀ k : Kt,
    denK ctx 35 (.loop (Code.at (codeOf Tryz.f35) [1, 1, 1, 0, 1, 0, 1, 0, 0])) ⟨67, gl0, [(0, true, .ptr 0 0 0), (1, true, .d (.int .i64 at_)), (2, true, .vec 1 0 0 ins.length), (41, true, .d (.list (iD (pre ++ rest)))), (42, true, .d (.int .i64 (pre ++ rest).length)), (43, true, .d (.int .i64 pre.length))],
        [⟨0, 0, kBox ins vars cells (.vec 2 0 0 n1) (.vec 3 0 0 n2)⟩, ⟨1, 0, .vec 1 (iD seen)⟩, ⟨2, 0, .vec 1 S⟩, ⟨3, 0, .vec 1 T⟩]⟩ k =
      if (dfsL (succP ins) f (rest.filter fun j => !tickAt ins j) seen).1 = true then
        k .ret ⟨67, gl0, [(6, true, .d (.bool true))], [⟨0, 0, kBox ins vars cells (.vec 2 0 0 n1) (.vec 3 0 0 n2)⟩, ⟨1, 0, .vec 1 (iD (dfsL (succP ins) f (rest.filter fun j => !tickAt ins j) seen).2)⟩, ⟨2, 0, .vec 1 S⟩, ⟨3, 0, .vec 1 T⟩]⟩
      else k (.exit 0) ⟨67, gl0, [(0, true, .ptr 0 0 0), (1, true, .d (.int .i64 at_)), (2, true, .vec 1 0 0 ins.length), (41, true, .d (.list (iD (pre ++ rest)))), (42, true, .d (.int .i64 (pre ++ rest).length)), (43, true, .d (.int .i64 (pre ++ rest).length)), (44, true, .d (.bool false))],
        [⟨0, 0, kBox ins vars cells (.vec 2 0 0 n1) (.vec 3 0 0 n2)⟩, ⟨1, 0, .vec 1 (iD (dfsL (succP ins) f (rest.filter fun j => !tickAt ins j) seen).2)⟩, ⟨2, 0, .vec 1 S⟩, ⟨3, 0, .vec 1 T⟩]⟩
  | [], pre, seen, hf, hl, hn, hs, k => by
    rw [denK_loop]
    simp [Tryz.f35, dfsL]
  | n :: rest, pre, seen, hf, hl, hn, hs, k => by
    have hn0 := hn n (by simp)
    have hget : ins[n]? = some ins[n] := by simp [hn0]
    have h1 : (pre.length : Int) < pre.length + (rest.length + 1) := by omega
    have h2 : IntKind.i64.wrap ((pre.length : Int) + 1) = pre.length + 1 := wrap_id (by unfold I64; simp at hl; omega)
    by_cases ht : ins[n].op = 11
    · have htk : tickAt ins n = true := by simp [tickAt, hget, ht]
      have ih := round_loop hlen f at_ hr rest (pre ++ [n]) seen hf (by simpa using hl) (fun m hm => hn m (by simp [hm])) hs k
      rw [denK_loop]
      simp [Tryz.f35, htk] at ih ⊢
      simp [h1, h2, hn0, ht, ih]
    · have htk : tickAt ins n = false := by simp [tickAt, hget, ht]
      have hc := hr n seen hf hn0 hs
      have hk := (dfs_keeps (succP ins) f).1 n seen
      have e : dfsL (succP ins) f ((n :: rest).filter fun j => !tickAt ins j) seen = if (dfs (succP ins) f n seen).1 = true then (true, (dfs (succP ins) f n seen).2) else dfsL (succP ins) f (rest.filter fun j => !tickAt ins j) (dfs (succP ins) f n seen).2 := by
        rw [List.filter_cons, htk]
        simp only [Bool.not_false, if_true]
        rw [dfsL]
        obtain ⟨s, b, he⟩ : ∃ s b, dfs (succP ins) f n seen = (b, s) := ⟨_, _, rfl⟩
        rw [he]
        cases b <;> rfl
      rw [e]
      obtain ⟨s, b, he⟩ : ∃ s b, dfs (succP ins) f n seen = (b, s) := ⟨_, _, rfl⟩
      rw [he] at hc hk ⊢
      simp only at hk
      rw [denK_loop]
      cases b
      · have ih := round_loop hlen f at_ hr rest (pre ++ [n]) s (by omega) (by simpa using hl) (fun m hm => hn m (by simp [hm])) (by omega) k
        simp [Tryz.f35] at ih hc ⊢
        simp [h1, h2, hn0, ht, hc, ih]
      · simp at hc
        simp [Tryz.f35]
        simp [h1, h2, hn0, ht, hc]
end
end Go.Am
end
section
namespace Go.Am
open Go Go.Proofs
set_option maxRecDepth 20000
/-- Where an instruction leads is one. -/
def Inside (ins : List Ins) : Prop := ∀ i x, ins[i]? = some x → (x.op = 9 ∨ x.op = 10 → 0 ≤ x.a ∧ x.a < (ins.length : Int)) ∧ (x.op ≠ 9 → x.op ≠ 15 → i + 1 < ins.length)
theorem inside_of {pins : Int → Nat} {ins : List Ins} {vars cells : Int} (h : okForms pins ins vars cells = true) : Inside ins := by
  intro i x hx
  simp only [okForms, Bool.and_eq_true] at h
  have hf := forms_get h.2 i _ hx
  have hi : i < ins.length := (List.getElem?_eq_some_iff.1 hx).1
  simp only [Nat.zero_add] at hf
  have hlast : i + 1 = ins.length → x.op = 15 := by
    intro h1
    have h2 := h.1
    simp only [headB, Bool.and_eq_true, decide_eq_true_eq] at h2
    have h3 := h2.2
    unfold lastOp at h3
    rw [List.getLast?_eq_getElem?, show ins.length - 1 = i by omega, hx] at h3
    simpa using h3
  refine ⟨fun hj => ?_, fun h9 h15 => ?_⟩
  · unfold formB at hf
    rcases hj with hj | hj <;> simp [hj] at hf <;> omega
  · have : i + 1 ≠ ins.length := fun h => h15 (hlast h)
    omega
section
variable (ins : List Ins) (vars cells : Int) (n1 n2 : Nat) (S T : List D)
theorem nextL_len (i : Nat) (x : Ins) : (nextL i x).length ≤ 2 := by
  unfold nextL
  repeat' split
  all_goals simp
theorem next_in (hin : Inside ins) {i : Nat} (hi : i < ins.length) : ∀ j ∈ nextL i ins[i], j < ins.length := by
  have h := hin i ins[i] (by simp [hi])
  intro j hj
  unfold nextL at hj
  split at hj
  · rename_i h9
    have := h.1 (.inl h9)
    simp at hj; omega
  · rename_i h9
    split at hj
    · rename_i h10
      have := h.1 (.inr h10)
      have := h.2 h9 (by omega)
      simp at hj; omega
    · split at hj
      · simp at hj
      · rename_i h15
        have := h.2 h9 h15
        simp at hj; omega
theorem succP_eq {i : Nat} (hi : i < ins.length) : succP ins i = if ins[i].op = 11 then [] else (nextL i ins[i]).filter fun j => !tickAt ins j := by
  have hx : ins[i]? = some ins[i] := by simp [hi]
  unfold succP succI tickAt nextI nextL
  rw [hx]
  simp only [decide_eq_true_eq]
  split <;> rfl
theorem round_all (hlen : ins.length ≤ 5000) (hin : Inside ins) : ∀ f, RoundOk ins vars cells n1 n2 S T f
  | 0 => fun at_ seen hf _ _ => by omega
  | f + 1 => by
    intro at_ seen hf hat hs
    have hat2 : at_ < seen.length := by omega
    have hget : seen.getD at_ 0 = seen[at_] := by simp [hat2]
    rw [run35 (by simp)]
    unfold dfs
    rw [hget]
    by_cases h0 : seen[at_] = 0
    · rw [if_neg (by simp [h0])]
      have hfr := fresh_set (l := seen) (i := at_) (v := 1) (by rw [hget]; exact h0) hat2 (by decide)
      have hset : (iD seen).set at_ (.int .i64 1) = iD (seen.set at_ 1) := by simp [iD, List.map_set]
      rw [succP_eq ins hat]
      by_cases ht : ins[at_].op = 11
      · rw [if_pos ht]
        have hset2 : ((iD seen).set at_ (.int .i64 1)).set at_ (.int .i64 2) = iD ((seen.set at_ 1).set at_ 2) := by simp [iD, List.map_set]
        simp at hset2
        simp [Tryz.f35, hat2, hat, h0, ht, dfsL, hset2]
      · rw [if_neg ht]
        have hn := next_run at_ ins[at_] (by omega) (fun h => ((hin at_ _ (by simp [hat])).1 h).1)
        have hloop := round_loop ins vars cells n1 n2 S T hlen f at_ (round_all hlen hin f) (nextL at_ ins[at_]) [] (seen.set at_ 1) (by omega) (by have := nextL_len at_ ins[at_]; simp; omega) (next_in ins hin hat) (by simp; omega)
        simp only [List.nil_append, List.length_nil] at hloop
        rw [← hset] at hloop
        have hk := (dfs_keeps (succP ins) f).2 ((nextL at_ ins[at_]).filter fun j => !tickAt ins j) (seen.set at_ 1)
        obtain ⟨s, b, he⟩ : ∃ s b, dfsL (succP ins) f ((nextL at_ ins[at_]).filter fun j => !tickAt ins j) (seen.set at_ 1) = (b, s) := ⟨_, _, rfl⟩
        rw [he] at hloop hk ⊢
        have hset3 : (iD s).set at_ (.int .i64 2) = iD (s.set at_ 2) := by simp [iD, List.map_set]
        simp only [List.length_set] at hk
        have hs3 : at_ < s.length := by omega
        simp at hset3
        cases b
        · simp [Tryz.f35] at hn hloop ⊢
          simp [hat2, hat, h0, ht, hn, hloop, hs3, hset3]
        · simp [Tryz.f35] at hn hloop ⊢
          simp [hat2, hat, h0, ht, hn, hloop]
    · rw [if_pos h0]
      simp [Tryz.f35, hat2, hat, h0]
      generalize seen[at_] = z
      by_cases q : z = 1
      · subst q; rfl
      · have q2 : ¬ ((z : Int) = 1) := by omega
        simp [q, q2]
theorem rounds_loop (hlen : ins.length ≤ 5000) (hin : Inside ins) : ∀ (rest pre : List Nat) (seen : List Nat), pre ++ rest = List.range ins.length → seen.length = ins.length → ∀ (v : Nat) (k : Kt),
    ∃ v' s', denK ctx 19 (.loop (Code.at (codeOf Tryz.f19) [1, 1, 0, 1, 0, 0])) ⟨26, gl0, [(0, true, .ptr 0 0 0), (3, true, .vec 650 v 0 ins.length), (17, true, .d (.int .i64 ins.length)), (18, true, .d (.int .i64 pre.length))],
        [⟨0, 0, kBox ins vars cells (.vec 1 0 0 n1) (.vec 2 0 0 n2)⟩, ⟨1, 0, .vec 1 S⟩, ⟨2, 0, .vec 1 T⟩, ⟨650, v, .vec 1 (iD seen)⟩]⟩ k =
      if rounds (succP ins) (ins.length + 1) rest seen = true then
        k .ret ⟨26, gl0, [(2, true, .d (.bool true))], [⟨0, 0, kBox ins vars cells (.vec 1 0 0 n1) (.vec 2 0 0 n2)⟩, ⟨1, 0, .vec 1 S⟩, ⟨2, 0, .vec 1 T⟩, ⟨650, v', .vec 1 (iD s')⟩]⟩
      else k (.exit 0) ⟨26, gl0, [(0, true, .ptr 0 0 0), (3, true, .vec 650 v' 0 ins.length), (17, true, .d (.int .i64 ins.length)), (18, true, .d (.int .i64 ins.length)), (19, true, .d (.bool false))],
        [⟨0, 0, kBox ins vars cells (.vec 1 0 0 n1) (.vec 2 0 0 n2)⟩, ⟨1, 0, .vec 1 S⟩, ⟨2, 0, .vec 1 T⟩, ⟨650, v', .vec 1 (iD s')⟩]⟩
  | [], pre, seen, hp, hs, v, k => by
    refine ⟨v, seen, ?_⟩
    have hpl : pre.length = ins.length := by simpa using congrArg List.length hp
    rw [denK_loop]
    simp [Tryz.f19, rounds, hpl]
  | n :: rest, pre, seen, hp, hs, v, k => by
    have hpl : pre.length + (rest.length + 1) = ins.length := by simpa using congrArg List.length hp
    have hn : n = pre.length := by
      have := congrArg (fun l => l[pre.length]?) hp
      simp at this
      rw [List.getElem?_range (by omega)] at this
      simpa using this
    have h1 : pre.length < ins.length := by omega
    have h2 : IntKind.i64.wrap ((pre.length : Int) + 1) = pre.length + 1 := wrap_id (by unfold I64; omega)
    have hfr : fresh seen ≤ seen.length := List.countP_le_length
    have hr := round_all ins vars cells n1 n2 S T hlen hin (ins.length + 1) pre.length seen (by omega) (by omega) hs
    have hk := ((dfs_keeps (succP ins) (ins.length + 1)).1 pre.length seen).1
    subst hn
    rw [rounds]
    obtain ⟨s, b, he⟩ : ∃ s b, dfs (succP ins) (ins.length + 1) pre.length seen = (b, s) := ⟨_, _, rfl⟩
    rw [he] at hr hk ⊢
    simp only at hk
    cases b
    · obtain ⟨v', s', ih⟩ := rounds_loop hlen hin rest (pre ++ [pre.length]) s (by simpa using hp) (by omega) v k
      refine ⟨v', s', ?_⟩
      rw [denK_loop]
      simp [Tryz.f19] at ih hr ⊢
      simp [h1, h2, hr, ih]
    · refine ⟨v, s, ?_⟩
      rw [denK_loop]
      simp at hr
      simp [Tryz.f19]
      simp [h1, h2, hr]
theorem rounds_run (hlen : ins.length ≤ 5000) (hin : Inside ins) :
    callT ctx 19 [.ptr 0 0 0] [kBox ins vars cells (.vec 1 0 0 n1) (.vec 2 0 0 n2), .vec 1 S, .vec 1 T] =
      some (.ret (.d (.bool (rounds (succP ins) (ins.length + 1) (List.range ins.length) (List.replicate ins.length 0)))), [(0, kBox ins vars cells (.vec 1 0 0 n1) (.vec 2 0 0 n2)), (0, .vec 1 S), (0, .vec 1 T)]) := by
  have h1 := rounds_loop ins vars cells n1 n2 S T hlen hin (List.range ins.length) [] (List.replicate ins.length 0) rfl (by simp) 1
  obtain ⟨f1, h1⟩ := Classical.axiomOfChoice h1
  obtain ⟨f2, h1⟩ := Classical.axiomOfChoice h1
  have g1 : (ins.length : Int) * 8 ≤ 140737488355328 ∧ (ins.length : Int) ≤ 4611686018427387904 := by omega
  rw [run19 (by simp)]
  simp [Tryz.f19] at h1 ⊢
  simp [g1, h1]
  cases hq : rounds (succP ins) (ins.length + 1) (List.range ins.length) (List.replicate ins.length 0) <;> simp
  trace_state
end
end Go.Am
end
section
namespace Go.Am
open Go Go.Proofs
set_option maxRecDepth 20000
@[simp] def codeD (ins : List Ins) (vars cells : Int) : D := .agg [.list (ins.map insD), .int .i64 vars, .int .i64 cells]
theorem checkCode_run (pins : Int → Nat) (hp : PinsOk 41 pins) (ins : List Ins) (vars cells : Int) (hl : ins.length ≤ 5000) :
    callT ctx 8 [.d (codeD ins vars cells)] [] = some (.ret (.d (.bool (okCode pins ins vars cells))), []) := by
  have hf := forms_run pins hp ins vars cells 0 ins.length [] (bD (List.replicate ins.length false)) hl
  have g1 : (ins.length : Int) ≤ 140737488355328 ∧ (ins.length : Int) ≤ 4611686018427387904 := by omega
  rw [run8 (by simp)]
  unfold okCode
  cases hq : okForms pins ins vars cells
  · simp [hq] at hf
    simp [Tryz.f8, g1]
    rw [drwK_nil (by kernel_rfl)]
    simp [hf]
  · have hin := inside_of hq
    obtain ⟨S', hs⟩ := stacks_run ins vars cells hl (fun x hx h => by
      obtain ⟨i, hi, rfl⟩ := List.getElem_of_mem hx
      exact (hin i _ (by simp [hi])).1 h)
    have hr := rounds_run ins vars cells S'.length ins.length (bD S') (bD (ledOf ins)) hl hin
    simp [hq] at hf hs hr
    simp [Tryz.f8, g1]
    rw [drwK_nil (by kernel_rfl)]
    simp [hf, hs]
    cases hq2 : stackS (ledOf ins) 0 ins []
    · simp
    · simp [hr]
end Go.Am
end
section
namespace Go.Am
open Go Go.Proofs
set_option maxRecDepth 20000
@[simp] def rM (ins : List Ins) (vars cells : Int) (s : Ms) (G : List Int) (v : Nat) (c : Cont) : Mem :=
  [⟨250, 1, .box [.d (.list (ins.map insD)), .d (.int .i64 vars), .d (.int .i64 cells)]⟩, ⟨400, 1, .box [.lit (.slice none 0 0), .d (.int .i64 0), .d (.int .i64 0)]⟩, ⟨500, v, c⟩, ⟨1701, 2, .vec 1 (s.cells.map jD)⟩,
   ⟨2150, 1, .box (mB (.d (.list (ins.map insD))) vars cells (.vec 1701 2 0 s.cells.length) s.stk G s.stk.length s.at_ s.fuel s.fault)⟩, ⟨4051, 0, .dead⟩]
theorem run_loop (ins : List Ins) (vars cells : Int) {r : Nat → Nat} {st : Nat → List Bool} {n : Nat} (hg : Good pinsN n ins r st) (hl : InsOk ins) (k : Kt) (R : Ans) {s t : Ms} (h : RunsF ins s t) : VInv ins st n s →
    (∀ X v c G, t.stk.length + G.length = 64 → k (.exit 0) ⟨89, gl0, (3, true, .ptr 250 1 0) :: (6, true, .ptr 400 1 0) :: (7, true, .ptr 2150 1 0) :: X, rM ins vars cells t G v c⟩ = R) →
    ∀ X v c G, s.stk.length + G.length = 64 →
    denK ctx 10 (.loop (Code.at (codeOf Tryz.f10) [1, 1, 1, 0, 0, 0])) ⟨89, gl0, (3, true, .ptr 250 1 0) :: (6, true, .ptr 400 1 0) :: (7, true, .ptr 2150 1 0) :: X, rM ins vars cells s G v c⟩ k = R := by
  induction h with
  | fault s h =>
    intro hv hx X v c G hG
    have hx := hx [(46, true, .d (.bool false))] v c G hG
    simp at hx
    rw [denK_loop]
    simp [Tryz.f10, mB_len hG, mB_g71 hG, h, hx]
  | fin s x h0 hxx h15 =>
    intro hv hx X v c G hG
    have hlt := (hv.here h0).1
    have hp := hv.nums.place
    have hxe : ins[s.at_.toNat] = x := by
      rw [List.getElem?_eq_getElem hlt] at hxx
      exact Option.some.inj hxx
    have hx := hx [(8, true, .ptr 500 (v + 1) 0), (57, true, .d (.bool true))] (v + 1) (.box [.d (.int .i64 x.op), .d (.int .i64 x.a), .d (.int .i64 x.b), .d (.int .i64 x.n), .d (.int .i64 x.m)]) G hG
    simp [h15, h0] at hx
    rw [denK_loop]
    simp [Tryz.f10, mB_len hG, mB_g69 hG, mB_g71 hG, h0, hlt, hp.1, hxe, h15, drwK_end, hx]
  | step s x t h0 hxx h15 h' ih =>
    intro hv hx X v c G hG
    obtain ⟨hfit, hop, hv', _⟩ := step_inv hg hl hv h0 hxx h15
    have ih := ih hv' hx
    have hlt := (hv.here h0).1
    have hp := hv.nums.place
    have hlen := hg.len
    have hxe : ins[s.at_.toNat] = x := by
      rw [List.getElem?_eq_getElem hlt] at hxx
      exact Option.some.inj hxx
    have hN1 : NumsOk { s with at_ := s.at_ + 1 } := ⟨hv.nums.cells, hv.nums.stk, hv.nums.few, hv.nums.fuel, by simp only; omega⟩
    have w1 : IntKind.i64.wrap (s.at_ + 1) = s.at_ + 1 := wrap_id (by unfold I64; omega)
    clear hx hv' hv
    by_cases h7 : x.op ≤ 7
    · obtain ⟨t1, G', e1, e2, e3⟩ := vmoves_run (.list (ins.map insD)) vars cells x { s with at_ := s.at_ + 1 } G hG hN1.few hfit ⟨hop.1, h7⟩
      have e4 : stepF x s = t1 := by unfold stepF; rw [e1]
      rw [e4] at ih
      have ih := ih [(8, true, .ptr 500 (v + 1) 0), (68, true, .d (.bool false))] (v + 1) (.box [.d (.int .i64 x.op), .d (.int .i64 x.a), .d (.int .i64 x.b), .d (.int .i64 x.n), .d (.int .i64 x.m)]) G' e2
      simp [mC, mC2, h0] at e3
      rw [denK_loop]
      simp [Tryz.f10] at ih ⊢
      simp [mB_len hG, mB_g69 hG, mB_g71 hG, mB_set69 hG, mB_keys, mB_vws, mB_ups, h0, hlt, hp.1, hxe, h15, w1, e3, drwK_end, ih]
    · obtain ⟨e1, e3⟩ := vmoves_none (.list (ins.map insD)) vars cells x { s with at_ := s.at_ + 1 } G (by omega)
      obtain ⟨G', e2, e5⟩ := control_run (.list (ins.map insD)) vars cells x { s with at_ := s.at_ + 1 } G hG hfit hN1 ⟨by omega, hop.2⟩
      have e4 : stepF x s = ctlF x { s with at_ := s.at_ + 1 } := by unfold stepF; rw [e1]
      rw [e4] at ih
      have ih := ih [] (v + 1) (.box [.d (.int .i64 x.op), .d (.int .i64 x.a), .d (.int .i64 x.b), .d (.int .i64 x.n), .d (.int .i64 x.m)]) G' e2
      generalize ctlF x { s with at_ := s.at_ + 1 } = t1 at *
      simp [mC, mC2, h0] at e3 e5
      rw [denK_loop]
      simp [Tryz.f10] at ih ⊢
      simp [mB_len hG, mB_g69 hG, mB_g71 hG, mB_set69 hG, mB_keys, mB_vws, mB_ups, h0, hlt, hp.1, hxe, h15, w1, e3, e5, drwK_end, ih]
end Go.Am
end
section
namespace Go.Am
open Go Go.Proofs
set_option maxRecDepth 20000
@[simp] def ranD (C : List Int) (fault fuel : Int) : D := .agg [.list (C.map jD), .int .i64 fault, .int .i64 fuel]
theorem vrun_bad (ins : List Ins) (vars cells : Int) (C : List Int) (fuel : Int) (hl : ins.length ≤ 5000) (hC : C.length ≤ 100000)
    (h : okCode pinsN ins vars cells = false ∨ (C.length : Int) ≠ vars ∨ fuel < 0 ∨ 16384 < fuel) :
    callT ctx 10 [.d (codeD ins vars cells), .d (.list (C.map jD)), .d (.int .i64 fuel)] [] = some (.ret (.d (ranD C 0 (-1))), []) := by
  have hc := checkCode_run pinsN pins_ok ins vars cells hl
  have hcl := clone64_run C hC
  have ht : (C.map jD).take C.length = C.map jD := List.take_of_length_le (by simp)
  rw [run10 (by simp)]
  generalize okCode pinsN ins vars cells = ok at *
  simp at hc hcl
  cases ok
  · simp [Tryz.f10, hc, hcl, ht]
  · by_cases h1 : (C.length : Int) = vars
    · by_cases h2 : fuel < 0
      · simp [Tryz.f10, hc, hcl, ht, h1, h2]
      · by_cases h3 : 16384 < fuel
        · simp [Tryz.f10, hc, hcl, ht, h1, h2, h3]
        · rcases h with h | h | h | h
          · cases h
          · exact absurd h1 h
          · exact absurd h h2
          · exact absurd h h3
    · simp [Tryz.f10, hc, hcl, ht, h1]
/-- The state in which code begins. -/
def s0 (C : List Int) (cells : Nat) (fuel : Int) : Ms := ⟨C ++ List.replicate (cells - C.length) 0, [], 0, fuel, 0⟩
theorem s0_inv {l : List Ins} {r : Nat → Nat} {st : Nat → List Bool} {n : Nat} (hg : Good pinsN n l r st) {C : List Int} (hI : ∀ x ∈ C, I64 x) (hC : C.length ≤ n) (hn : n ≤ 8192) {fuel : Int} (hf : 0 ≤ fuel ∧ fuel ≤ 16384) : VInv l st n (s0 C n fuel) := by
  have h1 := hg.len
  refine ⟨⟨fun x hx => ?_, by simp [s0], by simp [s0]; omega, hf, by simp [s0]⟩, by simp [s0]; omega, by simp [s0], fun _ => ⟨by simp [s0]; omega, by simp [s0, hg.st0]⟩⟩
  unfold s0 at hx
  rcases List.mem_append.1 hx with hx | hx
  · exact hI x hx
  · rw [(List.mem_replicate.1 hx).2]; exact I64_0
theorem vrun_ok (ins : List Ins) (vars cells : Int) (C : List Int) (fuel : Int) (hok : okCode pinsN ins vars cells = true) (hv : (C.length : Int) = vars) (hf : 0 ≤ fuel ∧ fuel ≤ 16384) (hl : InsOk ins) (hI : ∀ x ∈ C, I64 x) (t : Ms)
    (ht : RunsF ins (s0 C cells.toNat fuel) t) (htv : t.cells.length = cells.toNat ∧ t.stk.length ≤ 64) :
    callT ctx 10 [.d (codeD ins vars cells), .d (.list (C.map jD)), .d (.int .i64 fuel)] [] = some (.ret (.d (ranD (t.cells.take vars.toNat) t.fault t.fuel)), []) := by
  obtain ⟨⟨c1, c2, c3, c4⟩, r, st, hg⟩ := good_of hok
  have hlen := hg.len
  obtain ⟨n, rfl⟩ : ∃ n : Nat, cells = (n : Int) := ⟨cells.toNat, by omega⟩
  have hCn : C.length ≤ n := by omega
  have hc := checkCode_run pinsN pins_ok ins vars n (by omega)
  rw [hok] at hc
  have hcl := clone64_run C (by omega)
  have hcl2 := clone64_run (t.cells.take C.length) (by simp; omega)
  have hinv := s0_inv (l := ins) hg hI hCn (by omega) hf
  have hloop := fun k R hx => run_loop ins vars n hg hl k R ht hinv hx [] 0 .dead (List.replicate 64 0) (by simp [s0])
  have htk : min C.length t.cells.length = C.length := by simp at htv; omega
  have htm : ((t.cells.take C.length).map jD).take C.length = (t.cells.take C.length).map jD := List.take_of_length_le (by simp; omega)
  have w1 : IntKind.i64.wrap ((n : Int) - (C.length : Int)) = ((n - C.length : Nat) : Int) := by rw [show (n : Int) - (C.length : Int) = ((n - C.length : Nat) : Int) by omega]; exact wrap_id (by unfold I64; omega)
  have g1 : (0 : Int) ≤ (n : Int) - (C.length : Int) := by omega
  rw [run10 (by simp)]
  subst hv
  rw [show (t.cells.take C.length).length = C.length by simp; omega] at hcl2
  have f1 : ¬ fuel < 0 := by omega
  have f2 : ¬ 16384 < fuel := by omega
  simp at hc hcl
  simp [Tryz.f10, s0] at hloop
  have g2 : ((n - C.length : Nat) : Int) ≤ 4611686018427387904 := by omega
  have g3 : (C.length + (n - C.length)) * 8 ≤ 140737488355328 ∧ C.length + (n - C.length) ≤ 4611686018427387904 := by omega
  simp [Tryz.f10, hc, hcl, f1, f2, w1, g1, g2, g3, drwK_end]
  refine hloop _ _ ?_
  intro X v c G hG
  have k1 : C.length ≤ t.cells.length := by omega
  have k2 : (C.length : Int) ≤ (t.cells.length : Int) := by omega
  have hpl : plainDs ((t.cells.map jD).take C.length) = true := by rw [← List.map_take]; exact plainDs_jD _
  simp at hcl2 htm
  simp [mB_len hG, mB_g3, mB_g70 hG, mB_g71 hG, mB_keys, mB_vws, mB_ups, k1, k2, hcl2, htm, hpl, drwK_end]
end Go.Am
end
section
namespace Go.Am
open Go Go.Proofs
theorem insOk_thread {l : List Ins} (hl : InsOk l) {i : Nat} {x : Ins} (hx : l[i]? = some x) (z : Int) : InsOk (l.set i { x with a := z }) := by
  intro y hy
  rcases List.mem_or_eq_of_mem_set hy with h | rfl
  · exact hl y h
  · exact hl x (List.mem_of_getElem? hx)
theorem insOk_woF {f : Ins → Ins} (hf : ∀ x, (f x).n = x.n) : ∀ {l : List Ins} {out : List Bool}, InsOk l → InsOk (woF f l out)
  | [], _, h => by simpa [woF] using h
  | x :: l, [], h => by intro y hy; simp [woF] at hy
  | x :: l, b :: o, h => by
    have := insOk_woF hf (l := l) (out := o) (fun y hy => h y (by simp [hy]))
    intro y hy
    cases b with
    | true => exact this y (by simpa [woF] using hy)
    | false =>
      simp [woF] at hy
      rcases hy with rfl | hy
      · rw [hf]; exact h x (by simp)
      · exact this y hy
theorem insOk_wo {l : List Ins} {out : List Bool} (h : InsOk l) : InsOk (wo l out) := insOk_woF (fun x => by unfold mvI; split <;> rfl) h
theorem insOk_tL {l : List Ins} {k : Nat} (h : InsOk l) : InsOk (tL l k) := by
  intro y hy
  obtain ⟨i, hi, rfl⟩ := List.getElem_of_mem hy
  have hg := tL_get (l := l) k i
  rw [List.getElem?_eq_getElem hi] at hg
  cases hx : l[i]? with
  | none => rw [hx] at hg; cases hg
  | some x =>
    rw [hx] at hg
    simp only [Option.map_some, Option.some.injEq] at hg
    rw [hg]
    split
    · exact I64_0
    · exact h x (List.mem_of_getElem? hx)
/-- What is made of code can be run and does the same. -/
def KeepsR (n : Nat) (l l' : List Ins) : Prop := (∃ r st, Good pinsN n l r st) → InsOk l → (∃ r st, Good pinsN n l' r st) ∧ InsOk l' ∧
  ∀ (C : List Int) (f : Int) (t : Ms), (∀ x ∈ C, I64 x) → C.length ≤ n → n ≤ 8192 → 0 ≤ f ∧ f ≤ 16384 → RunsF l (s0 C n f) t → ∃ t', RunsF l' (s0 C n f) t' ∧ Eqm t t'
theorem Eqm.trans {a b c : Ms} (h : Eqm a b) (k : Eqm b c) : Eqm a c := ⟨k.cells.trans h.cells, k.fault.trans h.fault, k.fuel.trans h.fuel⟩
theorem KeepsR.refl (n : Nat) (l : List Ins) : KeepsR n l l := fun hg hl => ⟨hg, hl, fun C f t _ _ _ _ h => ⟨t, h, ⟨rfl, rfl, rfl⟩⟩⟩
theorem KeepsR.trans {n : Nat} {a b c : List Ins} (h : KeepsR n a b) (k : KeepsR n b c) : KeepsR n a c := fun hg hl => by
  obtain ⟨h1, h2, h3⟩ := h hg hl
  obtain ⟨k1, k2, k3⟩ := k h1 h2
  refine ⟨k1, k2, fun C f t a1 a2 a3 a4 hr => ?_⟩
  obtain ⟨t1, b1, b2⟩ := h3 C f t a1 a2 a3 a4 hr
  obtain ⟨t2, c1, c2⟩ := k3 C f t1 a1 a2 a3 a4 b1
  exact ⟨t2, c1, b2.trans c2⟩
theorem keeps_thrAt {n : Nat} {l l1 : List Ins} {i : Nat} (h : thrAt l i = some l1) : KeepsR n l l1 := by
  rintro ⟨r, st, hg⟩ hl
  obtain ⟨x, y, hx, hj, hy, h9, hne, rfl⟩ := thrAt_some h
  exact ⟨⟨r, st, hg.thread hx hj hy h9⟩, insOk_thread hl hx _, fun C f t a1 a2 a3 a4 hr => sim_thread hg hl hx hj hy h9 hr (s0_inv hg a1 a2 a3 a4)⟩
theorem keeps_thrI {n i : Nat} {l l' : List Ins} {b : Bool} (h : ThrI i l l' b) : KeepsR n l l' := by
  induction h with
  | done l h => exact .refl n l
  | step l l1 l2 b h h2 ih => exact (keeps_thrAt h).trans ih
theorem keeps_thrL {n i : Nat} {l l' : List Ins} {b : Bool} (h : ThrL i l l' b) : KeepsR n l l' := by
  induction h with
  | fin i l h => exact .refl n l
  | step i l l1 l2 b1 b2 h h1 h2 ih => exact (keeps_thrI h1).trans ih
theorem keeps_round (n : Nat) (l : List Ins) (b : Bool) : KeepsR n l (roundF l b).1 := by
  unfold roundF
  split
  · rintro ⟨r, st, hg⟩ hl
    exact ⟨good_tested hg, insOk_wo (insOk_tL hl), fun C f t a1 a2 a3 a4 hr => sim_tested hg hl hr (s0_inv hg a1 a2 a3 a4) rfl⟩
  · split
    · rintro ⟨r, st, hg⟩ hl
      exact ⟨good_reach hg, insOk_wo hl, fun C f t a1 a2 a3 a4 hr => sim_reach hg hl hr (s0_inv hg a1 a2 a3 a4) rfl⟩
    · split
      · rintro ⟨r, st, hg⟩ hl
        exact ⟨good_next hg, insOk_wo hl, fun C f t a1 a2 a3 a4 hr => sim_next hg hl hr (s0_inv hg a1 a2 a3 a4) rfl⟩
      · exact .refl n l
theorem keeps_made {n : Nat} {l d : List Ins} (h : Made l d) : KeepsR n l d := by
  induction h with
  | last l l1 b d h h2 =>
    have := keeps_round n l1 b
    rw [h2] at this
    exact (keeps_thrL h).trans this
  | more l l1 b l2 d h h2 h3 ih =>
    have := keeps_round n l1 b
    rw [h2] at this
    exact ((keeps_thrL h).trans this).trans ih
theorem runs_inv {l : List Ins} {r : Nat → Nat} {st : Nat → List Bool} {n : Nat} (hg : Good pinsN n l r st) (hl : InsOk l) {s t : Ms} (h : RunsF l s t) : VInv l st n s → VInv l st n t := by
  induction h with
  | fault s h => exact id
  | fin s x h0 hx h => exact id
  | step s x t h0 hx h15 h' ih => exact fun hv => ih (step_inv hg hl hv h0 hx h15).2.2.1
end Go.Am
end
section
namespace Go.Am
open Go Go.Proofs
set_option maxRecDepth 20000
def jB (x : Ins) : Bool := decide (x.op = 9) || decide (x.op = 10)
theorem jB_iff {x : Ins} : jB x = true ↔ isJ x := by unfold jB isJ; simp
theorem jumps_run (x : Ins) : callT ctx 49 [.d (insD x)] [] = some (.ret (.d (.bool (jB x))), []) := by
  rw [run49 (by simp)]
  unfold jB
  by_cases e9 : x.op = 9
  · simp [Tryz.f49, drwK_end, e9]
  · simp [Tryz.f49, drwK_end, e9]
theorem set_insD (l : List Ins) (i : Nat) (x : Ins) : (l.map insD).set i (insD x) = (l.set i x).map insD := by rw [List.map_set]
theorem thr_inner (i : Nat) (k : Kt) (R : Ans) : ∀ (l l2 : List Ins) (b : Bool), ThrI i l l2 b → ∀ (changed : Bool), i < l.length → l.length ≤ 5000 → (∀ (j : Nat) (x : Ins), l[j]? = some x → isJ x → 0 ≤ x.a ∧ x.a.toNat < l.length) →
    (k (.exit 2) ⟨59, gl0, [(0, true, .vec 0 0 0 l.length), (3, true, .d (.bool (changed || b))), (4, true, .d (.int .i64 i)), (6, true, .d (.int .i64 l.length)), (7, true, .d (.int .i64 i)), (43, true, .d (.bool false))], [⟨0, 0, .vec 5 (l2.map insD)⟩]⟩ = R) →
    denK ctx 25 (.loop (Code.at (codeOf Tryz.f25) [1, 1, 0, 1, 0, 0, 1, 1, 0, 0, 1, 0, 0])) ⟨59, gl0, [(0, true, .vec 0 0 0 l.length), (3, true, .d (.bool changed)), (4, true, .d (.int .i64 i)), (6, true, .d (.int .i64 l.length)), (7, true, .d (.int .i64 i))], [⟨0, 0, .vec 5 (l.map insD)⟩]⟩ k = R := by
  intro l l2 b h
  induction h with
  | done l h =>
    intro changed hi hl ht hx
    have hx1 : l[i]? = some l[i] := by simp [hi]
    unfold thrAt at h
    rw [hx1] at h
    simp only at h
    have hj := jumps_run l[i]
    rw [denK_loop]
    by_cases hjj : isJ l[i]
    · have hjb := jB_iff.2 hjj
      obtain ⟨a1, a2⟩ := ht i _ hx1 hjj
      have hy1 : l[l[i].a.toNat]? = some l[l[i].a.toNat] := by simp [a2]
      rw [if_pos hjj, hy1] at h
      simp only at h
      have h9 : l[l[i].a.toNat].op = 9 → l[i].a = l[l[i].a.toNat].a := by
        intro h9
        exact Classical.byContradiction fun hc => by rw [if_pos ⟨h9, hc⟩] at h; cases h
      simp at hx hj
      by_cases e : l[l[i].a.toNat].op = 9
      · have e2 := h9 e
        simp [Tryz.f25, hi, hj, hjb, drwK_end, hx, a1, a2, e, ← e2]
      · simp [Tryz.f25, hi, hj, hjb, drwK_end, hx, a1, a2, e]
    · have hjb : jB l[i] = false := by rw [← Bool.not_eq_true]; exact fun hc => hjj (jB_iff.1 hc)
      simp at hx hj
      simp [Tryz.f25, hi, hj, hjb, drwK_end, hx]
  | step l l1 l2 b h h2 ih =>
    intro changed hi hl ht hx
    obtain ⟨x, y, hx1, hjj, hy, h9, hne, rfl⟩ := thrAt_some h
    obtain ⟨a1, a2⟩ := ht i _ hx1 hjj
    obtain ⟨b1, b2⟩ := ht _ y hy (.inl h9)
    have hxe : l[i] = x := by simpa [hi] using hx1
    have hye : l[x.a.toNat] = y := by simpa [a2] using hy
    have hj := jumps_run x
    have hjb := jB_iff.2 hjj
    have ih := ih true (by simpa using hi) (by simpa using hl) (fun j z hz hzj => by
      rw [List.length_set]
      rw [set_get] at hz
      split at hz
      · cases hz
        exact ⟨b1, b2⟩
      · exact ht j z hz hzj) (by simpa using hx)
    have hset := set_insD l i { x with a := y.a }
    simp at ih hj hset
    rw [denK_loop]
    simp [Tryz.f25] at ih ⊢
    simp [hi, hj, hjb, drwK_end, a1, a2, hxe, hye, h9, hne, hset, ih]
end Go.Am
end
section
namespace Go.Am
open Go Go.Proofs
set_option maxRecDepth 20000
theorem thrI_good {pins cells r st i l l2 b} (h : ThrI i l l2 b) : Good pins cells l r st → Good pins cells l2 r st ∧ l2.length = l.length := by
  induction h with
  | done l h => intro hg; exact ⟨hg, rfl⟩
  | step l l1 l2 b h h2 ih =>
    intro hg
    obtain ⟨x, y, hx1, hjj, hy, h9, hne, rfl⟩ := thrAt_some h
    have := ih (hg.thread hx1 hjj hy h9)
    exact ⟨this.1, by rw [this.2]; simp⟩
theorem thrL_good {pins cells r st i l l2 b} (h : ThrL i l l2 b) : Good pins cells l r st → Good pins cells l2 r st ∧ l2.length = l.length := by
  induction h with
  | fin i l h => intro hg; exact ⟨hg, rfl⟩
  | step i l l1 l2 b1 b2 h h1 h2 ih =>
    intro hg
    obtain ⟨g1, e1⟩ := thrI_good h1 hg
    obtain ⟨g2, e2⟩ := ih g1
    exact ⟨g2, by omega⟩
theorem thr_outer {pins cells r st} (k : Kt) (R : Ans) (i : Nat) (l l2 : List Ins) (b : Bool) (h : ThrL i l l2 b) : Good pins cells l r st → i ≤ l.length → ∀ (changed : Bool),
    (k (.exit 0) ⟨59, gl0, [(0, true, .vec 0 0 0 l.length), (3, true, .d (.bool (changed || b))), (6, true, .d (.int .i64 l.length)), (7, true, .d (.int .i64 l.length)), (8, true, .d (.bool false))], [⟨0, 0, .vec 5 (l2.map insD)⟩]⟩ = R) →
    denK ctx 25 (.loop (Code.at (codeOf Tryz.f25) [1, 1, 0, 1, 0, 0])) ⟨59, gl0, [(0, true, .vec 0 0 0 l.length), (3, true, .d (.bool changed)), (6, true, .d (.int .i64 l.length)), (7, true, .d (.int .i64 i))], [⟨0, 0, .vec 5 (l.map insD)⟩]⟩ k = R := by
  induction h with
  | fin i l h =>
    intro hg hi changed hx
    have e : i = l.length := by omega
    subst e
    simp at hx
    rw [denK_loop]
    simp [Tryz.f25, hx]
  | step i l l1 l2 b1 b2 h h1 h2 ih =>
    intro hg hi changed hx
    obtain ⟨g1, e1⟩ := thrI_good h1 hg
    have hl := hg.len
    have hin := fun k R => thr_inner i k R l l1 b1 h1 changed h (by omega) (fun j x hx hj => hg.tgt hx hj)
    have ih := ih g1 (by omega) (changed || b1) (by rw [e1, Bool.or_assoc]; exact hx)
    rw [e1] at ih
    have w1 : IntKind.i64.wrap ((i : Int) + 1) = (i : Int) + 1 := wrap_id (by unfold I64; omega)
    rw [denK_loop]
    simp [Tryz.f25] at ih hin ⊢
    simp [h]
    rw [hin]
    simp [w1, ih]
theorem threaded_run {pins cells r st} (l l2 : List Ins) (b : Bool) (h : ThrL 0 l l2 b) (hg : Good pins cells l r st) :
    callT ctx 25 [.vec 0 0 0 l.length] [.vec 5 (l.map insD)] = some (.ret (.d (.bool b)), [(0, .vec 5 (l2.map insD))]) := by
  have hout := fun k R => thr_outer k R 0 l l2 b h hg (by omega) false
  rw [run25 (by simp)]
  simp [Tryz.f25] at hout
  simp [Tryz.f25]
  rw [hout]
  simp
end Go.Am
end
section
namespace Go.Am
open Go Go.Proofs
set_option maxRecDepth 20000
theorem tL_succ (l : List Ins) (k : Nat) : tL l (k + 1) = if isP l k = true ∧ nAt l k = 0 then (tL l k).set k ⟨9, aAt l (k + 1), 0, 0, 0⟩ else tL l k := by
  apply List.ext_getElem?
  intro i
  have hk : k < l.length ↔ k < (tL l k).length := by rw [tL_len]
  by_cases e : i = k
  · subst e
    cases hx : l[i]? with
    | none =>
      have : l.length ≤ i := by simpa using hx
      split
      · rw [List.getElem?_set, if_pos rfl, tL_get, hx, if_neg (by rw [tL_len]; omega)]; rfl
      · rw [tL_get, tL_get, hx]; rfl
    | some x =>
      have hi := (List.getElem?_eq_some_iff.1 hx).1
      have hn : nAt l i = x.n := by unfold nAt; rw [hx]; rfl
      rw [tL_get, hx, hn]
      by_cases hp : isP l i = true ∧ x.n = 0
      · rw [if_pos hp, List.getElem?_set, if_pos rfl, if_pos (by rw [tL_len]; exact hi)]
        simp [hp.1, hp.2]
      · rw [if_neg hp, tL_get, hx]
        simp
        intro h1 h2
        exact absurd ⟨h1, h2⟩ hp
  · have e1 : (decide (i < k + 1)) = decide (i < k) := by simp; omega
    have e2 : (tL l (k + 1))[i]? = (tL l k)[i]? := by rw [tL_get, tL_get, e1]
    rw [e2]
    split
    · rw [List.getElem?_set, if_neg (fun h => e h.symm)]
    · rfl
theorem tO_succ (l : List Ins) (k : Nat) : tO l (k + 1) = if isP l k = true then (if nAt l k = 1 then ((tO l k).set (k + 1) true).set k true else (tO l k).set (k + 1) true) else tO l k := by
  apply List.ext_getElem?
  intro i
  by_cases hi : i < l.length
  · rw [tO_get hi]
    have hg := tO_get (k := k) hi
    have hlen := tO_len (l := l) k
    by_cases hp : isP l k = true
    · rw [if_pos hp]
      by_cases hn : nAt l k = 1
      · rw [if_pos hn, List.getElem?_set, List.getElem?_set]
        by_cases e : k = i
        · subst e
          simp [hlen, hi, hp, hn]
        · rw [if_neg e]
          by_cases e2 : k + 1 = i
          · subst e2
            simp [hlen, hi, hp]
          · rw [if_neg e2, hg]
            have a1 : decide (i < k + 1) = decide (i < k) := by simp; omega
            have a2 : (decide (1 ≤ i) && decide (i - 1 < k + 1)) = (decide (1 ≤ i) && decide (i - 1 < k)) := by
              by_cases e3 : 1 ≤ i
              · simp [e3]; omega
              · simp [e3]
            rw [a1, a2]
      · rw [if_neg hn, List.getElem?_set]
        by_cases e2 : k + 1 = i
        · subst e2
          simp [hlen, hi, hp]
        · rw [if_neg e2, hg]
          have a2 : (decide (1 ≤ i) && decide (i - 1 < k + 1)) = (decide (1 ≤ i) && decide (i - 1 < k)) := by
            by_cases e3 : 1 ≤ i
            · simp [e3]; omega
            · simp [e3]
          rw [a2]
          by_cases e : k = i
          · subst e
            simp [hn]
          · have a1 : decide (i < k + 1) = decide (i < k) := by simp; omega
            rw [a1]
    · rw [if_neg hp, hg]
      have hp : isP l k = false := by simpa using hp
      have b1 : (decide (i < k + 1) && isP l i) = (decide (i < k) && isP l i) := by
        by_cases e : i = k
        · subst e; simp [hp]
        · have a1 : decide (i < k + 1) = decide (i < k) := by simp; omega
          rw [a1]
      have b2 : (decide (1 ≤ i) && decide (i - 1 < k + 1) && isP l (i - 1)) = (decide (1 ≤ i) && decide (i - 1 < k) && isP l (i - 1)) := by
        by_cases e : i - 1 = k
        · rw [e]; simp [hp]
        · have a1 : decide (i - 1 < k + 1) = decide (i - 1 < k) := by simp; omega
          rw [a1]
      rw [b1, b2]
  · have h1 : (tO l (k + 1))[i]? = none := by rw [List.getElem?_eq_none_iff, tO_len]; omega
    rw [h1, eq_comm, List.getElem?_eq_none_iff]
    split
    · split <;> simp [tO_len] <;> omega
    · rw [tO_len]; omega
theorem isP_last (l : List Ins) (k : Nat) (h : l.length ≤ k + 1) : isP l k = false := by
  cases hp : isP l k with
  | false => rfl
  | true =>
    obtain ⟨_, y, _, hy, _⟩ := isP_iff.1 hp
    have := (List.getElem?_eq_some_iff.1 hy).1
    omega
theorem tst_loop (l : List Ins) (hl : l.length ≤ 5000) (k : Kt) (R : Ans)
    (hx : k (.exit 0) ⟨66, gl0, [(0, true, .vec 0 0 0 l.length), (1, true, .vec 1 0 0 l.length), (4, true, .d (.int .i64 ((l.length : Int) - 1))), (9, true, .d (.bool false))], [⟨0, 0, .vec 5 ((tL l l.length).map insD)⟩, ⟨1, 0, .vec 1 (bD (tO l l.length))⟩]⟩ = R) :
    ∀ (m i : Nat), i + 1 + m = l.length → denK ctx 26 (.loop (Code.at (codeOf Tryz.f26) [1, 0, 0])) ⟨66, gl0, [(0, true, .vec 0 0 0 l.length), (1, true, .vec 1 0 0 l.length), (4, true, .d (.int .i64 i))], [⟨0, 0, .vec 5 ((tL l i).map insD)⟩, ⟨1, 0, .vec 1 (bD (tO l i))⟩]⟩ k = R
  | 0, i, hi => by
    have e1 : tL l l.length = tL l i := by rw [show l.length = i + 1 by omega, tL_succ, if_neg]; rw [isP_last l i (by omega)]; simp
    have e2 : tO l l.length = tO l i := by rw [show l.length = i + 1 by omega, tO_succ, if_neg]; rw [isP_last l i (by omega)]; simp
    rw [e1, e2, show (l.length : Int) - 1 = i by omega] at hx
    have w1 : IntKind.i64.wrap ((i : Int) + 1) = (i : Int) + 1 := wrap_id (by unfold I64; omega)
    have h1 : ¬ ((i : Int) + 1 < l.length) := by omega
    rw [denK_loop]
    simp at hx
    simp [Tryz.f26, w1, h1, hx]
  | m + 1, i, hi => by
    have ih := tst_loop l hl k R hx m (i + 1) (by omega)
    have w1 : IntKind.i64.wrap ((i : Int) + 1) = (i : Int) + 1 := wrap_id (by unfold I64; omega)
    have h1 : ((i : Int) + 1 < l.length) := by omega
    have hi0 : i < l.length := by omega
    have hi1 : i + 1 < l.length := by omega
    have hL := tL_len (l := l) i
    have hO := tO_len (l := l) i
    have hxi : l[i]? = some l[i] := by simp [hi0]
    have hyi : l[i + 1]? = some l[i + 1] := by simp [hi1]
    have gx : (tL l i)[i]? = some l[i] := by rw [tL_get, hxi]; simp
    have gy : (tL l i)[i + 1]? = some l[i + 1] := by rw [tL_get, hyi]; simp; intro h; omega
    have hn : nAt l i = l[i].n := by unfold nAt; rw [hxi]; rfl
    have ha : aAt l (i + 1) = l[i + 1].a := by unfold aAt; rw [hyi]; rfl
    rw [tL_succ, tO_succ, hn, ha] at ih
    have hp : isP l i = (decide (l[i].op = 1) && decide (l[i + 1].op = 10) && (decide (l[i].n = 0) || decide (l[i].n = 1))) := by unfold isP; rw [hxi, hyi]
    rw [hp] at ih
    generalize tL l i = L at *
    generalize tO l i = O at *
    have hLi : i < L.length := by omega
    have hLi1 : i + 1 < L.length := by omega
    have hOi : i < O.length := by omega
    have hOi1 : i + 1 < O.length := by omega
    have gx : L[i] = l[i] := by simpa [hLi] using gx
    have gy : L[i + 1] = l[i + 1] := by simpa [hLi1] using gy
    generalize l[i] = x at *
    generalize l[i + 1] = y at *
    have hset := set_insD L i ⟨9, y.a, 0, 0, 0⟩
    have hs1 : (bD O).set (i + 1) (.bool true) = bD (O.set (i + 1) true) := bD_set O (i + 1) true
    have hs2 : (bD (O.set (i + 1) true)).set i (.bool true) = bD ((O.set (i + 1) true).set i true) := bD_set _ i true
    have h2 : 0 ≤ (i : Int) + 1 := by omega
    have h3 : ¬ ((i : Int) + 1 < 0) := by omega
    rw [denK_loop]
    simp at hset hs1 hs2
    by_cases c1 : x.op = 1
    · by_cases c2 : y.op = 10
      · by_cases c3 : x.n = 0
        · simp [Tryz.f26, c1, c2, c3] at ih ⊢
          simp [hi0, hi1, h1, h2, h3, w1, c1, c2, c3, gx, gy, hL, hO, hs1, hset, ih]
        · by_cases c4 : x.n = 1
          · simp [Tryz.f26, c1, c2, c3, c4] at ih ⊢
            simp [hi0, hi1, h1, h2, h3, w1, c1, c2, c3, c4, gx, gy, hL, hO, hs1, hs2, ih]
          · simp [Tryz.f26, c1, c2, c3, c4] at ih ⊢
            simp [hi0, hi1, h1, h2, h3, w1, c1, c2, c3, c4, gx, gy, hL, hO, ih]
      · simp [Tryz.f26, c1, c2] at ih ⊢
        simp [hi0, hi1, h1, h2, h3, w1, c1, c2, gx, gy, hL, hO, ih]
    · simp [Tryz.f26, c1] at ih ⊢
      simp [hi0, hi1, h1, h2, h3, w1, c1, gx, gy, hL, hO, ih]
theorem tL_zero (l : List Ins) : tL l 0 = l := by
  apply List.ext_getElem?
  intro i
  rw [tL_get]
  simp
theorem tO_zero (l : List Ins) : tO l 0 = List.replicate l.length false := by
  apply List.ext_getElem?
  intro i
  by_cases hi : i < l.length
  · rw [tO_get hi, List.getElem?_replicate, if_pos hi]; simp
  · rw [List.getElem?_eq_none (by rw [tO_len]; omega), List.getElem?_eq_none (by simp; omega)]
theorem tested_run (l : List Ins) (h1 : 1 ≤ l.length) (hl : l.length ≤ 5000) : callT ctx 26 [.vec 0 0 0 l.length, .vec 1 0 0 l.length] [.vec 5 (l.map insD), .vec 1 (bD (List.replicate l.length false))] = some (.ret (.tup []), [(0, .vec 5 ((tL l l.length).map insD)), (0, .vec 1 (bD (tO l l.length)))]) := by
  have h := fun k R hR => tst_loop l hl k R hR (l.length - 1) 0 (by omega)
  rw [tL_zero, tO_zero] at h
  rw [run26 (by simp)]
  simp [Tryz.f26] at h
  simp [Tryz.f26]
  rw [h]
  simp
end Go.Am
end
section
namespace Go.Am
open Go Go.Proofs
set_option maxRecDepth 20000
open Classical in
noncomputable def rSeen (l : List Ins) : List Bool := (List.range l.length).map fun i => decide (Reach l i)
@[simp] def wD (n : Nat) : D := .int .i64 (n : Int)
structure RInv (l : List Ins) (S : List Bool) (work : List Nat) : Prop where
  len : S.length = l.length
  wr : ∀ w ∈ work, Reach l w
  sr : ∀ i, S[i]? = some true → Reach l i
  cl : ∀ i, S[i]? = some true → ∀ j ∈ nextI l i, S[j]? = some true ∨ j ∈ work
  z : S[0]? = some true ∨ 0 ∈ work
theorem RInv.fin {l S} (h : RInv l S []) : S = rSeen l := by
  classical
  have hr : ∀ i, Reach l i → S[i]? = some true := by
    intro i hi
    induction hi with
    | zero => rcases h.z with h | h; exact h; simp at h
    | step _ hj ih => rcases h.cl _ ih _ hj with h | h; exact h; simp at h
  apply List.ext_getElem?
  intro i
  unfold rSeen
  by_cases hi : i < l.length
  · rw [get_map_range _ _ _ hi]
    have hs : i < S.length := by rw [h.len]; exact hi
    by_cases hrr : Reach l i
    · rw [hr i hrr]; simp [hrr]
    · rw [List.getElem?_eq_getElem hs]
      cases hq : S[i] with
      | false => simp [hrr]
      | true => exact absurd (h.sr i (by rw [List.getElem?_eq_getElem hs, hq])) hrr
  · rw [List.getElem?_eq_none (by rw [h.len]; omega), List.getElem?_eq_none (by simp; omega)]
theorem RInv.pop {l S w a} (h : RInv l S (w ++ [a])) (hs : S[a]? = some true) : RInv l S w := by
  refine ⟨h.len, fun x hx => h.wr x (by simp [hx]), h.sr, fun i hi j hj => ?_, ?_⟩
  · rcases h.cl i hi j hj with h | h
    · exact .inl h
    · rcases List.mem_append.1 h with h | h
      · exact .inr h
      · simp at h; subst h; exact .inl hs
  · rcases h.z with h | h
    · exact .inl h
    · rcases List.mem_append.1 h with h | h
      · exact .inr h
      · simp at h; subst h; exact .inl hs
theorem RInv.push {l S w a} (h : RInv l S (w ++ [a])) (ha : a < l.length) (w2 : List Nat) (h2 : ∀ j, j ∈ w2 ↔ j ∈ nextI l a) : RInv l (S.set a true) (w ++ w2) := by
  have hra := h.wr a (by simp)
  have hget : ∀ i, (S.set a true)[i]? = if a = i then some true else S[i]? := by
    intro i
    rw [List.getElem?_set]
    by_cases e : a = i
    · simp [e, h.len]; omega
    · simp [e]
  refine ⟨by simpa using h.len, fun x hx => ?_, fun i hi => ?_, fun i hi j hj => ?_, ?_⟩
  · rcases List.mem_append.1 hx with hx | hx
    · exact h.wr x (by simp [hx])
    · exact .step hra ((h2 x).1 hx)
  · rw [hget] at hi
    split at hi
    · rename_i e; subst e; exact hra
    · exact h.sr i hi
  · rw [hget] at hi
    rw [hget]
    split at hi
    · rename_i e
      subst e
      exact .inr (by simp [(h2 j).2 hj])
    · by_cases e : a = j
      · simp [e]
      · rw [if_neg e]
        rcases h.cl i hi j hj with h | h
        · exact .inl h
        · rcases List.mem_append.1 h with h | h
          · exact .inr (by simp [h])
          · simp at h; exact absurd h.symm e
  · rw [hget]
    by_cases e : a = 0
    · simp [e]
    · rw [if_neg e]
      rcases h.z with h | h
      · exact .inl h
      · rcases List.mem_append.1 h with h | h
        · exact .inr (by simp [h])
        · simp at h; exact absurd h.symm e
def leftN (S : List Bool) : Nat := S.countP (!·)
theorem leftN_set : ∀ (S : List Bool) (a : Nat), S[a]? = some false → leftN (S.set a true) + 1 = leftN S
  | [], a, h => by simp at h
  | b :: S, 0, h => by simp at h; subst h; simp [leftN]
  | b :: S, a + 1, h => by
    have := leftN_set S a (by simpa using h)
    unfold leftN at *
    cases b <;> simp <;> omega
end Go.Am
end
section
namespace Go.Am
open Go Go.Proofs
set_option maxRecDepth 20000
set_option maxHeartbeats 4000000 in
theorem rea_loop {pins cells r st} (l : List Ins) (hg : Good pins cells l r st) (k : Kt) (R : Ans)
    (hx : ∀ v rows, k (.exit 0) ⟨64, gl0, [(0, true, .vec 0 0 0 l.length), (3, true, .vec 500 1 0 l.length), (4, true, .vec 550 v 0 0), (12, true, .d (.bool false))], [⟨0, 0, .vec 5 (l.map insD)⟩, ⟨500, 1, .vec 1 (bD (rSeen l))⟩, ⟨550, v, .vec 1 rows⟩]⟩ = R) :
    ∀ (m : Nat) (S : List Bool) (work : List Nat), 2 * leftN S + work.length ≤ m → m ≤ 20000 → RInv l S work → ∀ (v : Nat) (rows : List D) (X : Env), X = [] ∨ (∃ a, X = [(5, true, .d (.int .i64 a)), (27, true, .d (.bool true))]) ∨ (∃ a, X = [(5, true, .d (.int .i64 a)), (57, true, .d (.bool false))]) →
      rows.take work.length = work.map wD → work.length ≤ rows.length →
    denK ctx 29 (.loop (Code.at (codeOf Tryz.f29) [1, 1, 1, 0, 0, 0])) ⟨64, gl0, (0, true, .vec 0 0 0 l.length) :: (3, true, .vec 500 1 0 l.length) :: (4, true, .vec 550 v 0 work.length) :: X, [⟨0, 0, .vec 5 (l.map insD)⟩, ⟨500, 1, .vec 1 (bD S)⟩, ⟨550, v, .vec 1 rows⟩]⟩ k = R := by
  intro m
  induction m with
  | zero =>
    intro S work hm _ hI v rows X hX hr hlen
    have : work = [] := List.eq_nil_of_length_eq_zero (by omega)
    subst this
    rw [← hI.fin] at hx
    have hx := hx v rows
    rw [denK_loop]
    simp at hx
    rcases hX with rfl | ⟨a, rfl⟩ | ⟨a, rfl⟩ <;> simp [Tryz.f29, hx]
  | succ m ih =>
    intro S work hm hm2 hI v rows X hX hr hlen
    rcases List.eq_nil_or_concat work with rfl | ⟨w, a, rfl⟩
    · rw [← hI.fin] at hx
      have hx := hx v rows
      rw [denK_loop]
      simp at hx
      rcases hX with rfl | ⟨a, rfl⟩ | ⟨a, rfl⟩ <;> simp [Tryz.f29, hx]
    · rw [List.concat_eq_append] at *
      have hl := hg.len
      have ha : a < l.length := reach_in hg (hI.wr a (by simp))
      have hSl := hI.len
      have haS : a < S.length := by omega
      have hxa : l[a]? = some l[a] := by simp [ha]
      have hlr : w.length < rows.length := by simp at hlen; omega
      have hra : rows[w.length] = wD a := by
        have := congrArg (·[w.length]?) hr
        simp [List.getElem?_take] at this
        simpa [hlr] using this
      have hrw : rows.take w.length = w.map wD := by
        have := congrArg (·.take w.length) hr
        simpa [List.take_take, List.take_append_of_le_length] using this
      have hwl : w.length ≤ 20000 := by simp at hm; omega
      have wl : IntKind.i64.wrap (w.length : Int) = w.length := wrap_id (by unfold I64; omega)
      have wl1 : IntKind.i64.wrap ((w.length : Int) + 1 - 1) = w.length := by rw [show (w.length : Int) + 1 - 1 = w.length by omega]; exact wl
      have wa : IntKind.i64.wrap ((a : Int) + 1) = (a : Int) + 1 := wrap_id (by unfold I64; omega)
      have hp : (0 : Int) < (w.length : Int) + 1 := by omega
      cases hq : S[a]
      rotate_left
      · have hI2 := hI.pop (by rw [List.getElem?_eq_getElem haS, hq])
        have ih := ih S w (by simp at hm; omega) (by omega) hI2 v rows [(5, true, .d (.int .i64 a)), (27, true, .d (.bool true))] (.inr (.inl ⟨a, rfl⟩)) hrw (by omega)
        rw [denK_loop]
        simp [Tryz.f29] at ih
        rcases hX with rfl | ⟨a, rfl⟩ | ⟨a, rfl⟩ <;> simp [Tryz.f29, wl, wl1, hp, hlr, hra, haS, hSl, ha, hq, ih]
      · have hsf : S[a]? = some false := by rw [List.getElem?_eq_getElem haS, hq]
        have hls := leftN_set S a hsf
        have hset : (bD S).set a (.bool true) = bD (S.set a true) := bD_set S a true
        have hnx : nextI l a = if l[a].op = 9 then [l[a].a.toNat] else if l[a].op = 10 then [a + 1, l[a].a.toNat] else if l[a].op = 15 then [] else [a + 1] := by unfold nextI; rw [hxa]
        have hj := jumps_run l[a]
        have g1 : w.length ≤ rows.length := by omega
        have g2 : (w.length + 1) * 8 ≤ 140737488355328 ∧ w.length ≤ 4611686018427387903 := by omega
        have g3 : (w.length + 1 + 1) * 8 ≤ 140737488355328 ∧ w.length ≤ 4611686018427387902 := by omega
        simp at hset hj
        by_cases e9 : l[a].op = 9
        · obtain ⟨a1, a2⟩ := hg.tgt hxa (.inl e9)
          have hI2 := hI.push ha [l[a].a.toNat] (by rw [hnx, if_pos e9]; simp)
          have hD : D.int .i64 l[a].a = wD l[a].a.toNat := by simp; omega
          have ih := ih _ _ (by simp at hm ⊢; omega) (by omega) hI2 (v + 1) (w.map wD ++ [.int .i64 l[a].a]) [(5, true, .d (.int .i64 a)), (57, true, .d (.bool false))] (.inr (.inr ⟨a, rfl⟩)) (by rw [hD]; simp) (by simp)
          have hjb : jB l[a] = true := by simp [jB, e9]
          rw [denK_loop]
          rw [hjb] at hj
          simp [Tryz.f29] at ih
          simp [e9] at hj
          rcases hX with rfl | ⟨a, rfl⟩ | ⟨a, rfl⟩ <;> simp [Tryz.f29, wl, wl1, hp, hlr, hra, hrw, haS, hSl, ha, hq, hset, hj, g1, g2, g3, drwK_end, e9, ih]
        · by_cases e10 : l[a].op = 10
          · obtain ⟨a1, a2⟩ := hg.tgt hxa (.inr e10)
            have hI2 := hI.push ha [l[a].a.toNat, a + 1] (by intro j; rw [hnx, if_neg e9, if_pos e10]; simp; exact or_comm)
            have hD : D.int .i64 l[a].a = wD l[a].a.toNat := by simp; omega
            have ih := ih _ _ (by simp at hm ⊢; omega) (by omega) hI2 (v + 2) (w.map wD ++ [.int .i64 l[a].a, .int .i64 ((a : Int) + 1)]) [] (.inl rfl) (by rw [hD]; simp) (by simp)
            have hjb : jB l[a] = true := by simp [jB, e10]
            rw [denK_loop]
            rw [hjb] at hj
            simp [Tryz.f29] at ih
            simp [e10] at hj
            rcases hX with rfl | ⟨a, rfl⟩ | ⟨a, rfl⟩ <;> simp [Tryz.f29, wl, wl1, wa, hp, hlr, hra, hrw, haS, hSl, ha, hq, hset, hj, g1, g2, g3, drwK_end, e10, ih]
          · have hjb : jB l[a] = false := by simp [jB, e9, e10]
            by_cases e15 : l[a].op = 15
            · have hI2 := hI.push ha [] (by rw [hnx, if_neg e9, if_neg e10, if_pos e15]; simp)
              have ih := ih _ _ (by simp at hm ⊢; omega) (by omega) hI2 v rows [(5, true, .d (.int .i64 a)), (57, true, .d (.bool false))] (.inr (.inr ⟨a, rfl⟩)) (by simpa using hrw) (by simp; omega)
              rw [denK_loop]
              rw [hjb] at hj
              simp [Tryz.f29] at ih
              simp [e15] at hj
              rcases hX with rfl | ⟨a, rfl⟩ | ⟨a, rfl⟩ <;> simp [Tryz.f29, wl, wl1, wa, hp, hlr, hra, hrw, haS, hSl, ha, hq, hset, hj, g1, g2, g3, drwK_end, e15, ih]
            · have hI2 := hI.push ha [a + 1] (by rw [hnx, if_neg e9, if_neg e10, if_neg e15]; simp)
              have ih := ih _ _ (by simp at hm ⊢; omega) (by omega) hI2 (v + 1) (w.map wD ++ [.int .i64 ((a : Int) + 1)]) [] (.inl rfl) (by simp) (by simp)
              rw [denK_loop]
              rw [hjb] at hj
              simp [Tryz.f29] at ih
              rcases hX with rfl | ⟨a, rfl⟩ | ⟨a, rfl⟩ <;> simp [Tryz.f29, wl, wl1, wa, hp, hlr, hra, hrw, haS, hSl, ha, hq, hset, hj, g1, g2, g3, drwK_end, e9, e10, e15, ih]
end Go.Am
end
section
namespace Go.Am
open Go Go.Proofs
set_option maxRecDepth 20000
theorem reached_run {pins cells r st} (l : List Ins) (hg : Good pins cells l r st) : callT ctx 29 [.vec 0 0 0 l.length] [.vec 5 (l.map insD)] = some (.ret (.d (.list (bD (rSeen l)))), [(0, .vec 5 (l.map insD))]) := by
  have hl := hg.len
  have hI : RInv l (List.replicate l.length false) [0] := by
    refine ⟨by simp, fun w hw => by simp at hw; subst hw; exact .zero, fun i hi => ?_, fun i hi => ?_, .inr (by simp)⟩
    · rw [List.getElem?_replicate] at hi; split at hi <;> simp at hi
    · rw [List.getElem?_replicate] at hi; split at hi <;> simp at hi
  have hlf : leftN (List.replicate l.length false) = l.length := by simp [leftN, List.countP_replicate]
  have h := fun k R hx => rea_loop l hg k R hx 10000 _ [0] (by rw [hlf]; simp; omega) (by omega) hI 1 [wD 0] [] (.inl rfl) (by simp) (by simp)
  have g1 : l.length ≤ 140737488355328 ∧ l.length ≤ 4611686018427387904 := by omega
  have g2 : (l.length : Int) ≤ 140737488355328 ∧ (l.length : Int) ≤ 4611686018427387904 := by omega
  have g3 : (rSeen l).length = l.length := by simp [rSeen]
  rw [run29 (by simp)]
  simp [Tryz.f29] at h
  simp [Tryz.f29, g1, g2]
  rw [h _ (some (.ret (.d (.list (bD (rSeen l)))), [(0, .vec 5 (l.map insD))]))]
  · simp
  · simp [g3]
end Go.Am
end

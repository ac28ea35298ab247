/-
  Texts of one proof, one behind the other.
-/
import Derived.Test.YtmlboljlgaaebaaDoorP6
import Derived.ProofKit
import Derived.ChangeArms
import Derived.ChangeCalls
import Derived.LaidLaws
import Derived.SizedLaws
import Derived.Handed
import Derived.Shelf.Vars
set_option linter.all false
section
namespace Go.Am
open Go Go.Proofs
set_option maxRecDepth 20000
theorem rone_run (b : Bool) : callT ctx 61 [.d (.bool b)] [] = some (.ret (.d (.int .i64 (oneZ b))), []) := by
  rw [run61 (by simp)]
  cases b <;> simp [Tryd.f61, oneZ]
theorem refOp1_run (op a : Int) (t : Bool) (ha : I64 a) : callT ctx 46 [.d (.int .i64 op), .d (.list [.int .i64 a]), .d (.bool t)] [] = some (.ret (opZ (op1 op a t)), []) := by
  rw [run46 (by simp)]
  have hs := rSub_run 0 a (by unfold I64; omega) ha
  unfold op1
  generalize fitZ (0 - a) = p at *
  try simp at hs
  cases t
  · simp [Tryd.f46]
    rw [denK_loop]
    simp
    rw [denK_loop]
    by_cases h6 : op = 6
    · cases hp : p.2 <;> simp [h6, hs, hp, fitR]
    · simp [h6, noOp]
  · by_cases h1 : a < 0
    · have h3 : ¬ a = 0 := by omega
      have h4 : ¬ a = 1 := by omega
      simp [Tryd.f46]
      rw [denK_loop]
      simp [h1, h3, h4, noOp]
    · by_cases h2 : 1 < a
      · have h3 : ¬ a = 0 := by omega
        have h4 : ¬ a = 1 := by omega
        simp [Tryd.f46]
        rw [denK_loop]
        simp [h1, h2, h3, h4, noOp]
      · have h5 : a = 0 ∨ a = 1 := by omega
        rcases h5 with rfl | rfl <;>
          (simp [Tryd.f46]
           rw [denK_loop]
           simp
           rw [denK_loop]
           by_cases h7 : op = 7
           · simp [h7, rone_run]
           · simp [h7, noOp])
set_option maxHeartbeats 4000000 in
theorem refOp2_run (op a b : Int) (t : Bool) (ha : I64 a) (hb : I64 b) : callT ctx 46 [.d (.int .i64 op), .d (.list [.int .i64 a, .int .i64 b]), .d (.bool t)] [] = some (.ret (opZ (op2 op a b t)), []) := by
  rw [run46 (by simp)]
  have q1 := rAdd_run a b ha hb
  have q2 := rSub_run a b ha hb
  have q3 := rMul_run a b ha hb
  have q4 := rDiv_run a b ha hb
  have q5 := rMod_run a b ha hb
  unfold op2
  cases t
  · unfold opN
    generalize fitZ (a + b) = f1 at *
    generalize fitZ (a - b) = f2 at *
    generalize fitZ (a * b) = f3 at *
    generalize divZ a b = f4 at *
    generalize modZ a b = f5 at *
    simp at q1 q2 q3 q4 q5
    simp [Tryd.f46]
    rw [denK_loop]
    simp
    rw [denK_loop]
    simp
    rw [denK_loop]
    have hc : op = 8 ∨ op = 9 ∨ op = 10 ∨ op = 11 ∨ op = 12 ∨ op = 13 ∨ op = 14 ∨ op = 15 ∨ op = 16 ∨ op = 17 ∨ op = 18 ∨ (op < 8) ∨ (18 < op ∧ op ≤ 21) ∨ 21 < op := by omega
    rcases hc with rfl | rfl | rfl | rfl | rfl | rfl | rfl | rfl | rfl | rfl | rfl | h | ⟨h1, h2⟩ | h
    · cases hf : f1.2 <;> simp [q1, hf, fitR, drwK_end]
    · cases hf : f2.2 <;> simp [q2, hf, fitR, drwK_end]
    · cases hf : f3.2 <;> simp [q3, hf, fitR, drwK_end]
    · by_cases h3 : f4.2 = 3
      · simp [q4, h3, errR, drwK_end]
      · by_cases h0 : f4.2 = 0 <;> simp [q4, h0, h3, errR, drwK_end]
    · by_cases h3 : f5.2 = 3
      · simp [q5, h3, errR, drwK_end]
      · by_cases h0 : f5.2 = 0 <;> simp [q5, h0, h3, errR, drwK_end]
    · simp [rone_run, drwK_end]
    · simp [rone_run, drwK_end, bne]
    · simp [rone_run, drwK_end]
    · simp [rone_run, drwK_end]
    · simp [rone_run, drwK_end]
    · simp [rone_run, drwK_end, show IntKind.i64.wrap 5 = 5 from rfl]
    · simp only [show ¬ op = 8 by omega, show ¬ op = 9 by omega, show ¬ op = 10 by omega, show ¬ op = 11 by omega, show ¬ op = 12 by omega, show ¬ op = 13 by omega, show ¬ op = 14 by omega, show ¬ op = 15 by omega, show ¬ op = 16 by omega, show ¬ op = 17 by omega, show ¬ op = 18 by omega, if_false]
      simp [h, noOp, drwK_end]
    · have h3 : ¬ op < 8 := by omega
      have h4 : ¬ 21 < op := by omega
      simp only [show ¬ op = 8 by omega, show ¬ op = 9 by omega, show ¬ op = 10 by omega, show ¬ op = 11 by omega, show ¬ op = 12 by omega, show ¬ op = 13 by omega, show ¬ op = 14 by omega, show ¬ op = 15 by omega, show ¬ op = 16 by omega, show ¬ op = 17 by omega, show ¬ op = 18 by omega, if_false]
      simp [h1, h3, h4, noOp, drwK_end]
    · have h3 : ¬ op < 8 := by omega
      simp only [show ¬ op = 8 by omega, show ¬ op = 9 by omega, show ¬ op = 10 by omega, show ¬ op = 11 by omega, show ¬ op = 12 by omega, show ¬ op = 13 by omega, show ¬ op = 14 by omega, show ¬ op = 15 by omega, show ¬ op = 16 by omega, show ¬ op = 17 by omega, show ¬ op = 18 by omega, if_false]
      simp [h, h3, noOp, drwK_end]
  · clear q1 q2 q3 q4 q5
    by_cases h1 : a = 0 ∨ a = 1
    · by_cases h2 : b = 0 ∨ b = 1
      · have hc : op = 13 ∨ op = 14 ∨ op = 20 ∨ op = 19 ∨ op = 21 ∨ (op < 8) ∨ (8 ≤ op ∧ op < 13) ∨ (14 < op ∧ op < 19) ∨ 21 < op := by omega
        unfold opT
        rcases h1 with rfl | rfl <;> rcases h2 with rfl | rfl <;>
          (simp [Tryd.f46]
           rw [denK_loop]
           simp
           rw [denK_loop]
           simp
           rw [denK_loop]
           rcases hc with rfl | rfl | rfl | rfl | rfl | h | ⟨h3, h4⟩ | ⟨h3, h4⟩ | h
           · simp [rone_run, drwK_end]
           · simp [rone_run, drwK_end]
           · simp [rone_run, drwK_end]
           · simp [rone_run, drwK_end]
           · simp [rone_run, drwK_end]
           · simp only [show ¬ op = 13 by omega, show ¬ op = 14 by omega, show ¬ op = 20 by omega, show ¬ op = 19 by omega, show ¬ op = 21 by omega, if_false, or_self]
             simp [h, noOp, drwK_end]
           · simp only [show ¬ op = 13 by omega, show ¬ op = 14 by omega, show ¬ op = 20 by omega, show ¬ op = 19 by omega, show ¬ op = 21 by omega, if_false, or_self]
             simp [show ¬ op < 8 by omega, show ¬ 21 < op by omega, show ¬ op = 13 by omega, show ¬ op = 14 by omega, show ¬ op = 20 by omega, show ¬ op = 19 by omega, show ¬ op = 21 by omega, noOp, drwK_end]
           · simp only [show ¬ op = 13 by omega, show ¬ op = 14 by omega, show ¬ op = 20 by omega, show ¬ op = 19 by omega, show ¬ op = 21 by omega, if_false, or_self]
             simp [show ¬ op < 8 by omega, show ¬ 21 < op by omega, show ¬ op = 13 by omega, show ¬ op = 14 by omega, show ¬ op = 20 by omega, show ¬ op = 19 by omega, show ¬ op = 21 by omega, noOp, drwK_end]
           · simp only [show ¬ op = 13 by omega, show ¬ op = 14 by omega, show ¬ op = 20 by omega, show ¬ op = 19 by omega, show ¬ op = 21 by omega, if_false, or_self]
             simp [show ¬ op < 8 by omega, h, noOp, drwK_end])
      · have h3 : ¬ b = 0 := by omega
        have h4 : ¬ b = 1 := by omega
        have h5 : ¬ b < 0 → 1 < b := by omega
        rcases h1 with rfl | rfl <;> by_cases h6 : b < 0 <;>
          (simp [Tryd.f46]
           rw [denK_loop]
           simp
           rw [denK_loop]
           simp [h3, h4, h5, h6, noOp])
    · have h3 : ¬ a = 0 := by omega
      have h4 : ¬ a = 1 := by omega
      have h5 : ¬ a < 0 → 1 < a := by omega
      by_cases h6 : a < 0 <;>
      (simp [Tryd.f46]
       rw [denK_loop]
       simp [h3, h4, h5, h6, noOp])
end Go.Am
end
section
namespace Go.Am
open Go Go.Proofs
set_option maxRecDepth 20000
/-- The reference's state. -/
def rB (v1 v2 : AV) (a f x : Int) : List AV := [v1, v2, .d (.int .i64 a), .d (.int .i64 f), .d (.int .i64 x)]
def rC (C S : List Int) (a f x : Int) : List Cont := [.box (rB (.vec 1 0 0 C.length) (.vec 2 0 0 S.length) a f x), .vec 1 (C.map jD), .vec 1 (S.map jD)]
/-- What is handed back: the stack anew. -/
def rC2 (C S : List Int) (a f x : Int) : List (Nat × Cont) := [(0, .box (rB (.vec 1 0 0 C.length) (.vec 2 1 0 S.length) a f x)), (0, .vec 1 (C.map jD)), (1, .vec 1 (S.map jD))]
theorem ryes_run (b : Bool) : callT ctx 44 [.d (.bool b)] [] = some (.ret (.d (.int .i64 (oneZ b))), []) := by
  rw [run44 (by simp)]
  cases b <;> simp [Tryd.f44, oneZ]
theorem put_run (C S : List Int) (a f x n : Int) (hS : S.length ≤ 100) : callT ctx 43 [.ptr 0 0 0, .d (.int .i64 n)] (rC C S a f x) = some (.ret (.tup []), rC2 C (S ++ [n]) a f x) := by
  have h2 : (S.length + 1) * 8 ≤ 140737488355328 := by omega
  have h3 : S.length + 1 ≤ 4611686018427387904 := by omega
  have ht : (S.map jD).take S.length = S.map jD := List.take_of_length_le (by simp)
  rw [run43 (by simp [rC])]
  simp [Tryd.f43, rC, rC2, rB, h2, h3, ht, drwK_end]
theorem cut1_run (C S : List Int) (a f x n : Int) (hS : S.length ≤ 100) : callT ctx 45 [.ptr 0 0 0, .d (.int .i64 1)] (rC C (S ++ [n]) a f x) = some (.ret (.d (.list [.int .i64 n])), rC2 C S a f x) := by
  have h2 : S.length * 8 ≤ 140737488355328 := by omega
  have h3 : S.length ≤ 4611686018427387904 := by omega
  have w1 : IntKind.i64.wrap (S.length : Int) = S.length := wrap_id (by unfold I64; omega)
  have g1 : (S.length : Int) ≤ (S.length : Int) + 1 := by omega
  rw [run45 (by simp [rC])]
  simp [Tryd.f45, rC, rC2, rB, h2, h3, w1, g1, drwK_end]
theorem cut2_run (C S : List Int) (a f x m n : Int) (hS : S.length ≤ 100) : callT ctx 45 [.ptr 0 0 0, .d (.int .i64 2)] (rC C (S ++ [m, n]) a f x) = some (.ret (.d (.list [.int .i64 m, .int .i64 n])), rC2 C S a f x) := by
  have h2 : S.length * 8 ≤ 140737488355328 := by omega
  have h3 : S.length ≤ 4611686018427387904 := by omega
  have w1 : IntKind.i64.wrap ((S.length : Int) + 2 - 2) = S.length := by rw [show (S.length : Int) + 2 - 2 = S.length by omega]; exact wrap_id (by unfold I64; omega)
  have w2 : IntKind.i64.wrap (S.length : Int) = S.length := wrap_id (by unfold I64; omega)
  have g2 : (S.length : Int) + 2 ≤ 2 + (S.length : Int) := by omega
  have tn : ((S.length : Int) + 2).toNat - S.length = 2 := by omega
  have g1 : (S.length : Int) ≤ (S.length : Int) + 2 := by omega
  rw [run45 (by simp [rC])]
  simp [Tryd.f45, rC, rC2, rB, h2, h3, w1, w2, g1, g2, tn, drwK_end]
end Go.Am
end
section
namespace Go.Am
open Go Go.Proofs
set_option maxRecDepth 20000
def rCv (C S : List Int) (a f x : Int) (v : Nat) : List (Nat × Cont) := [(0, .box (rB (.vec 1 0 0 C.length) (.vec 2 v 0 S.length) a f x)), (0, .vec 1 (C.map jD)), (v, .vec 1 (S.map jD))]
def RStepOk (x : Ins) (s : Ms) : Prop := ∃ v S', ((stepF x s).fault = 0 → S' = (stepF x s).stk) ∧ S'.length ≤ 65 ∧
  callT ctx 24 [.ptr 0 0 0, .d (insD x)] (rC s.cells s.stk s.at_ s.fuel s.fault) = some (.ret (.tup []), rCv (stepF x s).cells S' (stepF x s).at_ (stepF x s).fuel (stepF x s).fault v)
theorem rs_1 (x : Ins) (s : Ms) (h0 : s.fault = 0) (hf : Fit x s.cells.length s.stk.length) (hN : NumsOk s) (hop : x.op = 1) : RStepOk x s := by
  obtain ⟨C, S, a, f, z⟩ := s
  have hp := hN.place
  simp only at h0 hf hp
  subst h0
  have h1 := hf.i1 hop
  have hst : stepF x ⟨C, S, a, f, 0⟩ = ⟨C, S ++ [x.n], a + 1, f, 0⟩ := by simp [stepF, moveF, hop, Ms.push]
  have hput := put_run C S (a + 1) f 0 x.n (by omega)
  have w1 : IntKind.i64.wrap (a + 1) = a + 1 := wrap_id (by unfold I64; omega)
  unfold RStepOk
  rw [hst]
  refine ⟨1, S ++ [x.n], fun _ => rfl, by simp; omega, ?_⟩
  rw [run24 (by simp [rC])]
  simp [rC, rC2, rB] at hput
  simp [Tryd.f24, rC, rCv, rB, hop, hput, w1, drwK_end]
theorem rs_2 (x : Ins) (s : Ms) (h0 : s.fault = 0) (hf : Fit x s.cells.length s.stk.length) (hN : NumsOk s) (hop : x.op = 2) : RStepOk x s := by
  obtain ⟨C, S, a, f, z⟩ := s
  have hp := hN.place
  simp only at h0 hf hp
  subst h0
  obtain ⟨h1, hc1, hc2⟩ := hf.i2 (.inl hop)
  have hst : stepF x ⟨C, S, a, f, 0⟩ = ⟨C, S ++ [atI C x.a], a + 1, f, 0⟩ := by simp [stepF, moveF, hop, Ms.push]
  have hput := put_run C S (a + 1) f 0 (atI C x.a) (by omega)
  have w1 : IntKind.i64.wrap (a + 1) = a + 1 := wrap_id (by unfold I64; omega)
  unfold RStepOk
  rw [hst]
  refine ⟨1, S ++ [atI C x.a], fun _ => rfl, by simp; omega, ?_⟩
  rw [run24 (by simp [rC])]
  simp [rC, rC2, rB] at hput
  simp [Tryd.f24, rC, rCv, rB, hop, hput, w1, hc1, hc2, cellAt, drwK_end]
theorem rs_3 (x : Ins) (s : Ms) (h0 : s.fault = 0) (hf : Fit x s.cells.length s.stk.length) (hN : NumsOk s) (hop : x.op = 3) : RStepOk x s := by
  obtain ⟨C, S, a, f, z⟩ := s
  have hp := hN.place
  simp only at h0 hf hp
  subst h0
  obtain ⟨h1, hc1, hc2⟩ := hf.i2 (.inr (.inl hop))
  have hst : stepF x ⟨C, S, a, f, 0⟩ = ⟨C, S ++ [oneZ (decide (atI C x.a ≠ 0))], a + 1, f, 0⟩ := by simp [stepF, moveF, hop, Ms.push]
  have hput := fun b => put_run C S (a + 1) f 0 (oneZ b) (by omega)
  have w1 : IntKind.i64.wrap (a + 1) = a + 1 := wrap_id (by unfold I64; omega)
  have hb : (atI C x.a != 0) = decide (atI C x.a ≠ 0) := by by_cases h : atI C x.a = 0 <;> simp [h]
  have hy := ryes_run
  unfold RStepOk
  rw [hst]
  refine ⟨1, S ++ [oneZ (decide (atI C x.a ≠ 0))], fun _ => rfl, by simp; omega, ?_⟩
  rw [run24 (by simp [rC])]
  generalize decide (atI C x.a ≠ 0) = b at *
  have hput := hput b
  simp [rC, rC2, rB] at hput
  simp [Tryd.f24, rC, rCv, rB, hop, hput, hy, hb, w1, hc1, hc2, cellAt, drwK_end]
theorem rs_4 (x : Ins) (s : Ms) (h0 : s.fault = 0) (hf : Fit x s.cells.length s.stk.length) (hN : NumsOk s) (hop : x.op = 4 ∨ x.op = 5) : RStepOk x s := by
  obtain ⟨C, S0, a, f, z⟩ := s
  have hp := hN.place
  have hfew := hN.few
  have htop := hf.top
  simp only at h0 hf hp hfew htop
  subst h0
  obtain ⟨hl, k1, k2, k3, k4, k5⟩ := hf.i4 hop
  obtain ⟨S, n, rfl⟩ := snoc_of hl
  simp at htop
  have hcut := cut1_run C S (a + 1) f 0 n (by omega)
  have w1 : IntKind.i64.wrap (a + 1) = a + 1 := wrap_id (by unfold I64; omega)
  unfold RStepOk
  by_cases hin : x.n ≤ n ∧ n ≤ x.m
  · obtain ⟨i1, i2⟩ := hin
    have hinb : inArr x n = true := by unfold inArr; simp [i1, i2]
    have hr : 0 ≤ x.a + (n - x.n) ∧ (x.a + (n - x.n)).toNat < C.length := by omega
    obtain ⟨r1, r2⟩ := hr
    have w2 : IntKind.i64.wrap (x.a + n) = x.a + n := wrap_id (by unfold I64; omega)
    have w3 : IntKind.i64.wrap (x.a + n - x.n) = x.a + (n - x.n) := by rw [show x.a + n - x.n = x.a + (n - x.n) by omega]; exact wrap_id (by unfold I64; omega)
    have n1 : ¬ n < x.n := by omega
    have n2 : ¬ x.m < n := by omega
    generalize hv : x.a + (n - x.n) = v at *
    rcases hop with hop | hop
    · have hst : stepF x ⟨C, S ++ [n], a, f, 0⟩ = ⟨C, S ++ [atI C v], a + 1, f, 0⟩ := by simp [stepF, moveF, hop, Ms.push, Ms.pop, Ms.top, hinb, hv]
      rw [hst]
      have hput := put_run C S (a + 1) f 0 (atI C v) (by omega)
      refine ⟨1, S ++ [atI C v], fun _ => rfl, by simp; omega, ?_⟩
      rw [run24 (by simp [rC])]
      simp [rC, rC2, rB] at hput hcut
      simp [Tryd.f24, rC, rCv, rB, hop, hput, hcut, w1, w2, w3, n1, n2, r1, r2, cellAt, drwK_end]
    · have hst : stepF x ⟨C, S ++ [n], a, f, 0⟩ = ⟨C, S ++ [oneZ (decide (atI C v ≠ 0))], a + 1, f, 0⟩ := by
        by_cases hz : atI C v = 0 <;> simp [stepF, moveF, hop, Ms.push, Ms.pop, Ms.top, hinb, hv, hz]
      rw [hst]
      have hput := fun b => put_run C S (a + 1) f 0 (oneZ b) (by omega)
      have hb : (atI C v != 0) = decide (atI C v ≠ 0) := by by_cases h : atI C v = 0 <;> simp [h]
      have hy := ryes_run
      refine ⟨1, S ++ [oneZ (decide (atI C v ≠ 0))], fun _ => rfl, by simp; omega, ?_⟩
      rw [run24 (by simp [rC])]
      generalize decide (atI C v ≠ 0) = b at *
      have hput := hput b
      simp [rC, rC2, rB] at hput hcut
      simp [Tryd.f24, rC, rCv, rB, hop, hput, hcut, hy, hb, w1, w2, w3, n1, n2, r1, r2, cellAt, drwK_end]
  · have hinb : inArr x n = false := by unfold inArr; by_cases h1 : x.n ≤ n <;> by_cases h2 : n ≤ x.m <;> simp_all
    have hst : stepF x ⟨C, S ++ [n], a, f, 0⟩ = ⟨C, S, a + 1, f, 3⟩ := by
      have q1 : ¬ x.op = 1 := by omega
      have q2 : ¬ x.op = 2 := by omega
      have q3 : ¬ x.op = 3 := by omega
      simp [stepF, moveF, q1, q2, q3, hop, Ms.push, Ms.pop, Ms.top, hinb]
    rw [hst]
    refine ⟨1, S, fun h => by simp at h, by omega, ?_⟩
    rw [run24 (by simp [rC])]
    simp [rC, rC2, rB] at hcut
    by_cases n1 : n < x.n
    · rcases hop with hop | hop <;> simp [Tryd.f24, rC, rCv, rB, hop, hcut, w1, n1, drwK_end]
    · have n2 : x.m < n := by omega
      rcases hop with hop | hop <;> simp [Tryd.f24, rC, rCv, rB, hop, hcut, w1, n1, n2, drwK_end]
end Go.Am
end
section
namespace Go.Am
open Go Go.Proofs
set_option maxRecDepth 20000
theorem rs_7 (x : Ins) (s : Ms) (h0 : s.fault = 0) (hf : Fit x s.cells.length s.stk.length) (hN : NumsOk s) (hop : x.op = 7) : RStepOk x s := by
  obtain ⟨C, S0, a, f, z⟩ := s
  have hp := hN.place
  have hfew := hN.few
  have htop := hf.top
  simp only at h0 hf hp hfew htop
  subst h0
  obtain ⟨hl, k1, k2, k3, k4, k5⟩ := hf.i7 hop
  obtain ⟨S, m, n, rfl⟩ := snoc2_of hl
  simp at htop
  have hcut := cut1_run C (S ++ [m]) (a + 1) f 0 n (by simp; omega)
  have hcut2 := cut1_run C S (a + 1) f 0 m (by omega)
  have e0 : S ++ [m] ++ [n] = S ++ [m, n] := by simp
  rw [e0] at hcut
  have w1 : IntKind.i64.wrap (a + 1) = a + 1 := wrap_id (by unfold I64; omega)
  unfold RStepOk
  by_cases hin : x.n ≤ m ∧ m ≤ x.m
  · obtain ⟨i1, i2⟩ := hin
    have hinb : inArr x m = true := by unfold inArr; simp [i1, i2]
    have hr : 0 ≤ x.a + (m - x.n) ∧ (x.a + (m - x.n)).toNat < C.length := by omega
    obtain ⟨r1, r2⟩ := hr
    have w2 : IntKind.i64.wrap (x.a + m) = x.a + m := wrap_id (by unfold I64; omega)
    have w3 : IntKind.i64.wrap (x.a + m - x.n) = x.a + (m - x.n) := by rw [show x.a + m - x.n = x.a + (m - x.n) by omega]; exact wrap_id (by unfold I64; omega)
    have n1 : ¬ m < x.n := by omega
    have n2 : ¬ x.m < m := by omega
    generalize hv : x.a + (m - x.n) = v at *
    have hst : stepF x ⟨C, S ++ [m, n], a, f, 0⟩ = ⟨setI C v n, S, a + 1, f, 0⟩ := by
      simp only [stepF, moveF, Ms.pop, Ms.top]
      simp [hop, top2, pop2, hinb, hv]
    rw [hst]
    refine ⟨1, S, fun _ => rfl, by omega, ?_⟩
    rw [run24 (by simp [rC])]
    simp [rC, rC2, rB] at hcut hcut2
    simp [Tryd.f24, rC, rCv, rB, setI, hop, hcut, hcut2, w1, w2, w3, n1, n2, r1, r2, drwK_end]
  · have hinb : inArr x m = false := by unfold inArr; by_cases h1 : x.n ≤ m <;> by_cases h2 : m ≤ x.m <;> simp_all
    have hst : stepF x ⟨C, S ++ [m, n], a, f, 0⟩ = ⟨C, S, a + 1, f, 3⟩ := by
      simp only [stepF, moveF, Ms.pop, Ms.top]
      simp [hop, top2, pop2, hinb]
    rw [hst]
    refine ⟨1, S, fun h => by simp at h, by omega, ?_⟩
    rw [run24 (by simp [rC])]
    simp [rC, rC2, rB] at hcut hcut2
    by_cases n1 : m < x.n
    · simp [Tryd.f24, rC, rCv, rB, hop, hcut, hcut2, w1, n1, drwK_end]
    · have n2 : x.m < m := by omega
      simp [Tryd.f24, rC, rCv, rB, hop, hcut, hcut2, w1, n1, n2, drwK_end]
theorem rs_8 (x : Ins) (s : Ms) (h0 : s.fault = 0) (hf : Fit x s.cells.length s.stk.length) (hN : NumsOk s) (hop : x.op = 8) (hb7 : x.b ≤ 7 ↔ (x.b = 6 ∨ x.b = 7)) : RStepOk x s := by
  obtain ⟨C, S0, a, f, z⟩ := s
  have hp := hN.place
  have hstk := hN.stk
  have htop := hf.top
  simp only at h0 hf hp htop hstk
  subst h0
  obtain ⟨f1, f2⟩ := hf.i8 hop
  have w1 : IntKind.i64.wrap (a + 1) = a + 1 := wrap_id (by unfold I64; omega)
  unfold RStepOk
  by_cases hb : x.b = 6 ∨ x.b = 7
  · obtain ⟨S, n, rfl⟩ := snoc_of (f1 hb)
    simp at htop
    have hle := hb7.2 hb
    have hcut := cut1_run C S (a + 1) f 0 n (by omega)
    have hopr := refOp1_run x.b n (decide (x.a = 1)) (hstk n (by simp))
    have hst : stepF x ⟨C, S ++ [n], a, f, 0⟩ = doF x ⟨C, S ++ [n], a + 1, f, 0⟩ := by simp [stepF, moveF, ctlF, hop]
    rw [hst]
    unfold doF
    rw [if_pos hb]
    simp only [Ms.top, Ms.pop, Ms.push, List.getLast?_concat, Option.getD_some, List.dropLast_concat]
    generalize op1 x.b n (decide (x.a = 1)) = p at *
    have hput := put_run C S (a + 1) f p.2.2 p.1 (by omega)
    rw [run24 (by simp [rC])]
    simp [rC, rC2, rB] at hput hcut
    simp at hopr
    by_cases hp0 : p.2.2 = 0
    · rw [if_pos hp0]
      refine ⟨1, S ++ [p.1], fun _ => rfl, by simp; omega, ?_⟩
      rw [hp0] at hput
      simp [Tryd.f24, rC, rCv, rB, hop, hle, hput, hcut, hopr, hp0, w1, drwK_end]
    · rw [if_neg hp0]
      refine ⟨1, S ++ [p.1], fun h => absurd h hp0, by simp; omega, ?_⟩
      simp [Tryd.f24, rC, rCv, rB, hop, hle, hput, hcut, hopr, w1, drwK_end]
  · obtain ⟨S, m, n, rfl⟩ := snoc2_of (f2 hb)
    simp at htop
    have hle : ¬ x.b ≤ 7 := fun h => hb (hb7.1 h)
    have hcut := cut2_run C S (a + 1) f 0 m n (by omega)
    have hopr := refOp2_run x.b m n (decide (x.a = 1)) (hstk m (by simp)) (hstk n (by simp))
    have hst : stepF x ⟨C, S ++ [m, n], a, f, 0⟩ = doF x ⟨C, S ++ [m, n], a + 1, f, 0⟩ := by simp [stepF, moveF, ctlF, hop]
    rw [hst]
    unfold doF
    rw [if_neg hb]
    simp only [Ms.top, Ms.pop, Ms.push, top2, pop2, List.getLast?_concat, Option.getD_some, List.dropLast_concat]
    generalize op2 x.b m n (decide (x.a = 1)) = p at *
    have hput := put_run C S (a + 1) f p.2.2 p.1 (by omega)
    rw [run24 (by simp [rC])]
    simp [rC, rC2, rB] at hput hcut
    simp at hopr
    by_cases hp0 : p.2.2 = 0
    · rw [if_pos hp0]
      refine ⟨1, S ++ [p.1], fun _ => rfl, by simp; omega, ?_⟩
      rw [hp0] at hput
      simp [Tryd.f24, rC, rCv, rB, hop, hle, hput, hcut, hopr, hp0, w1, drwK_end]
    · rw [if_neg hp0]
      refine ⟨1, S ++ [p.1], fun h => absurd h hp0, by simp; omega, ?_⟩
      simp [Tryd.f24, rC, rCv, rB, hop, hle, hput, hcut, hopr, w1, drwK_end]
theorem rs_9 (x : Ins) (s : Ms) (h0 : s.fault = 0) (hf : Fit x s.cells.length s.stk.length) (hN : NumsOk s) (hop : x.op = 9) : RStepOk x s := by
  obtain ⟨C, S, a, f, z⟩ := s
  have hp := hN.place
  have htop := hf.top
  simp only at h0 hf hp htop
  subst h0
  have w1 : IntKind.i64.wrap (a + 1) = a + 1 := wrap_id (by unfold I64; omega)
  have hst : stepF x ⟨C, S, a, f, 0⟩ = ⟨C, S, x.a, f, 0⟩ := by simp [stepF, moveF, ctlF, hop]
  unfold RStepOk
  rw [hst]
  refine ⟨0, S, fun _ => rfl, by omega, ?_⟩
  rw [run24 (by simp [rC])]
  simp [Tryd.f24, rC, rCv, rB, hop, w1, drwK_end]
theorem rs_10 (x : Ins) (s : Ms) (h0 : s.fault = 0) (hf : Fit x s.cells.length s.stk.length) (hN : NumsOk s) (hop : x.op = 10) : RStepOk x s := by
  obtain ⟨C, S0, a, f, z⟩ := s
  have hp := hN.place
  have htop := hf.top
  simp only at h0 hf hp htop
  subst h0
  obtain ⟨S, n, rfl⟩ := snoc_of (hf.i10 hop)
  simp at htop
  have hcut := cut1_run C S (a + 1) f 0 n (by omega)
  have w1 : IntKind.i64.wrap (a + 1) = a + 1 := wrap_id (by unfold I64; omega)
  unfold RStepOk
  rw [run24 (by simp [rC])]
  by_cases hn : n = 0
  · have hst : stepF x ⟨C, S ++ [n], a, f, 0⟩ = ⟨C, S, x.a, f, 0⟩ := by simp [stepF, moveF, ctlF, hop, Ms.top, Ms.pop, hn]
    rw [hst]
    refine ⟨1, S, fun _ => rfl, by omega, ?_⟩
    subst hn
    simp [rC, rC2, rB] at hcut
    simp [Tryd.f24, rC, rCv, rB, hop, hcut, w1, drwK_end]
  · have hst : stepF x ⟨C, S ++ [n], a, f, 0⟩ = ⟨C, S, a + 1, f, 0⟩ := by simp [stepF, moveF, ctlF, hop, Ms.top, Ms.pop, hn]
    rw [hst]
    refine ⟨1, S, fun _ => rfl, by omega, ?_⟩
    simp [rC, rC2, rB] at hcut
    simp [Tryd.f24, rC, rCv, rB, hop, hcut, hn, w1, drwK_end]
theorem rs_11 (x : Ins) (s : Ms) (h0 : s.fault = 0) (hf : Fit x s.cells.length s.stk.length) (hN : NumsOk s) (hop : x.op = 11) : RStepOk x s := by
  obtain ⟨C, S, a, f, z⟩ := s
  have hp := hN.place
  have hfu := hN.fuel
  have htop := hf.top
  simp only at h0 hf hp htop hfu
  subst h0
  have w1 : IntKind.i64.wrap (a + 1) = a + 1 := wrap_id (by unfold I64; omega)
  unfold RStepOk
  rw [run24 (by simp [rC])]
  by_cases hn : f = 0
  · have hst : stepF x ⟨C, S, a, f, 0⟩ = ⟨C, S, a + 1, f, 4⟩ := by simp [stepF, moveF, ctlF, hop, hn]
    rw [hst]
    refine ⟨0, S, fun h => rfl, by omega, ?_⟩
    simp [Tryd.f24, rC, rCv, rB, hop, hn, w1, drwK_end]
  · have hst : stepF x ⟨C, S, a, f, 0⟩ = ⟨C, S, a + 1, f - 1, 0⟩ := by simp [stepF, moveF, ctlF, hop, hn]
    rw [hst]
    have w2 : IntKind.i64.wrap (f - 1) = f - 1 := wrap_id (by unfold I64; omega)
    refine ⟨0, S, fun h => rfl, by omega, ?_⟩
    simp [Tryd.f24, rC, rCv, rB, hop, hn, w1, w2, drwK_end]
theorem rs_13 (x : Ins) (s : Ms) (h0 : s.fault = 0) (hf : Fit x s.cells.length s.stk.length) (hN : NumsOk s) (hop : x.op = 13) : RStepOk x s := by
  obtain ⟨C, S, a, f, z⟩ := s
  have hp := hN.place
  have hfew := hN.few
  simp only at h0 hf hp hfew
  subst h0
  obtain ⟨h1, ⟨a1, a2⟩, ⟨b1, b2⟩, ⟨c1, c2⟩⟩ := hf.i13 hop
  have w1 : IntKind.i64.wrap (a + 1) = a + 1 := wrap_id (by unfold I64; omega)
  have w2 : IntKind.i64.wrap (x.b + 1) = x.b + 1 := wrap_id (by unfold I64; omega)
  have hst : stepF x ⟨C, S, a, f, 0⟩ = ⟨C, S ++ [oneZ (upToS C x)], a + 1, f, 0⟩ := by simp [stepF, moveF, ctlF, hop, Ms.push]
  have hy := ryes_run
  unfold RStepOk
  rw [hst]
  refine ⟨1, S ++ [oneZ (upToS C x)], fun _ => rfl, by simp; omega, ?_⟩
  have hput := put_run C S (a + 1) f 0 (oneZ (upToS C x)) (by omega)
  rw [run24 (by simp [rC])]
  simp [rC, rC2, rB] at hput
  by_cases hby : atI C (x.b + 1) < 0
  · have hu : upToS C x = decide (atI C x.b ≤ atI C x.a) := by
      unfold upToS
      have : ¬ 0 ≤ atI C (x.b + 1) := by omega
      simp [hby, this]
    rw [hu] at hput ⊢
    simp [Tryd.f24, rC, rCv, rB, hop, hput, hy, hby, w1, w2, a1, a2, b1, b2, c1, c2, cellAt, drwK_end]
  · have hu : upToS C x = decide (atI C x.a ≤ atI C x.b) := by
      unfold upToS
      have : 0 ≤ atI C (x.b + 1) := by omega
      simp [hby, this]
    rw [hu] at hput ⊢
    simp [Tryd.f24, rC, rCv, rB, hop, hput, hy, hby, w1, w2, a1, a2, b1, b2, c1, c2, cellAt, drwK_end]
theorem rs_14 (x : Ins) (s : Ms) (h0 : s.fault = 0) (hf : Fit x s.cells.length s.stk.length) (hN : NumsOk s) (hop : x.op = 14) : RStepOk x s := by
  obtain ⟨C, S, a, f, z⟩ := s
  have hp := hN.place
  simp only at h0 hf hp
  subst h0
  obtain ⟨h1, hc1, hc2⟩ := hf.i2 (.inr (.inr hop))
  have w1 : IntKind.i64.wrap (a + 1) = a + 1 := wrap_id (by unfold I64; omega)
  have hst : stepF x ⟨C, S, a, f, 0⟩ = ⟨C, S ++ [oneZ (decide (x.n ≤ atI C x.a ∧ atI C x.a ≤ x.m))], a + 1, f, 0⟩ := by simp [stepF, moveF, ctlF, hop, Ms.push]
  have hy := ryes_run
  unfold RStepOk
  rw [hst]
  refine ⟨1, S ++ [oneZ (decide (x.n ≤ atI C x.a ∧ atI C x.a ≤ x.m))], fun _ => rfl, by simp; omega, ?_⟩
  have hput := fun b => put_run C S (a + 1) f 0 (oneZ b) (by omega)
  rw [run24 (by simp [rC])]
  by_cases h2 : x.n ≤ atI C x.a
  · by_cases h3 : atI C x.a ≤ x.m
    · have hput := hput true
      simp [rC, rC2, rB] at hput
      simp [Tryd.f24, rC, rCv, rB, hop, hput, hy, h2, h3, w1, hc1, hc2, cellAt, drwK_end]
    · have hput := hput false
      simp [rC, rC2, rB] at hput
      simp [Tryd.f24, rC, rCv, rB, hop, hput, hy, h2, h3, w1, hc1, hc2, cellAt, drwK_end]
  · have hput := hput false
    simp [rC, rC2, rB] at hput
    simp [Tryd.f24, rC, rCv, rB, hop, hput, hy, h2, w1, hc1, hc2, cellAt, drwK_end]
end Go.Am
end
section
namespace Go.Am
open Go Go.Proofs
set_option maxRecDepth 20000
def writeAll : List Int → Nat → List Int → List Int
  | C, _, [] => C
  | C, p, y :: r => writeAll (C.set p y) (p + 1) r
theorem writeAll_eq : ∀ (Y C : List Int) (o : Nat), o + Y.length ≤ C.length → writeAll C o Y = C.take o ++ Y ++ C.drop (o + Y.length)
  | [], C, o, h => by simp [writeAll]
  | y :: r, C, o, h => by
    simp at h
    rw [writeAll, writeAll_eq r (C.set o y) (o + 1) (by simp; omega)]
    have l1 : (C.take o).length = o := by simp; omega
    have e : C.set o y = C.take o ++ y :: C.drop (o + 1) := by rw [List.set_eq_take_append_cons_drop, if_pos (by omega)]
    have e1 : (C.take o ++ y :: C.drop (o + 1)).take (o + 1) = C.take o ++ [y] := by
      have := List.take_length_add_append (l₁ := C.take o) (l₂ := y :: C.drop (o + 1)) 1
      rw [l1] at this
      simpa using this
    have e2 : (C.take o ++ y :: C.drop (o + 1)).drop (o + 1 + r.length) = C.drop (o + (y :: r).length) := by
      have := List.drop_length_add_append (l₁ := C.take o) (l₂ := y :: C.drop (o + 1)) (1 + r.length)
      rw [l1, ← Nat.add_assoc] at this
      rw [this, Nat.add_comm 1 r.length, List.drop_succ_cons, List.drop_drop]
      simp only [List.length_cons]
      congr 1
      omega
    rw [e, e1, e2]
    simp
@[simp] def r12M (x : Ins) (C S : List Int) (L : Nat) (a f : Int) (v1 v2 : Nat) (c1 c2 : Cont) : Mem :=
  [⟨0, 0, .box (rB (.vec 1 0 0 L) (.vec 2 0 0 S.length) a f 0)⟩, ⟨1, 0, .vec 1 (C.map jD)⟩, ⟨2, 0, .vec 1 (S.map jD)⟩, ⟨250, 1, .box [.d (.int .i64 x.op), .d (.int .i64 x.a), .d (.int .i64 x.b), .d (.int .i64 x.n), .d (.int .i64 x.m)]⟩, ⟨10550, v1, c1⟩, ⟨11150, v2, c2⟩]
theorem rs12_loop (x : Ins) (Y S : List Int) (L o : Nat) (a f : Int) (v1 v2 : Nat) (c1 c2 : Cont) (hxa : x.a = (o : Int)) (hL : o + Y.length ≤ L) (hL2 : L ≤ 8192) (k : Kt) (R : Ans) : ∀ (rest : List Int) (i : Nat) (C : List Int), Y.drop i = rest → i + rest.length = Y.length → C.length = L →
    (k (.exit 2) ⟨301, gl0, [(0, true, .ptr 0 0 0), (3, true, .ptr 250 1 0), (11, true, .d (.int .i64 Y.length)), (12, true, .d (.list (Y.map jD))), (13, true, .d (.int .i64 Y.length)), (225, true, .d (.bool false))], r12M x (writeAll C (o + i) rest) S L a f v1 v2 c1 c2⟩ = R) →
    denK ctx 24 (.loop (Code.at (codeOf Tryd.f24) [1, 1, 1, 0, 1, 1, 1, 1, 1, 1, 1, 1, 1, 1, 1, 1, 1, 1, 1, 1, 1, 1, 1, 0, 1, 1, 1, 0, 0]))
      ⟨301, gl0, [(0, true, .ptr 0 0 0), (3, true, .ptr 250 1 0), (11, true, .d (.int .i64 Y.length)), (12, true, .d (.list (Y.map jD))), (13, true, .d (.int .i64 i))], r12M x C S L a f v1 v2 c1 c2⟩ k = R := by
  intro rest
  induction rest with
  | nil =>
    intro i C hd hi hC hx
    have hi : i = Y.length := by simpa using hi
    subst hi
    simp [writeAll] at hx
    rw [denK_loop]
    simp [Tryd.f24, hx]
  | cons y rest ih =>
    intro i C hd hi hC hx
    have hlt : i < Y.length := by simp at hi; omega
    have hye : Y[i] = y := by
      have := congrArg (·[0]?) hd
      simp at this
      simpa [hlt] using this
    have w1 : IntKind.i64.wrap ((i : Int) + 1) = (i : Int) + 1 := wrap_id (by unfold I64; omega)
    have w2 : IntKind.i64.wrap ((o : Int) + (i : Int)) = (o : Int) + (i : Int) := wrap_id (by unfold I64; omega)
    have tn : ((o : Int) + (i : Int)).toNat = o + i := by omega
    have g1 : (0 : Int) ≤ (o : Int) + (i : Int) := by omega
    have g2 : o + i < L := by omega
    have ih := ih (i + 1) (C.set (o + i) y) (by rw [← List.tail_drop, hd]; rfl) (by simp at hi; omega) (by simpa using hC) (by rw [writeAll] at hx; exact hx)
    rw [denK_loop]
    simp [Tryd.f24] at ih ⊢
    simp [rB, hxa, hlt, hye, hC, w1, w2, tn, g1, g2, drwK_end] at ih ⊢
    exact ih
theorem rs_12 (x : Ins) (s : Ms) (h0 : s.fault = 0) (hf : Fit x s.cells.length s.stk.length) (hN : NumsOk s) (hop : x.op = 12) : RStepOk x s := by
  obtain ⟨C, S, a, f, z⟩ := s
  have hp := hN.place
  have hfew := hN.few
  have hcI := hN.cells
  have htop := hf.top
  simp only at h0 hf hp htop hfew hcI
  subst h0
  obtain ⟨k1, k2⟩ := hf.i12 hop
  obtain ⟨pl, hp1, hp2, hp3⟩ := rpins_ok x.b
  obtain ⟨o, ho⟩ : ∃ o : Nat, x.a = (o : Int) := ⟨x.a.toNat, by omega⟩
  have k2' : o + pl.length ≤ C.length := by rw [ho] at k2; simp at k2; omega
  have hlen : ((C.drop o).take pl.length).length = pl.length := by simp; omega
  have hst := rstep_run x.b ((C.drop o).take pl.length) (by rw [hlen, hp2]) (fun y hy => hcI y (List.mem_of_mem_drop (List.mem_of_mem_take hy)))
  have hYl : (stepB x.b ((C.drop o).take pl.length)).length = pl.length := by rw [stepB_len, hlen]
  have hblk : blockF x C = writeAll C o (stepB x.b ((C.drop o).take pl.length)) := by
    rw [writeAll_eq _ _ _ (by omega)]
    unfold blockF
    rw [ho, hYl, ← hp2]
    simp
  have hbl : (blockF x C).length = C.length := blockF_len k2
  have hsF : stepF x ⟨C, S, a, f, 0⟩ = ⟨blockF x C, S, a + 1, f, 0⟩ := by simp [stepF, moveF, ctlF, hop]
  unfold RStepOk
  rw [hsF]
  refine ⟨0, S, fun h => rfl, by omega, ?_⟩
  rw [hblk] at hbl ⊢
  generalize hY : stepB x.b ((C.drop o).take pl.length) = Y at *
  have hloop := fun v1 v2 c1 c2 k R hx => rs12_loop x Y S C.length o (a + 1) f v1 v2 c1 c2 ho (by omega) hfew k R Y 0 C (by simp) (by simp) rfl hx
  have w1 : IntKind.i64.wrap (a + 1) = a + 1 := wrap_id (by unfold I64; omega)
  have wa : IntKind.i64.wrap ((o : Int) + (pl.length : Int)) = (o : Int) + (pl.length : Int) := wrap_id (by unfold I64; omega)
  have tn : ((o : Int) + (pl.length : Int)).toNat = o + pl.length := by omega
  have ho1 : o ≤ C.length := by omega
  have ho2 : (o : Int) ≤ (C.length : Int) := by omega
  have ho3 : (0 : Int) ≤ (o : Int) + (pl.length : Int) := by omega
  have ho4 : (o : Int) ≤ (o : Int) + (pl.length : Int) := by omega
  have ho5 : min pl.length (C.length - o) * 8 ≤ 140737488355328 := by omega
  have ho6 : min pl.length (C.length - o) ≤ 4611686018427387904 := by omega
  have ho7 : min pl.length (C.length - o) = pl.length := by omega
  have ho8 : pl.length * 8 ≤ 140737488355328 := by omega
  have ho9 : pl.length ≤ 4611686018427387904 := by omega
  rw [run24 (by simp [rC])]
  clear hN hf hcI hY hblk
  simp only [hYl] at hloop
  simp [Tryd.f24, rB, hop, ho] at hloop
  try simp at hp1
  simp only [List.map_take, List.map_drop] at hst
  have hsz : ∀ d ∈ (List.drop o (C.map jD)).take pl.length, d.size = 1 := fun d hd => by
    obtain ⟨z, _, rfl⟩ := List.mem_map.1 (List.mem_of_mem_drop (List.mem_of_mem_take hd))
    rfl
  have htk : ((List.drop o (C.map jD)).take pl.length).take pl.length = (List.drop o (C.map jD)).take pl.length := by rw [List.take_take, Nat.min_self]
  simp [Tryd.f24, rC, rCv, rB, hop, ho, hp1, hst, w1, wa, tn, ho1, ho2, ho3, ho4, ho5, ho6, ho7, ho8, ho9, htk, k2', drwK_end]
  refine ⟨hsz, ?_⟩
  refine (hloop _ _ _ _ _).trans ?_
  simp [hbl, hYl]
theorem rs_6 (x : Ins) (s : Ms) (h0 : s.fault = 0) (hf : Fit x s.cells.length s.stk.length) (hN : NumsOk s) (hop : x.op = 6) : RStepOk x s := by
  obtain ⟨C, S0, a, f, z⟩ := s
  have hp := hN.place
  have htop := hf.top
  simp only at h0 hf hp htop
  subst h0
  obtain ⟨hl, hc1, hc2⟩ := hf.i6 hop
  obtain ⟨S, n, rfl⟩ := snoc_of hl
  simp at htop
  have hcut := cut1_run C S (a + 1) f 0 n (by omega)
  have w1 : IntKind.i64.wrap (a + 1) = a + 1 := wrap_id (by unfold I64; omega)
  have hst : stepF x ⟨C, S ++ [n], a, f, 0⟩ = ⟨setI C x.a n, S, a + 1, f, 0⟩ := by simp [stepF, moveF, hop, Ms.pop, Ms.top]
  unfold RStepOk
  rw [hst]
  refine ⟨1, S, fun _ => rfl, by omega, ?_⟩
  rw [run24 (by simp [rC])]
  simp [rC, rC2, rB] at hcut
  simp [Tryd.f24, rC, rCv, rB, setI, hop, hcut, w1, hc1, hc2, drwK_end, drwKA_c, drwKE, drwKT, drwKI_cons, drwKI_end, stepI, lookI, lookG, lookL, lookF, lookN, ents, findC, hasC, chkI, invEs, invE, clE, eqA, dgstep, dstep, dspec, dcall, Stp.app]
end Go.Am
end
section
namespace Go.Am
open Go Go.Proofs
set_option maxRecDepth 20000
theorem rstep_all (x : Ins) (s : Ms) (h0 : s.fault = 0) (hf : Fit x s.cells.length s.stk.length) (hN : NumsOk s) (hop : 1 ≤ x.op ∧ x.op ≤ 14) (hb7 : x.op = 8 → (x.b ≤ 7 ↔ (x.b = 6 ∨ x.b = 7))) : RStepOk x s := by
  have hc : x.op = 1 ∨ x.op = 2 ∨ x.op = 3 ∨ (x.op = 4 ∨ x.op = 5) ∨ x.op = 6 ∨ x.op = 7 ∨ x.op = 8 ∨ x.op = 9 ∨ x.op = 10 ∨ x.op = 11 ∨ x.op = 12 ∨ x.op = 13 ∨ x.op = 14 := by omega
  rcases hc with h | h | h | h | h | h | h | h | h | h | h | h | h
  · exact rs_1 x s h0 hf hN h
  · exact rs_2 x s h0 hf hN h
  · exact rs_3 x s h0 hf hN h
  · exact rs_4 x s h0 hf hN h
  · exact rs_6 x s h0 hf hN h
  · exact rs_7 x s h0 hf hN h
  · exact rs_8 x s h0 hf hN h (hb7 h)
  · exact rs_9 x s h0 hf hN h
  · exact rs_10 x s h0 hf hN h
  · exact rs_11 x s h0 hf hN h
  · exact rs_12 x s h0 hf hN h
  · exact rs_13 x s h0 hf hN h
  · exact rs_14 x s h0 hf hN h
theorem form_b7 {n : Nat} {last at_ : Int} {x : Ins} (h : formB pinsN n last at_ x = true) (h8 : x.op = 8) : x.b ≤ 7 ↔ (x.b = 6 ∨ x.b = 7) := by
  unfold formB at h
  simp [h8] at h
  unfold doesB at h
  split at h
  · simp only [Bool.or_eq_true, Bool.and_eq_true, decide_eq_true_eq] at h; omega
  · split at h
    · simp only [Bool.or_eq_true, Bool.and_eq_true, decide_eq_true_eq] at h; omega
    · cases h
@[simp] def rM2 (ins : List Ins) (vars cells : Int) (s : Ms) (S : List Int) (v u : Nat) : Mem :=
  [⟨250, 1, .box [.d (.list (ins.map insD)), .d (.int .i64 vars), .d (.int .i64 cells)]⟩, ⟨400, 1, .box [.lit (.slice none 0 0), .d (.int .i64 0), .d (.int .i64 0)]⟩, ⟨500, v, .vec 1 (s.cells.map jD)⟩,
   ⟨750, 1, .box (rB (.vec 500 v 0 s.cells.length) (.vec 751 u 0 S.length) s.at_ s.fuel s.fault)⟩, ⟨751, u, .vec 1 (S.map jD)⟩]
theorem rrun_loop (ins : List Ins) (vars cells : Int) {r : Nat → Nat} {st : Nat → List Bool} {n : Nat} (hg : Good pinsN n ins r st) (hl : InsOk ins) (k : Kt) (R : Ans) (v : Nat) {s t : Ms} (h : RunsF ins s t) : VInv ins st n s →
    (∀ X S u, k (.exit 2) ⟨74, gl0, (3, true, .ptr 250 1 0) :: (6, true, .ptr 400 1 0) :: (7, true, .ptr 750 1 0) :: X, rM2 ins vars cells t S v u⟩ = R) →
    ∀ X S u, (s.fault = 0 → S = s.stk) →
    denK ctx 13 (.loop (Code.at (codeOf Tryd.f13) [1, 1, 1, 0, 0, 0])) ⟨74, gl0, (3, true, .ptr 250 1 0) :: (6, true, .ptr 400 1 0) :: (7, true, .ptr 750 1 0) :: X, rM2 ins vars cells s S v u⟩ k = R := by
  induction h with
  | fault s h =>
    intro hv hx X S u hS
    have hx := hx [(47, true, .d (.bool false))] S u
    simp [rB] at hx
    rw [denK_loop]
    simp [Tryd.f13, rB, h, hx, drwK_end]
  | fin s x h0 hxx h15 =>
    intro hv hx X S u hS
    have hlt := (hv.here h0).1
    have hp := hv.nums.place
    have hxe : ins[s.at_.toNat] = x := by
      rw [List.getElem?_eq_getElem hlt] at hxx
      exact Option.some.inj hxx
    have hx := hx [(47, true, .d (.bool false))] S u
    simp [rB, h0] at hx
    rw [denK_loop]
    simp [Tryd.f13, rB, h0, hlt, hp.1, hxe, h15, hx, drwK_end]
  | step s x t h0 hxx h15 h' ih =>
    intro hv hx X S u hS
    obtain ⟨hfit, hop, hv', _⟩ := step_inv hg hl hv h0 hxx h15
    have ih := ih hv' hx
    have hlt := (hv.here h0).1
    have hp := hv.nums.place
    have hxe : ins[s.at_.toNat] = x := by
      rw [List.getElem?_eq_getElem hlt] at hxx
      exact Option.some.inj hxx
    obtain ⟨v', S', e1, e2, e3⟩ := rstep_all x s h0 hfit hv.nums hop (fun h8 => form_b7 (hg.form _ x hxx) h8)
    have hS := hS h0
    subst hS
    clear hx hv' hv
    have ih := ih [] S' (u + v') (fun hf => e1 hf)
    generalize stepF x s = t1 at *
    simp [rC, rCv, rB, h0] at e3
    rw [denK_loop]
    simp [Tryd.f13, rB] at ih ⊢
    simp [h0, hlt, hp.1, hxe, h15, e3, drwK_end, ih]
end Go.Am
end
section
namespace Go.Am
open Go Go.Proofs
set_option maxRecDepth 20000
theorem forms_loop (pins : Int → Nat) (hp : PinsOk 38 pins) (vars cells : Int) (n1 n2 : Nat) (S T : List D) (B : Cont) (hc : 0 ≤ cells ∧ cells ≤ 8192) (L : Int) : ∀ (rest pre : List Ins) (v : Nat) (ct : Cont), ((pre ++ rest).length : Int) - 1 = L → (pre ++ rest).length ≤ 5000 → ∀ k : Kt,
    ∃ v' ct', denK ctx 25 (.loop (Code.at (codeOf Tryd.f25) [1, 1, 1, 1, 0, 1, 0, 0])) ⟨66, gl0, [(0, true, .ptr 0 0 0), (53, true, .d (.list ((pre ++ rest).map insD))), (54, true, .d (.int .i64 (pre ++ rest).length)), (55, true, .d (.int .i64 pre.length))],
        [⟨0, 0, kBox (pre ++ rest) vars cells (.vec 1 0 0 n1) (.vec 2 0 0 n2)⟩, ⟨1, 0, .vec 1 S⟩, ⟨2, 0, .vec 1 T⟩, ⟨250, 1, B⟩, ⟨400, v, ct⟩]⟩ k =
      if formsB pins cells L pre.length rest = true then
        k (.exit 0) ⟨66, gl0, [(0, true, .ptr 0 0 0), (53, true, .d (.list ((pre ++ rest).map insD))), (54, true, .d (.int .i64 (pre ++ rest).length)), (55, true, .d (.int .i64 (pre ++ rest).length)), (56, true, .d (.bool false))],
        [⟨0, 0, kBox (pre ++ rest) vars cells (.vec 1 0 0 n1) (.vec 2 0 0 n2)⟩, ⟨1, 0, .vec 1 S⟩, ⟨2, 0, .vec 1 T⟩, ⟨250, 1, B⟩, ⟨400, v', ct'⟩]⟩
      else k .ret ⟨66, gl0, [(2, true, .d (.bool false))], [⟨0, 0, kBox (pre ++ rest) vars cells (.vec 1 0 0 n1) (.vec 2 0 0 n2)⟩, ⟨1, 0, .vec 1 S⟩, ⟨2, 0, .vec 1 T⟩, ⟨250, 1, B⟩, ⟨400, v', ct'⟩]⟩
  | [], pre, v, ct, hL, hl, k => by
    refine ⟨v, ct, ?_⟩
    rw [denK_loop]
    simp [Tryd.f25, formsB]
  | x :: rest, pre, v, ct, hL, hl, k => by
    have hf := form_run pins hp (pre ++ x :: rest) vars cells n1 n2 S T pre.length x hc hl
    rw [hL] at hf
    have h1 : (pre.length : Int) < pre.length + (rest.length + 1) := by omega
    have h2 : IntKind.i64.wrap ((pre.length : Int) + 1) = pre.length + 1 := wrap_id (by unfold I64; simp at hl; omega)
    cases hq : formB pins cells L pre.length x
    · refine ⟨v + 1, .box [.d (.int .i64 x.op), .d (.int .i64 x.a), .d (.int .i64 x.b), .d (.int .i64 x.n), .d (.int .i64 x.m)], ?_⟩
      rw [denK_loop]
      simp [hq] at hf
      simp [Tryd.f25, formsB, hq]
      simp [h1, hf]
    · obtain ⟨v', ct', ih⟩ := forms_loop pins hp vars cells n1 n2 S T B hc L rest (pre ++ [x]) (v + 1) (.box [.d (.int .i64 x.op), .d (.int .i64 x.a), .d (.int .i64 x.b), .d (.int .i64 x.n), .d (.int .i64 x.m)]) (by simpa using hL) (by simpa using hl) k
      refine ⟨v', ct', ?_⟩
      rw [denK_loop]
      simp [hq] at hf
      simp [Tryd.f25, formsB, hq] at ih ⊢
      simp [h1, h2, hf, ih]
theorem forms_run (pins : Int → Nat) (hp : PinsOk 38 pins) (ins : List Ins) (vars cells : Int) (n1 n2 : Nat) (S T : List D) (hl : ins.length ≤ 5000) :
    callT ctx 25 [.ptr 0 0 0] [kBox ins vars cells (.vec 1 0 0 n1) (.vec 2 0 0 n2), .vec 1 S, .vec 1 T] =
      some (.ret (.d (.bool (okForms pins ins vars cells))), [(0, kBox ins vars cells (.vec 1 0 0 n1) (.vec 2 0 0 n2)), (0, .vec 1 S), (0, .vec 1 T)]) := by
  rw [run25 (by simp)]
  unfold okForms headB
  by_cases h1 : 1 ≤ (ins.length : Int)
  · have c1 : ¬ ((ins.length : Int) < 1) := by omega
    obtain ⟨ini, last, rfl⟩ : ∃ ini last, ins = ini ++ [last] := ⟨ins.dropLast, ins.getLast (by intro h; simp [h] at h1), (List.dropLast_concat_getLast _).symm⟩
    have hlast : lastOp (ini ++ [last]) = last.op := by simp [lastOp]
    rw [hlast]
    have w1 : IntKind.i64.wrap ((ini.length : Int) + 1 - 1) = ini.length := by rw [wrap_id (by unfold I64; simp at hl; omega)]; omega
    simp at w1
    simp only [List.length_append, List.length_cons, List.length_nil] at hl
    by_cases h2 : (ini.length : Int) + 1 ≤ 4096
    rotate_left
    · have h2' : (4096 : Int) < (ini.length : Int) + 1 := by omega
      simp [Tryd.f25, h2, h2', w1]
    have h2' : ¬ ((4096 : Int) < (ini.length : Int) + 1) := by omega
    by_cases h3 : 0 ≤ cells
    rotate_left
    · simp [Tryd.f25, h2, h2', h3, w1]
    by_cases h4 : cells ≤ 8192
    rotate_left
    · simp [Tryd.f25, h2, h2', h3, h4, w1]
    by_cases h5 : 0 ≤ vars
    rotate_left
    · simp [Tryd.f25, h2, h2', h3, h4, h5, w1]
    by_cases h6 : vars ≤ cells
    rotate_left
    · simp [Tryd.f25, h2, h2', h3, h4, h5, h6, w1]
    by_cases h7 : last.op = 15
    rotate_left
    · simp [Tryd.f25, h2, h2', h3, h4, h5, h6, h7, w1]
    have h8 : (1 : Int) ≤ (ini.length : Int) + 1 := by omega
    have hloop := fun B => forms_loop pins hp vars cells n1 n2 S T B ⟨h3, h4⟩ ini.length (ini ++ [last]) [] 0 .dead (by simp) (by simp; omega)
    simp [Tryd.f25, h2, h2', h3, h4, h5, h6, h7, h8, w1] at hloop ⊢
    obtain ⟨v', ct', h9⟩ := hloop _ _
    rw [h9]
    split
    · rename_i q; simp [q]
    · rename_i q; simp [q]
  · have c1 : (ins.length : Int) < 1 := by omega
    simp [Tryd.f25, c1, h1]
end Go.Am
end
section
namespace Go.Am
open Go Go.Proofs
set_option maxRecDepth 20000
section
variable (ins : List Ins) (vars cells : Int) (n2 : Nat) (T : List D)
theorem give_run (t : Bool) (S : List Bool) (hl : S.length ≤ 5000) :
    callT ctx 72 [.ptr 0 0 0, .d (.bool t)] [kBox ins vars cells (.vec 1 0 0 S.length) (.vec 2 0 0 n2), .vec 1 (bD S), .vec 1 T] =
      some (.ret (.d (.bool (decide (S.length < 64)))), [(0, kBox ins vars cells (.vec 1 1 0 (S.length + 1)) (.vec 2 0 0 n2)), (1, .vec 1 (bD (S ++ [t]))), (0, .vec 1 T)]) := by
  have g1 : S.length + 1 ≤ 140737488355328 ∧ S.length ≤ 4611686018427387903 := by omega
  have g2 : ((S.length : Int) + 1 ≤ 64) = (S.length < 64) := by simp; omega
  rw [run72 (by simp)]
  simp [Tryd.f72, g1, g2]
theorem empty_run (S : List D) (n1 : Nat) :
    callT ctx 49 [.ptr 0 0 0] [kBox ins vars cells (.vec 1 0 0 n1) (.vec 2 0 0 n2), .vec 1 S, .vec 1 T] =
      some (.ret (.d (.bool (decide (n1 = 0)))), [(0, kBox ins vars cells (.vec 1 0 0 n1) (.vec 2 0 0 n2)), (0, .vec 1 S), (0, .vec 1 T)]) := by
  rw [run49 (by simp)]
  by_cases q : n1 = 0 <;> simp [Tryd.f49, q]
theorem take_loop (n : Nat) (t : Bool) (A : List Bool) (hA : A.length ≤ 5000) : ∀ (rest pre : List Bool), (pre ++ rest).length = n → n ≤ 5000 → ∀ k : Kt,
    denK ctx 73 (.loop (Code.at (codeOf Tryd.f73) [1, 1, 0, 1, 0, 0])) ⟨54, gl0, [(0, true, .ptr 0 0 0), (1, true, .d (.int .i64 n)), (2, true, .d (.bool t)), (27, true, .vec 1 0 A.length n), (28, true, .d (.int .i64 n)), (29, true, .d (.int .i64 pre.length))],
      [⟨0, 0, kBox ins vars cells (.vec 1 0 0 (A ++ (pre ++ rest)).length) (.vec 2 0 0 n2)⟩, ⟨1, 0, .vec 1 (bD (A ++ (pre ++ rest)))⟩, ⟨2, 0, .vec 1 T⟩]⟩ k =
      if (t && rest.any (fun b => !b)) = true then k .ret ⟨54, gl0, [(6, true, .d (.bool false))], [⟨0, 0, kBox ins vars cells (.vec 1 0 0 (A ++ (pre ++ rest)).length) (.vec 2 0 0 n2)⟩, ⟨1, 0, .vec 1 (bD (A ++ (pre ++ rest)))⟩, ⟨2, 0, .vec 1 T⟩]⟩
      else k (.exit 0) ⟨54, gl0, [(0, true, .ptr 0 0 0), (1, true, .d (.int .i64 n)), (2, true, .d (.bool t)), (27, true, .vec 1 0 A.length n), (28, true, .d (.int .i64 n)), (29, true, .d (.int .i64 n)), (30, true, .d (.bool false))],
      [⟨0, 0, kBox ins vars cells (.vec 1 0 0 (A ++ (pre ++ rest)).length) (.vec 2 0 0 n2)⟩, ⟨1, 0, .vec 1 (bD (A ++ (pre ++ rest)))⟩, ⟨2, 0, .vec 1 T⟩]⟩
  | [], pre, hn, hl, k => by
    subst hn
    rw [denK_loop]
    simp [Tryd.f73]
  | x :: rest, pre, hn, hl, k => by
    have ih := take_loop n t A hA rest (pre ++ [x]) (by simpa using hn) hl k
    have h1 : (pre.length : Int) < n := by simp at hn; omega
    have h1' : pre.length < n := by omega
    have h2 : IntKind.i64.wrap ((pre.length : Int) + 1) = pre.length + 1 := wrap_id (by unfold I64; omega)
    rw [denK_loop]
    simp [Tryd.f73] at ih ⊢
    cases t
    · simp [h1, h1', h2] at ih ⊢
      exact ih
    · cases x
      · simp [h1, h1', h2]
      · simp [h1, h1', h2] at ih ⊢
        exact ih
theorem take_run (n : Nat) (t : Bool) (S : List Bool) (hl : S.length ≤ 5000) (hn : n ≤ 5000) :
    callT ctx 73 [.ptr 0 0 0, .d (.int .i64 n), .d (.bool t)] [kBox ins vars cells (.vec 1 0 0 S.length) (.vec 2 0 0 n2), .vec 1 (bD S), .vec 1 T] =
      match takeS n t S with
      | some S' => some (.ret (.d (.bool true)), [(0, kBox ins vars cells (.vec 1 1 0 S'.length) (.vec 2 0 0 n2)), (1, .vec 1 (bD S')), (0, .vec 1 T)])
      | none => some (.ret (.d (.bool false)), [(0, kBox ins vars cells (.vec 1 1 0 S.length) (.vec 2 0 0 n2)), (1, .vec 1 (bD S)), (0, .vec 1 T)]) := by
  rw [run73 (by simp)]
  unfold takeS
  by_cases h1 : S.length < n
  · have h1' : (S.length : Int) < n := by omega
    simp [Tryd.f73, h1, h1']
  · have h1' : ¬ ((S.length : Int) < n) := by omega
    obtain ⟨A, B, rfl, hB⟩ : ∃ A B, S = A ++ B ∧ B.length = n := ⟨S.take (S.length - n), S.drop (S.length - n), (List.take_append_drop _ _).symm, by simp; omega⟩
    have hA : (A ++ B).length - n = A.length := by simp; omega
    have w1 : IntKind.i64.wrap (((A ++ B).length : Int) - n) = A.length := by rw [wrap_id (by unfold I64; omega)]; simp; omega
    have hloop := take_loop ins vars cells n2 T n t A (by simp at hl; omega) B [] (by simpa using hB) hn
    have hAn : A.length + B.length - A.length = n := by omega
    have hAn2 : A.length + n - A.length = n := by omega
    subst hB
    rw [hA]
    have c1 : ¬ ((A.length : Int) + B.length < B.length) := by omega
    have c2 : (A.length : Int) ≤ (A.length : Int) + B.length := by omega
    have c3 : ((A.length : Int) + B.length).toNat - A.length = B.length := by omega
    have c4 : ¬ (A.length + B.length < B.length) := by omega
    simp at h1 h1' w1
    simp [Tryd.f73] at hloop ⊢
    simp [w1, c1, c2, c3, c4]
    rw [drwK_nil (by kernel_rfl)]
    simp [c1, c2, c3, c4, hloop]
    by_cases q : t = true ∧ false ∈ B
    · simp [q]
    · rw [if_neg q, if_neg q]
      simp [w1, c1, c2, c3, c4]
      rw [drwK_nil (by kernel_rfl)]
      simp [w1]
end
end Go.Am
end
section
namespace Go.Am
open Go Go.Proofs
set_option maxRecDepth 20000
section
variable (ins : List Ins) (vars cells : Int) (n2 : Nat) (T : List D)
def MovesOk (x : Ins) (S : List Bool) (r : Ans) : Prop := ∃ S' : List Bool, r = some (.ret (.d (.bool (movesS x S).isSome)), [(0, kBox ins vars cells (.vec 1 1 0 S'.length) (.vec 2 0 0 n2)), (1, .vec 1 (bD S')), (0, .vec 1 T)]) ∧ ∀ S2, movesS x S = some S2 → S2 = S'
theorem takeS_len {n : Nat} {t : Bool} {S S' : List Bool} (h : takeS n t S = some S') : S'.length ≤ S.length := by
  unfold takeS at h
  split at h
  · cases h
  · split at h
    · cases h
    · cases h; simp
set_option maxHeartbeats 4000000 in
theorem moves_run (x : Ins) (S : List Bool) (hl : S.length ≤ 64) :
    MovesOk ins vars cells n2 T x S (callT ctx 50 [.ptr 0 0 0, .d (insD x)] [kBox ins vars cells (.vec 1 0 0 S.length) (.vec 2 0 0 n2), .vec 1 (bD S), .vec 1 T]) := by
  rw [run50 (by simp)]
  unfold MovesOk movesS
  have hgt := give_run ins vars cells n2 T true S (by omega)
  have hgf := give_run ins vars cells n2 T false S (by omega)
  have he := empty_run ins vars cells n2 T (bD S) S.length
  simp at hgt hgf he
  by_cases e1 : x.op = 1
  · refine ⟨S ++ [decide (x.n = 0) || decide (x.n = 1)], ?_, ?_⟩
    · by_cases q : x.n = 0
      · simp [Tryd.f50, e1, q, hgt, giveS]
        split <;> simp [*]
      · by_cases q1 : x.n = 1
        · simp [Tryd.f50, e1, q1, hgt, giveS]
          split <;> simp [*]
        · simp [Tryd.f50, e1, q, q1, hgf, giveS]
          split <;> simp [*]
    · simp [e1, giveS]
  by_cases e2 : x.op = 2
  · refine ⟨S ++ [false], ?_, ?_⟩
    · simp [Tryd.f50, e2, hgf, giveS]
      split <;> simp [*]
    · simp [e2, giveS]
  by_cases e3 : x.op = 3
  · refine ⟨S ++ [true], ?_, ?_⟩
    · simp [Tryd.f50, e3, hgt, giveS]
      split <;> simp [*]
    · simp [e3, giveS]
  by_cases e13 : x.op = 13
  · refine ⟨S ++ [true], ?_, ?_⟩
    · simp [Tryd.f50, e13, hgt, giveS]
      split <;> simp [*]
    · simp [e13, giveS]
  by_cases e14 : x.op = 14
  · refine ⟨S ++ [true], ?_, ?_⟩
    · simp [Tryd.f50, e14, hgt, giveS]
      split <;> simp [*]
    · simp [e14, giveS]
  have ht1 := take_run ins vars cells n2 T 1 false S (by omega) (by omega)
  by_cases e4 : x.op = 4
  · cases q : takeS 1 false S with
    | none =>
      simp [q] at ht1
      refine ⟨S, ?_, ?_⟩
      · simp [Tryd.f50, e4, ht1, q]
      · simp [e4, q]
    | some S1 =>
      have hl1 := takeS_len q
      have hg1 := give_run ins vars cells n2 T false S1 (by omega)
      simp [q] at ht1
      simp at hg1
      refine ⟨S1 ++ [false], ?_, ?_⟩
      · simp [Tryd.f50, e4, ht1, hg1, q, giveS]
        split <;> simp [*]
      · simp [e4, q, giveS]
  by_cases e5 : x.op = 5
  · cases q : takeS 1 false S with
    | none =>
      simp [q] at ht1
      refine ⟨S, ?_, ?_⟩
      · simp [Tryd.f50, e5, ht1, q]
      · simp [e5, q]
    | some S1 =>
      have hl1 := takeS_len q
      have hg1 := give_run ins vars cells n2 T true S1 (by omega)
      simp [q] at ht1
      simp at hg1
      refine ⟨S1 ++ [true], ?_, ?_⟩
      · simp [Tryd.f50, e5, ht1, hg1, q, giveS]
        split <;> simp [*]
      · simp [e5, q, giveS]
  by_cases e6 : x.op = 6
  · cases q : takeS 1 false S with
    | none =>
      simp [q] at ht1
      refine ⟨S, ?_, ?_⟩
      · simp [Tryd.f50, e6, ht1, q]
      · simp [e6, q]
    | some S1 =>
      simp [q] at ht1
      refine ⟨S1, ?_, ?_⟩
      · simp [Tryd.f50, e6, ht1, q]
      · simp [e6, q]
  by_cases e7 : x.op = 7
  · have ht2 := take_run ins vars cells n2 T 2 false S (by omega) (by omega)
    cases q : takeS 2 false S with
    | none =>
      simp [q] at ht2
      refine ⟨S, ?_, ?_⟩
      · simp [Tryd.f50, e7, ht2, q]
      · simp [e7, q]
    | some S1 =>
      simp [q] at ht2
      refine ⟨S1, ?_, ?_⟩
      · simp [Tryd.f50, e7, ht2, q]
      · simp [e7, q]
  by_cases e10 : x.op = 10
  · have ht2 := take_run ins vars cells n2 T 1 true S (by omega) (by omega)
    cases q : takeS 1 true S with
    | none =>
      simp [q] at ht2
      refine ⟨S, ?_, ?_⟩
      · simp [Tryd.f50, e10, ht2, q]
      · simp [e10, q]
    | some S1 =>
      have he1 := empty_run ins vars cells n2 T (bD S1) S1.length
      simp at he1
      simp [q] at ht2
      refine ⟨S1, ?_, ?_⟩
      · simp [Tryd.f50, e10, ht2, q, emptyS, he1]
        split <;> simp [*]
      · simp [e10, q, emptyS]
  by_cases e8 : x.op = 8
  · obtain ⟨n, hn⟩ : ∃ n : Nat, n = (if x.b = 6 ∨ x.b = 7 then 1 else 2) := ⟨_, rfl⟩
    obtain ⟨g, hg⟩ : ∃ g, g = (decide (x.b = 7) || decide (13 ≤ x.b)) := ⟨_, rfl⟩
    have hn2 : n ≤ 2 := by rw [hn]; split <;> omega
    have ht2 := take_run ins vars cells n2 T n (decide (x.a = 1)) S (by omega) (by omega)
    rw [← hn, ← hg]
    have hc : (x.b = 6 ∧ n = 1 ∧ g = false) ∨ (x.b = 7 ∧ n = 1 ∧ g = true) ∨ (x.b ≠ 6 ∧ x.b ≠ 7 ∧ ¬ 13 ≤ x.b ∧ n = 2 ∧ g = false) ∨ (x.b ≠ 6 ∧ x.b ≠ 7 ∧ 13 ≤ x.b ∧ n = 2 ∧ g = true) := by
      rw [hn, hg]
      by_cases h6 : x.b = 6
      · simp [h6]
      · by_cases h7 : x.b = 7
        · simp [h7]
        · by_cases h13 : 13 ≤ x.b <;> simp [h6, h7, h13]
    clear hn hg
    cases q : takeS n (decide (x.a = 1)) S with
    | none =>
      simp [q] at ht2
      refine ⟨S, ?_, ?_⟩
      · rcases hc with ⟨h1, rfl, rfl⟩ | ⟨h1, rfl, rfl⟩ | ⟨h1, h2, h3, rfl, rfl⟩ | ⟨h1, h2, h3, rfl, rfl⟩
        · simp at ht2
          simp [Tryd.f50, e8, h1, ht2, q]
        · simp at ht2
          simp [Tryd.f50, e8, h1, ht2, q]
        · simp at ht2
          simp [Tryd.f50, e8, h1, h2, h3, ht2, q]
        · simp at ht2
          simp [Tryd.f50, e8, h1, h2, h3, ht2, q]
      · simp [e8, q]
    | some S1 =>
      have hl1 := takeS_len q
      have hg1 := give_run ins vars cells n2 T g S1 (by omega)
      simp [q] at ht2
      simp at hg1
      refine ⟨S1 ++ [g], ?_, ?_⟩
      · rcases hc with ⟨h1, rfl, rfl⟩ | ⟨h1, rfl, rfl⟩ | ⟨h1, h2, h3, rfl, rfl⟩ | ⟨h1, h2, h3, rfl, rfl⟩
        · simp at ht2
          simp [Tryd.f50, e8, h1, ht2, hg1, q, giveS]
          split <;> simp [*]
        · simp at ht2
          simp [Tryd.f50, e8, h1, ht2, hg1, q, giveS]
          split <;> simp [*]
        · simp at ht2
          simp [Tryd.f50, e8, h1, h2, h3, ht2, hg1, q, giveS]
          split <;> simp [*]
        · simp at ht2
          simp [Tryd.f50, e8, h1, h2, h3, ht2, hg1, q, giveS]
          split <;> simp [*]
      · simp [e8, q, giveS]
  · refine ⟨S, ?_, ?_⟩
    · simp [Tryd.f50, e1, e2, e3, e4, e5, e6, e7, e8, e10, e13, e14, emptyS, he]
      split <;> simp [*]
    · simp [e1, e2, e3, e4, e5, e6, e7, e8, e10, e13, e14, emptyS]
end
end Go.Am
end
section
namespace Go.Am
open Go Go.Proofs
set_option maxRecDepth 20000
def ledStep (l : List Bool) (x : Ins) : List Bool := if x.op = 9 ∨ x.op = 10 then l.set x.a.toNat true else l
theorem ledStep_len (l : List Bool) (x : Ins) : (ledStep l x).length = l.length := by unfold ledStep; split <;> simp
theorem bD_set (l : List Bool) (i : Nat) (b : Bool) : (bD l).set i (.bool b) = bD (l.set i b) := by simp [bD, List.map_set]
theorem movesS_len {x : Ins} {S S' : List Bool} (hl : S.length ≤ 64) (h : movesS x S = some S') : S'.length ≤ 64 := by
  have g : ∀ {t S S'}, giveS t S = some S' → S'.length ≤ 64 := by
    intro t S S' h
    unfold giveS at h
    split at h
    · cases h; simp; omega
    · cases h
  have e : ∀ {S S'}, emptyS S = some S' → S'.length ≤ 64 := by
    intro S S' h
    unfold emptyS at h
    split at h
    · cases h; simp
    · cases h
  have tk : ∀ {n t S'}, takeS n t S = some S' → S'.length ≤ 64 := fun h => Nat.le_trans (takeS_len h) hl
  unfold movesS at h
  repeat' split at h
  all_goals first
    | exact g h
    | exact e h
    | exact tk h
    | (obtain ⟨y, _, h2⟩ := Option.bind_eq_some_iff.1 h; exact g h2)
    | (obtain ⟨y, _, h2⟩ := Option.bind_eq_some_iff.1 h; exact e h2)
section
variable (ins : List Ins) (vars cells : Int)
theorem led_loop (B : Cont) : ∀ (rest pre : List Ins) (T : List Bool) (v : Nat) (ct : Cont), (pre ++ rest).length ≤ 5000 → (∀ x ∈ rest, x.op = 9 ∨ x.op = 10 → 0 ≤ x.a ∧ x.a < T.length) → ∀ k : Kt,
    ∃ v' ct', denK ctx 26 (.loop (Code.at (codeOf Tryd.f26) [1, 0, 1, 0, 0])) ⟨63, gl0, [(0, true, .ptr 0 0 0), (11, true, .d (.list ((pre ++ rest).map insD))), (12, true, .d (.int .i64 (pre ++ rest).length)), (13, true, .d (.int .i64 pre.length))],
        [⟨0, 0, kBox ins vars cells (.vec 1 0 0 0) (.vec 2 0 0 T.length)⟩, ⟨1, 0, .vec 1 []⟩, ⟨2, 0, .vec 1 (bD T)⟩, ⟨300, v, ct⟩, ⟨400, 0, B⟩]⟩ k =
      k (.exit 0) ⟨63, gl0, [(0, true, .ptr 0 0 0), (11, true, .d (.list ((pre ++ rest).map insD))), (12, true, .d (.int .i64 (pre ++ rest).length)), (13, true, .d (.int .i64 (pre ++ rest).length)), (14, true, .d (.bool false))],
        [⟨0, 0, kBox ins vars cells (.vec 1 0 0 0) (.vec 2 0 0 T.length)⟩, ⟨1, 0, .vec 1 []⟩, ⟨2, 0, .vec 1 (bD (rest.foldl ledStep T))⟩, ⟨300, v', ct'⟩, ⟨400, 0, B⟩]⟩
  | [], pre, T, v, ct, hl, hT, k => by
    refine ⟨v, ct, ?_⟩
    rw [denK_loop]
    simp [Tryd.f26]
  | x :: rest, pre, T, v, ct, hl, hT, k => by
    obtain ⟨v', ct', ih⟩ := led_loop B rest (pre ++ [x]) (ledStep T x) (v + 1) (.box [.d (.int .i64 x.op), .d (.int .i64 x.a), .d (.int .i64 x.b), .d (.int .i64 x.n), .d (.int .i64 x.m)]) (by simpa using hl) (fun y hy h => by rw [ledStep_len]; exact hT y (by simp [hy]) h) k
    refine ⟨v', ct', ?_⟩
    have h1 : (pre.length : Int) < pre.length + (rest.length + 1) := by omega
    have h2 : IntKind.i64.wrap ((pre.length : Int) + 1) = pre.length + 1 := wrap_id (by unfold I64; simp at hl; omega)
    rw [ledStep_len] at ih
    rw [denK_loop]
    by_cases e9 : x.op = 9
    · obtain ⟨a1, a2⟩ := hT x (by simp) (.inl e9)
      have a3 : x.a.toNat < T.length := by omega
      have e : ledStep T x = T.set x.a.toNat true := by simp [ledStep, e9]
      rw [e, ← bD_set] at ih
      simp [Tryd.f26, e9] at ih ⊢
      simp [h1, h2, a1, a3]
      rw [drwK_nil (by kernel_rfl)]
      simp [h2, e, ih]
    · by_cases e10 : x.op = 10
      · obtain ⟨a1, a2⟩ := hT x (by simp) (.inr e10)
        have a3 : x.a.toNat < T.length := by omega
        have e : ledStep T x = T.set x.a.toNat true := by simp [ledStep, e10]
        rw [e, ← bD_set] at ih
        simp [Tryd.f26, e10] at ih ⊢
        simp [h1, h2, a1, a3]
        rw [drwK_nil (by kernel_rfl)]
        simp [h2, e, ih]
      · have e : ledStep T x = T := by simp [ledStep, e9, e10]
        rw [e] at ih
        simp [Tryd.f26, e9, e10] at ih ⊢
        simp [h1, h2, e, ih]
theorem stk_loop (L : List Bool) : ∀ (rest pre : List Ins) (S : List Bool) (v v1 : Nat) (B : Cont), (pre ++ rest).length = L.length → L.length ≤ 5000 → S.length ≤ 64 → ∀ (C : Cont) (vc : Nat) (k : Kt),
    ∃ v' v1' ct' S', denK ctx 26 (.loop (Code.at (codeOf Tryd.f26) [1, 1, 0, 1, 0, 0])) ⟨63, gl0, [(0, true, .ptr 0 0 0), (37, true, .d (.list ((pre ++ rest).map insD))), (38, true, .d (.int .i64 (pre ++ rest).length)), (39, true, .d (.int .i64 pre.length))],
        [⟨0, 0, kBox ins vars cells (.vec 1 v1 0 S.length) (.vec 2 0 0 L.length)⟩, ⟨1, v1, .vec 1 (bD S)⟩, ⟨2, 0, .vec 1 (bD L)⟩, ⟨300, vc, C⟩, ⟨400, v, B⟩]⟩ k =
      if stackS L pre.length rest S = true then
        k (.exit 2) ⟨63, gl0, [(0, true, .ptr 0 0 0), (37, true, .d (.list ((pre ++ rest).map insD))), (38, true, .d (.int .i64 (pre ++ rest).length)), (39, true, .d (.int .i64 (pre ++ rest).length)), (40, true, .d (.bool false))],
          [⟨0, 0, kBox ins vars cells (.vec 1 v1' 0 (S' : List Bool).length) (.vec 2 0 0 L.length)⟩, ⟨1, v1', .vec 1 (bD S')⟩, ⟨2, 0, .vec 1 (bD L)⟩, ⟨300, vc, C⟩, ⟨400, v', ct'⟩]⟩
      else k .ret ⟨63, gl0, [(2, true, .d (.bool false))], [⟨0, 0, kBox ins vars cells (.vec 1 v1' 0 S'.length) (.vec 2 0 0 L.length)⟩, ⟨1, v1', .vec 1 (bD S')⟩, ⟨2, 0, .vec 1 (bD L)⟩, ⟨300, vc, C⟩, ⟨400, v', ct'⟩]⟩
  | [], pre, S, v, v1, B, hl, hL, hS, C, vc, k => by
    refine ⟨v, v1, B, S, ?_⟩
    rw [denK_loop]
    simp [Tryd.f26, stackS]
  | x :: rest, pre, S, v, v1, B, hl, hL, hS, C, vc, k => by
    have h1 : (pre.length : Int) < pre.length + (rest.length + 1) := by omega
    have h2 : IntKind.i64.wrap ((pre.length : Int) + 1) = pre.length + 1 := wrap_id (by unfold I64; simp at hl; omega)
    have hp : pre.length < L.length := by simp at hl; omega
    obtain ⟨S2, hm, hm2⟩ := moves_run ins vars cells L.length (bD L) x S hS
    have he := empty_run ins vars cells L.length (bD L) (bD S) S.length
    have hget : (L.getD pre.length false) = L[pre.length] := by simp [hp]
    cases hb : L[pre.length]
    · cases hmv : movesS x S with
      | none =>
        refine ⟨v + 1, v1 + 1, .box [.d (.int .i64 x.op), .d (.int .i64 x.a), .d (.int .i64 x.b), .d (.int .i64 x.n), .d (.int .i64 x.m)], S2, ?_⟩
        rw [denK_loop]
        have hst : stackS L pre.length (x :: rest) S = false := by simp [stackS, hget, hb, hmv]
        rw [hst]
        simp [hmv] at hm
        simp [Tryd.f26, h1, hp, hb, hm]
      | some S3 =>
        have hS3 := movesS_len hS hmv
        obtain rfl := hm2 S3 hmv
        obtain ⟨v', v1', ct', S', ih⟩ := stk_loop L rest (pre ++ [x]) S3 (v + 1) (v1 + 1) (.box [.d (.int .i64 x.op), .d (.int .i64 x.a), .d (.int .i64 x.b), .d (.int .i64 x.n), .d (.int .i64 x.m)]) (by simpa using hl) hL hS3 C vc k
        refine ⟨v', v1', ct', S', ?_⟩
        have hst : stackS L pre.length (x :: rest) S = stackS L (pre ++ [x]).length rest S3 := by rw [stackS, hget, hb]; simp [hmv]
        rw [hst, denK_loop]
        simp [hmv] at hm
        simp [Tryd.f26] at ih ⊢
        simp [h1, h2, hp, hb, hm, ih]
    · cases S with
      | nil =>
        simp at he
        cases hmv : movesS x [] with
        | none =>
          refine ⟨v + 1, v1 + 1, .box [.d (.int .i64 x.op), .d (.int .i64 x.a), .d (.int .i64 x.b), .d (.int .i64 x.n), .d (.int .i64 x.m)], S2, ?_⟩
          rw [denK_loop]
          have hst : stackS L pre.length (x :: rest) [] = false := by simp [stackS, hmv]
          rw [hst]
          simp [hmv] at hm
          simp [Tryd.f26, h1, hp, hb, hm, he]
        | some S3 =>
          have hS3 := movesS_len hS hmv
          obtain rfl := hm2 S3 hmv
          obtain ⟨v', v1', ct', S', ih⟩ := stk_loop L rest (pre ++ [x]) S3 (v + 1) (v1 + 1) (.box [.d (.int .i64 x.op), .d (.int .i64 x.a), .d (.int .i64 x.b), .d (.int .i64 x.n), .d (.int .i64 x.m)]) (by simpa using hl) hL hS3 C vc k
          refine ⟨v', v1', ct', S', ?_⟩
          have hst : stackS L pre.length (x :: rest) [] = stackS L (pre ++ [x]).length rest S3 := by simp [stackS, hmv]
          rw [hst, denK_loop]
          simp [hmv] at hm
          simp [Tryd.f26] at ih ⊢
          simp [h1, h2, hp, hb, hm, he, ih]
      | cons y S =>
        refine ⟨v + 1, v1, .box [.d (.int .i64 x.op), .d (.int .i64 x.a), .d (.int .i64 x.b), .d (.int .i64 x.n), .d (.int .i64 x.m)], y :: S, ?_⟩
        have hst : stackS L pre.length (x :: rest) (y :: S) = false := by rw [stackS, hget, hb]; simp
        rw [hst, denK_loop]
        simp at he
        simp [Tryd.f26, h1, hp, hb, he]
theorem stacks_run (hl : ins.length ≤ 5000) (hA : ∀ x ∈ ins, x.op = 9 ∨ x.op = 10 → 0 ≤ x.a ∧ x.a < ins.length) :
    ∃ S', callT ctx 26 [.ptr 0 0 0] [kBox ins vars cells (.vec 1 0 0 0) (.vec 2 0 0 ins.length), .vec 1 [], .vec 1 (bD (List.replicate ins.length false))] =
      some (.ret (.d (.bool (stackS (ledOf ins) 0 ins []))), [(0, kBox ins vars cells (.vec 1 1 0 (S' : List Bool).length) (.vec 2 1 0 ins.length)), (1, .vec 1 (bD S')), (1, .vec 1 (bD (ledOf ins)))]) := by
  have hll : (ledOf ins).length = ins.length := by
    have : ∀ (l : List Ins) (T : List Bool), (l.foldl ledStep T).length = T.length := by
      intro l
      induction l with
      | nil => intro T; rfl
      | cons x l ih => intro T; simp only [List.foldl_cons]; rw [ih, ledStep_len]
    rw [show ledOf ins = ins.foldl ledStep (List.replicate ins.length false) from rfl, this]; simp
  have h1 := fun B => led_loop ins vars cells B ins [] (List.replicate ins.length false) 0 .dead hl (by simpa using hA)
  rw [show ins.foldl ledStep (List.replicate ins.length false) = ledOf ins from rfl] at h1
  have h2 := fun C vc => stk_loop ins vars cells (ledOf ins) ins [] [] 0 0 .dead (by simp [hll]) (by omega) (by simp) C vc
  generalize ledOf ins = L at hll h1 h2
  generalize hr : callT ctx 26 _ _ = r
  rw [run26 (by simp)] at hr
  simp [Tryd.f26, hll] at h1 h2 hr
  obtain ⟨f1, h1⟩ := Classical.axiomOfChoice (h1 .dead)
  obtain ⟨f2, h1⟩ := Classical.axiomOfChoice h1
  rw [h1] at hr
  clear h1
  generalize f1 _ = a at hr
  generalize f2 _ = b at hr
  simp at hr
  replace h2 := h2 b a
  obtain ⟨g1, h2⟩ := Classical.axiomOfChoice h2
  obtain ⟨g2, h2⟩ := Classical.axiomOfChoice h2
  obtain ⟨g3, h2⟩ := Classical.axiomOfChoice h2
  obtain ⟨g4, h2⟩ := Classical.axiomOfChoice h2
  rw [h2] at hr
  clear h2
  generalize g1 _ = a1 at hr
  generalize g2 _ = a2 at hr
  generalize g3 _ = a3 at hr
  generalize g4 _ = S' at hr
  refine ⟨S', ?_⟩
  rw [← hr]
  have hl2 : ins.length ≤ L.length := by omega
  have ht : List.take ins.length (List.map D.bool L) = List.map D.bool L := by rw [← hll]; simp
  cases hq : stackS L 0 ins []
  · simp [hl2, ht]
  · simp [hl2, ht]
end
end Go.Am
end
section
namespace Go.Am
open Go Go.Proofs
set_option maxRecDepth 20000
theorem dfs_keeps (succ : Nat → List Nat) : ∀ f : Nat,
    (∀ at_ seen, (dfs succ f at_ seen).2.length = seen.length ∧ fresh (dfs succ f at_ seen).2 ≤ fresh seen) ∧ (∀ l seen, (dfsL succ f l seen).2.length = seen.length ∧ fresh (dfsL succ f l seen).2 ≤ fresh seen)
  | 0 => by
    have h0 : ∀ at_ seen, (dfs succ 0 at_ seen).2.length = seen.length ∧ fresh (dfs succ 0 at_ seen).2 ≤ fresh seen := fun at_ seen => by unfold dfs; exact ⟨rfl, Nat.le_refl _⟩
    refine ⟨h0, fun l seen => ?_⟩
    cases l with
    | nil => unfold dfsL; exact ⟨rfl, Nat.le_refl _⟩
    | cons n r => unfold dfsL dfs; exact ⟨rfl, Nat.le_refl _⟩
  | f + 1 => by
    have hd : ∀ at_ seen, (dfs succ (f + 1) at_ seen).2.length = seen.length ∧ fresh (dfs succ (f + 1) at_ seen).2 ≤ fresh seen := by
      intro at_ seen
      unfold dfs
      split
      · exact ⟨rfl, Nat.le_refl _⟩
      · have h := (dfs_keeps succ f).2 (succ at_) (seen.set at_ 1)
        have h1 := fresh_set_le (l := seen) (i := at_) (v := 1) (by decide)
        obtain ⟨s, b, he⟩ : ∃ s b, dfsL succ f (succ at_) (seen.set at_ 1) = (b, s) := ⟨_, _, rfl⟩
        rw [he] at h ⊢
        simp only [List.length_set] at h
        cases b with
        | true => exact ⟨h.1, by simp only; omega⟩
        | false =>
          have h2 := fresh_set_le (l := s) (i := at_) (v := 2) (by decide)
          exact ⟨by simp only [List.length_set]; exact h.1, by simp only; omega⟩
    refine ⟨hd, fun l => ?_⟩
    induction l with
    | nil => intro seen; unfold dfsL; exact ⟨rfl, Nat.le_refl _⟩
    | cons n r ih =>
      intro seen
      unfold dfsL
      have h := hd n seen
      obtain ⟨s, b, he⟩ : ∃ s b, dfs succ (f + 1) n seen = (b, s) := ⟨_, _, rfl⟩
      rw [he] at h ⊢
      cases b with
      | true => exact h
      | false =>
        have h2 := ih s
        simp only at h
        exact ⟨by simp only; rw [h2.1, h.1], by simp only; omega⟩
@[simp] def iD (l : List Nat) : List D := l.map fun (n : Nat) => D.int .i64 (n : Int)
def nextL (i : Nat) (x : Ins) : List Nat := if x.op = 9 then [x.a.toNat] else if x.op = 10 then [i + 1, x.a.toNat] else if x.op = 15 then [] else [i + 1]
theorem next_run (i : Nat) (x : Ins) (hi : i < 5000) (ha : x.op = 9 ∨ x.op = 10 → 0 ≤ x.a) : callT ctx 74 [.d (.int .i64 i), .d (insD x)] [] = some (.ret (.d (.list (iD (nextL i x)))), []) := by
  have w : IntKind.i64.wrap ((i : Int) + 1) = i + 1 := wrap_id (by unfold I64; omega)
  rw [run74 (by simp)]
  unfold nextL
  by_cases e9 : x.op = 9
  · have h := ha (.inl e9)
    have h2 : max x.a 0 = x.a := by omega
    simp [Tryd.f74, e9, h2]
  by_cases e10 : x.op = 10
  · have h := ha (.inr e10)
    have h2 : max x.a 0 = x.a := by omega
    simp [Tryd.f74, e10, w, h2, List.range']
  by_cases e15 : x.op = 15
  · simp [Tryd.f74, e15]
  · simp [Tryd.f74, e9, e10, e15, w]
section
variable (ins : List Ins) (vars cells : Int) (n1 n2 : Nat) (S T : List D)
def RoundOk (f : Nat) : Prop := ∀ (at_ : Nat) (seen : List Nat), fresh seen < f → at_ < ins.length → seen.length = ins.length →
    callT ctx 51 [.ptr 0 0 0, .d (.int .i64 at_), .vec 1 0 0 ins.length] [kBox ins vars cells (.vec 2 0 0 n1) (.vec 3 0 0 n2), .vec 1 (iD seen), .vec 1 S, .vec 1 T] =
      some (.ret (.d (.bool (dfs (succP ins) f at_ seen).1)), [(0, kBox ins vars cells (.vec 2 0 0 n1) (.vec 3 0 0 n2)), (0, .vec 1 (iD (dfs (succP ins) f at_ seen).2)), (0, .vec 1 S), (0, .vec 1 T)])
theorem round_loop (hlen : ins.length ≤ 5000) (f at_ : Nat) (hr : RoundOk ins vars cells n1 n2 S T f) : ∀ (rest pre : List Nat) (seen : List Nat), fresh seen < f → (pre ++ rest).length < 5000 → (∀ n ∈ rest, n < ins.length) → seen.length = ins.length → ∀ k : Kt,
    denK ctx 51 (.loop (Code.at (codeOf Tryd.f51) [1, 1, 1, 0, 1, 0, 1, 0, 0])) ⟨67, gl0, [(0, true, .ptr 0 0 0), (1, true, .d (.int .i64 at_)), (2, true, .vec 1 0 0 ins.length), (41, true, .d (.list (iD (pre ++ rest)))), (42, true, .d (.int .i64 (pre ++ rest).length)), (43, true, .d (.int .i64 pre.length))],
        [⟨0, 0, kBox ins vars cells (.vec 2 0 0 n1) (.vec 3 0 0 n2)⟩, ⟨1, 0, .vec 1 (iD seen)⟩, ⟨2, 0, .vec 1 S⟩, ⟨3, 0, .vec 1 T⟩]⟩ k =
      if (dfsL (succP ins) f (rest.filter fun j => !tickAt ins j) seen).1 = true then
        k .ret ⟨67, gl0, [(6, true, .d (.bool true))], [⟨0, 0, kBox ins vars cells (.vec 2 0 0 n1) (.vec 3 0 0 n2)⟩, ⟨1, 0, .vec 1 (iD (dfsL (succP ins) f (rest.filter fun j => !tickAt ins j) seen).2)⟩, ⟨2, 0, .vec 1 S⟩, ⟨3, 0, .vec 1 T⟩]⟩
      else k (.exit 0) ⟨67, gl0, [(0, true, .ptr 0 0 0), (1, true, .d (.int .i64 at_)), (2, true, .vec 1 0 0 ins.length), (41, true, .d (.list (iD (pre ++ rest)))), (42, true, .d (.int .i64 (pre ++ rest).length)), (43, true, .d (.int .i64 (pre ++ rest).length)), (44, true, .d (.bool false))],
        [⟨0, 0, kBox ins vars cells (.vec 2 0 0 n1) (.vec 3 0 0 n2)⟩, ⟨1, 0, .vec 1 (iD (dfsL (succP ins) f (rest.filter fun j => !tickAt ins j) seen).2)⟩, ⟨2, 0, .vec 1 S⟩, ⟨3, 0, .vec 1 T⟩]⟩
  | [], pre, seen, hf, hl, hn, hs, k => by
    rw [denK_loop]
    simp [Tryd.f51, dfsL]
  | n :: rest, pre, seen, hf, hl, hn, hs, k => by
    have hn0 := hn n (by simp)
    have hget : ins[n]? = some ins[n] := by simp [hn0]
    have h1 : (pre.length : Int) < pre.length + (rest.length + 1) := by omega
    have h2 : IntKind.i64.wrap ((pre.length : Int) + 1) = pre.length + 1 := wrap_id (by unfold I64; simp at hl; omega)
    by_cases ht : ins[n].op = 11
    · have htk : tickAt ins n = true := by simp [tickAt, hget, ht]
      have ih := round_loop hlen f at_ hr rest (pre ++ [n]) seen hf (by simpa using hl) (fun m hm => hn m (by simp [hm])) hs k
      rw [denK_loop]
      simp [Tryd.f51, htk] at ih ⊢
      simp [h1, h2, hn0, ht, ih]
    · have htk : tickAt ins n = false := by simp [tickAt, hget, ht]
      have hc := hr n seen hf hn0 hs
      have hk := (dfs_keeps (succP ins) f).1 n seen
      have e : dfsL (succP ins) f ((n :: rest).filter fun j => !tickAt ins j) seen = if (dfs (succP ins) f n seen).1 = true then (true, (dfs (succP ins) f n seen).2) else dfsL (succP ins) f (rest.filter fun j => !tickAt ins j) (dfs (succP ins) f n seen).2 := by
        rw [List.filter_cons, htk]
        simp only [Bool.not_false, if_true]
        rw [dfsL]
        obtain ⟨s, b, he⟩ : ∃ s b, dfs (succP ins) f n seen = (b, s) := ⟨_, _, rfl⟩
        rw [he]
        cases b <;> rfl
      rw [e]
      obtain ⟨s, b, he⟩ : ∃ s b, dfs (succP ins) f n seen = (b, s) := ⟨_, _, rfl⟩
      rw [he] at hc hk ⊢
      simp only at hk
      rw [denK_loop]
      cases b
      · have ih := round_loop hlen f at_ hr rest (pre ++ [n]) s (by omega) (by simpa using hl) (fun m hm => hn m (by simp [hm])) (by omega) k
        simp [Tryd.f51] at ih hc ⊢
        simp [h1, h2, hn0, ht, hc, ih]
      · simp at hc
        simp [Tryd.f51]
        simp [h1, h2, hn0, ht, hc]
end
end Go.Am
end
section
namespace Go.Am
open Go Go.Proofs
set_option maxRecDepth 20000
/-- Where an instruction leads is one. -/
def Inside (ins : List Ins) : Prop := ∀ i x, ins[i]? = some x → (x.op = 9 ∨ x.op = 10 → 0 ≤ x.a ∧ x.a < (ins.length : Int)) ∧ (x.op ≠ 9 → x.op ≠ 15 → i + 1 < ins.length)
theorem inside_of {pins : Int → Nat} {ins : List Ins} {vars cells : Int} (h : okForms pins ins vars cells = true) : Inside ins := by
  intro i x hx
  simp only [okForms, Bool.and_eq_true] at h
  have hf := forms_get h.2 i _ hx
  have hi : i < ins.length := (List.getElem?_eq_some_iff.1 hx).1
  simp only [Nat.zero_add] at hf
  have hlast : i + 1 = ins.length → x.op = 15 := by
    intro h1
    have h2 := h.1
    simp only [headB, Bool.and_eq_true, decide_eq_true_eq] at h2
    have h3 := h2.2
    unfold lastOp at h3
    rw [List.getLast?_eq_getElem?, show ins.length - 1 = i by omega, hx] at h3
    simpa using h3
  refine ⟨fun hj => ?_, fun h9 h15 => ?_⟩
  · unfold formB at hf
    rcases hj with hj | hj <;> simp [hj] at hf <;> omega
  · have : i + 1 ≠ ins.length := fun h => h15 (hlast h)
    omega
section
variable (ins : List Ins) (vars cells : Int) (n1 n2 : Nat) (S T : List D)
theorem nextL_len (i : Nat) (x : Ins) : (nextL i x).length ≤ 2 := by
  unfold nextL
  repeat' split
  all_goals simp
theorem next_in (hin : Inside ins) {i : Nat} (hi : i < ins.length) : ∀ j ∈ nextL i ins[i], j < ins.length := by
  have h := hin i ins[i] (by simp [hi])
  intro j hj
  unfold nextL at hj
  split at hj
  · rename_i h9
    have := h.1 (.inl h9)
    simp at hj; omega
  · rename_i h9
    split at hj
    · rename_i h10
      have := h.1 (.inr h10)
      have := h.2 h9 (by omega)
      simp at hj; omega
    · split at hj
      · simp at hj
      · rename_i h15
        have := h.2 h9 h15
        simp at hj; omega
theorem succP_eq {i : Nat} (hi : i < ins.length) : succP ins i = if ins[i].op = 11 then [] else (nextL i ins[i]).filter fun j => !tickAt ins j := by
  have hx : ins[i]? = some ins[i] := by simp [hi]
  unfold succP succI tickAt nextI nextL
  rw [hx]
  simp only [decide_eq_true_eq]
  split <;> rfl
theorem round_all (hlen : ins.length ≤ 5000) (hin : Inside ins) : ∀ f, RoundOk ins vars cells n1 n2 S T f
  | 0 => fun at_ seen hf _ _ => by omega
  | f + 1 => by
    intro at_ seen hf hat hs
    have hat2 : at_ < seen.length := by omega
    have hget : seen.getD at_ 0 = seen[at_] := by simp [hat2]
    rw [run51 (by simp)]
    unfold dfs
    rw [hget]
    by_cases h0 : seen[at_] = 0
    · rw [if_neg (by simp [h0])]
      have hfr := fresh_set (l := seen) (i := at_) (v := 1) (by rw [hget]; exact h0) hat2 (by decide)
      have hset : (iD seen).set at_ (.int .i64 1) = iD (seen.set at_ 1) := by simp [iD, List.map_set]
      rw [succP_eq ins hat]
      by_cases ht : ins[at_].op = 11
      · rw [if_pos ht]
        have hset2 : ((iD seen).set at_ (.int .i64 1)).set at_ (.int .i64 2) = iD ((seen.set at_ 1).set at_ 2) := by simp [iD, List.map_set]
        simp at hset2
        simp [Tryd.f51, hat2, hat, h0, ht, dfsL, hset2]
      · rw [if_neg ht]
        have hn := next_run at_ ins[at_] (by omega) (fun h => ((hin at_ _ (by simp [hat])).1 h).1)
        have hloop := round_loop ins vars cells n1 n2 S T hlen f at_ (round_all hlen hin f) (nextL at_ ins[at_]) [] (seen.set at_ 1) (by omega) (by have := nextL_len at_ ins[at_]; simp; omega) (next_in ins hin hat) (by simp; omega)
        simp only [List.nil_append, List.length_nil] at hloop
        rw [← hset] at hloop
        have hk := (dfs_keeps (succP ins) f).2 ((nextL at_ ins[at_]).filter fun j => !tickAt ins j) (seen.set at_ 1)
        obtain ⟨s, b, he⟩ : ∃ s b, dfsL (succP ins) f ((nextL at_ ins[at_]).filter fun j => !tickAt ins j) (seen.set at_ 1) = (b, s) := ⟨_, _, rfl⟩
        rw [he] at hloop hk ⊢
        have hset3 : (iD s).set at_ (.int .i64 2) = iD (s.set at_ 2) := by simp [iD, List.map_set]
        simp only [List.length_set] at hk
        have hs3 : at_ < s.length := by omega
        simp at hset3
        cases b
        · simp [Tryd.f51] at hn hloop ⊢
          simp [hat2, hat, h0, ht, hn, hloop, hs3, hset3]
        · simp [Tryd.f51] at hn hloop ⊢
          simp [hat2, hat, h0, ht, hn, hloop]
    · rw [if_pos h0]
      simp [Tryd.f51, hat2, hat, h0]
      generalize seen[at_] = z
      by_cases q : z = 1
      · subst q; rfl
      · have q2 : ¬ ((z : Int) = 1) := by omega
        simp [q, q2]
theorem rounds_loop (hlen : ins.length ≤ 5000) (hin : Inside ins) : ∀ (rest pre : List Nat) (seen : List Nat), pre ++ rest = List.range ins.length → seen.length = ins.length → ∀ (v : Nat) (k : Kt),
    ∃ v' s', denK ctx 27 (.loop (Code.at (codeOf Tryd.f27) [1, 1, 0, 1, 0, 0])) ⟨26, gl0, [(0, true, .ptr 0 0 0), (3, true, .vec 650 v 0 ins.length), (17, true, .d (.int .i64 ins.length)), (18, true, .d (.int .i64 pre.length))],
        [⟨0, 0, kBox ins vars cells (.vec 1 0 0 n1) (.vec 2 0 0 n2)⟩, ⟨1, 0, .vec 1 S⟩, ⟨2, 0, .vec 1 T⟩, ⟨650, v, .vec 1 (iD seen)⟩]⟩ k =
      if rounds (succP ins) (ins.length + 1) rest seen = true then
        k .ret ⟨26, gl0, [(2, true, .d (.bool true))], [⟨0, 0, kBox ins vars cells (.vec 1 0 0 n1) (.vec 2 0 0 n2)⟩, ⟨1, 0, .vec 1 S⟩, ⟨2, 0, .vec 1 T⟩, ⟨650, v', .vec 1 (iD s')⟩]⟩
      else k (.exit 0) ⟨26, gl0, [(0, true, .ptr 0 0 0), (3, true, .vec 650 v' 0 ins.length), (17, true, .d (.int .i64 ins.length)), (18, true, .d (.int .i64 ins.length)), (19, true, .d (.bool false))],
        [⟨0, 0, kBox ins vars cells (.vec 1 0 0 n1) (.vec 2 0 0 n2)⟩, ⟨1, 0, .vec 1 S⟩, ⟨2, 0, .vec 1 T⟩, ⟨650, v', .vec 1 (iD s')⟩]⟩
  | [], pre, seen, hp, hs, v, k => by
    refine ⟨v, seen, ?_⟩
    have hpl : pre.length = ins.length := by simpa using congrArg List.length hp
    rw [denK_loop]
    simp [Tryd.f27, rounds, hpl]
  | n :: rest, pre, seen, hp, hs, v, k => by
    have hpl : pre.length + (rest.length + 1) = ins.length := by simpa using congrArg List.length hp
    have hn : n = pre.length := by
      have := congrArg (fun l => l[pre.length]?) hp
      simp at this
      rw [List.getElem?_range (by omega)] at this
      simpa using this
    have h1 : pre.length < ins.length := by omega
    have h2 : IntKind.i64.wrap ((pre.length : Int) + 1) = pre.length + 1 := wrap_id (by unfold I64; omega)
    have hfr : fresh seen ≤ seen.length := List.countP_le_length
    have hr := round_all ins vars cells n1 n2 S T hlen hin (ins.length + 1) pre.length seen (by omega) (by omega) hs
    have hk := ((dfs_keeps (succP ins) (ins.length + 1)).1 pre.length seen).1
    subst hn
    rw [rounds]
    obtain ⟨s, b, he⟩ : ∃ s b, dfs (succP ins) (ins.length + 1) pre.length seen = (b, s) := ⟨_, _, rfl⟩
    rw [he] at hr hk ⊢
    simp only at hk
    cases b
    · obtain ⟨v', s', ih⟩ := rounds_loop hlen hin rest (pre ++ [pre.length]) s (by simpa using hp) (by omega) v k
      refine ⟨v', s', ?_⟩
      rw [denK_loop]
      simp [Tryd.f27] at ih hr ⊢
      simp [h1, h2, hr, ih]
    · refine ⟨v, s, ?_⟩
      rw [denK_loop]
      simp at hr
      simp [Tryd.f27]
      simp [h1, h2, hr]
theorem rounds_run (hlen : ins.length ≤ 5000) (hin : Inside ins) :
    callT ctx 27 [.ptr 0 0 0] [kBox ins vars cells (.vec 1 0 0 n1) (.vec 2 0 0 n2), .vec 1 S, .vec 1 T] =
      some (.ret (.d (.bool (rounds (succP ins) (ins.length + 1) (List.range ins.length) (List.replicate ins.length 0)))), [(0, kBox ins vars cells (.vec 1 0 0 n1) (.vec 2 0 0 n2)), (0, .vec 1 S), (0, .vec 1 T)]) := by
  have h1 := rounds_loop ins vars cells n1 n2 S T hlen hin (List.range ins.length) [] (List.replicate ins.length 0) rfl (by simp) 1
  obtain ⟨f1, h1⟩ := Classical.axiomOfChoice h1
  obtain ⟨f2, h1⟩ := Classical.axiomOfChoice h1
  have g1 : (ins.length : Int) * 8 ≤ 140737488355328 ∧ (ins.length : Int) ≤ 4611686018427387904 := by omega
  rw [run27 (by simp)]
  simp [Tryd.f27] at h1 ⊢
  simp [g1, h1]
  cases hq : rounds (succP ins) (ins.length + 1) (List.range ins.length) (List.replicate ins.length 0) <;> simp
  trace_state
end
end Go.Am
end
section
namespace Go.Am
open Go Go.Proofs
set_option maxRecDepth 20000
@[simp] def codeD (ins : List Ins) (vars cells : Int) : D := .agg [.list (ins.map insD), .int .i64 vars, .int .i64 cells]
theorem checkCode_run (pins : Int → Nat) (hp : PinsOk 38 pins) (ins : List Ins) (vars cells : Int) (hl : ins.length ≤ 5000) :
    callT ctx 14 [.d (codeD ins vars cells)] [] = some (.ret (.d (.bool (okCode pins ins vars cells))), []) := by
  have hf := forms_run pins hp ins vars cells 0 ins.length [] (bD (List.replicate ins.length false)) hl
  have g1 : (ins.length : Int) ≤ 140737488355328 ∧ (ins.length : Int) ≤ 4611686018427387904 := by omega
  rw [run14 (by simp)]
  unfold okCode
  cases hq : okForms pins ins vars cells
  · simp [hq] at hf
    simp [Tryd.f14, g1]
    rw [drwK_nil (by kernel_rfl)]
    simp [hf]
  · have hin := inside_of hq
    obtain ⟨S', hs⟩ := stacks_run ins vars cells hl (fun x hx h => by
      obtain ⟨i, hi, rfl⟩ := List.getElem_of_mem hx
      exact (hin i _ (by simp [hi])).1 h)
    have hr := rounds_run ins vars cells S'.length ins.length (bD S') (bD (ledOf ins)) hl hin
    simp [hq] at hf hs hr
    simp [Tryd.f14, g1]
    rw [drwK_nil (by kernel_rfl)]
    simp [hf, hs]
    cases hq2 : stackS (ledOf ins) 0 ins []
    · simp
    · simp [hr]
end Go.Am
end
section
namespace Go.Am
open Go Go.Proofs
set_option maxRecDepth 20000
@[simp] def rM (ins : List Ins) (vars cells : Int) (s : Ms) (G : List Int) (v : Nat) (c : Cont) : Mem :=
  [⟨250, 1, .box [.d (.list (ins.map insD)), .d (.int .i64 vars), .d (.int .i64 cells)]⟩, ⟨400, 1, .box [.lit (.slice none 0 0), .d (.int .i64 0), .d (.int .i64 0)]⟩, ⟨500, v, c⟩, ⟨1701, 2, .vec 1 (s.cells.map jD)⟩,
   ⟨2150, 1, .box (mB (.d (.list (ins.map insD))) vars cells (.vec 1701 2 0 s.cells.length) s.stk G s.stk.length s.at_ s.fuel s.fault)⟩, ⟨4051, 0, .dead⟩]
theorem run_loop (ins : List Ins) (vars cells : Int) {r : Nat → Nat} {st : Nat → List Bool} {n : Nat} (hg : Good pinsN n ins r st) (hl : InsOk ins) (k : Kt) (R : Ans) {s t : Ms} (h : RunsF ins s t) : VInv ins st n s →
    (∀ X v c G, t.stk.length + G.length = 64 → k (.exit 0) ⟨89, gl0, (3, true, .ptr 250 1 0) :: (6, true, .ptr 400 1 0) :: (7, true, .ptr 2150 1 0) :: X, rM ins vars cells t G v c⟩ = R) →
    ∀ X v c G, s.stk.length + G.length = 64 →
    denK ctx 10 (.loop (Code.at (codeOf Tryd.f10) [1, 1, 1, 0, 0, 0])) ⟨89, gl0, (3, true, .ptr 250 1 0) :: (6, true, .ptr 400 1 0) :: (7, true, .ptr 2150 1 0) :: X, rM ins vars cells s G v c⟩ k = R := by
  induction h with
  | fault s h =>
    intro hv hx X v c G hG
    have hx := hx [(46, true, .d (.bool false))] v c G hG
    simp at hx
    rw [denK_loop]
    simp [Tryd.f10, mB_len hG, mB_g71 hG, h, hx]
  | fin s x h0 hxx h15 =>
    intro hv hx X v c G hG
    have hlt := (hv.here h0).1
    have hp := hv.nums.place
    have hxe : ins[s.at_.toNat] = x := by
      rw [List.getElem?_eq_getElem hlt] at hxx
      exact Option.some.inj hxx
    have hx := hx [(8, true, .ptr 500 (v + 1) 0), (57, true, .d (.bool true))] (v + 1) (.box [.d (.int .i64 x.op), .d (.int .i64 x.a), .d (.int .i64 x.b), .d (.int .i64 x.n), .d (.int .i64 x.m)]) G hG
    simp [h15, h0] at hx
    rw [denK_loop]
    simp [Tryd.f10, mB_len hG, mB_g69 hG, mB_g71 hG, h0, hlt, hp.1, hxe, h15, drwK_end, hx]
  | step s x t h0 hxx h15 h' ih =>
    intro hv hx X v c G hG
    obtain ⟨hfit, hop, hv', _⟩ := step_inv hg hl hv h0 hxx h15
    have ih := ih hv' hx
    have hlt := (hv.here h0).1
    have hp := hv.nums.place
    have hlen := hg.len
    have hxe : ins[s.at_.toNat] = x := by
      rw [List.getElem?_eq_getElem hlt] at hxx
      exact Option.some.inj hxx
    have hN1 : NumsOk { s with at_ := s.at_ + 1 } := ⟨hv.nums.cells, hv.nums.stk, hv.nums.few, hv.nums.fuel, by simp only; omega⟩
    have w1 : IntKind.i64.wrap (s.at_ + 1) = s.at_ + 1 := wrap_id (by unfold I64; omega)
    clear hx hv' hv
    by_cases h7 : x.op ≤ 7
    · obtain ⟨t1, G', e1, e2, e3⟩ := vmoves_run (.list (ins.map insD)) vars cells x { s with at_ := s.at_ + 1 } G hG hN1.few hfit ⟨hop.1, h7⟩
      have e4 : stepF x s = t1 := by unfold stepF; rw [e1]
      rw [e4] at ih
      have ih := ih [(8, true, .ptr 500 (v + 1) 0), (68, true, .d (.bool false))] (v + 1) (.box [.d (.int .i64 x.op), .d (.int .i64 x.a), .d (.int .i64 x.b), .d (.int .i64 x.n), .d (.int .i64 x.m)]) G' e2
      simp [mC, mC2, h0] at e3
      rw [denK_loop]
      simp [Tryd.f10] at ih ⊢
      simp [mB_len hG, mB_g69 hG, mB_g71 hG, mB_set69 hG, mB_keys, mB_vws, mB_ups, h0, hlt, hp.1, hxe, h15, w1, e3, drwK_end, ih]
    · obtain ⟨e1, e3⟩ := vmoves_none (.list (ins.map insD)) vars cells x { s with at_ := s.at_ + 1 } G (by omega)
      obtain ⟨G', e2, e5⟩ := control_run (.list (ins.map insD)) vars cells x { s with at_ := s.at_ + 1 } G hG hfit hN1 ⟨by omega, hop.2⟩
      have e4 : stepF x s = ctlF x { s with at_ := s.at_ + 1 } := by unfold stepF; rw [e1]
      rw [e4] at ih
      have ih := ih [] (v + 1) (.box [.d (.int .i64 x.op), .d (.int .i64 x.a), .d (.int .i64 x.b), .d (.int .i64 x.n), .d (.int .i64 x.m)]) G' e2
      generalize ctlF x { s with at_ := s.at_ + 1 } = t1 at *
      simp [mC, mC2, h0] at e3 e5
      rw [denK_loop]
      simp [Tryd.f10] at ih ⊢
      simp [mB_len hG, mB_g69 hG, mB_g71 hG, mB_set69 hG, mB_keys, mB_vws, mB_ups, h0, hlt, hp.1, hxe, h15, w1, e3, e5, drwK_end, ih]
end Go.Am
end
section
namespace Go.Am
open Go Go.Proofs
set_option maxRecDepth 20000
@[simp] def ranD (C : List Int) (fault fuel : Int) : D := .agg [.list (C.map jD), .int .i64 fault, .int .i64 fuel]
theorem vrun_bad (ins : List Ins) (vars cells : Int) (C : List Int) (fuel : Int) (hl : ins.length ≤ 5000) (hC : C.length ≤ 100000)
    (h : okCode pinsN ins vars cells = false ∨ (C.length : Int) ≠ vars ∨ fuel < 0 ∨ 16384 < fuel) :
    callT ctx 10 [.d (codeD ins vars cells), .d (.list (C.map jD)), .d (.int .i64 fuel)] [] = some (.ret (.d (ranD C 0 (-1))), []) := by
  have hc := checkCode_run pinsN pins_ok ins vars cells hl
  have hcl := clone64_run C hC
  have ht : (C.map jD).take C.length = C.map jD := List.take_of_length_le (by simp)
  rw [run10 (by simp)]
  generalize okCode pinsN ins vars cells = ok at *
  simp at hc hcl
  cases ok
  · simp [Tryd.f10, hc, hcl, ht]
  · by_cases h1 : (C.length : Int) = vars
    · by_cases h2 : fuel < 0
      · simp [Tryd.f10, hc, hcl, ht, h1, h2]
      · by_cases h3 : 16384 < fuel
        · simp [Tryd.f10, hc, hcl, ht, h1, h2, h3]
        · rcases h with h | h | h | h
          · cases h
          · exact absurd h1 h
          · exact absurd h h2
          · exact absurd h h3
    · simp [Tryd.f10, hc, hcl, ht, h1]
/-- The state in which code begins. -/
def s0 (C : List Int) (cells : Nat) (fuel : Int) : Ms := ⟨C ++ List.replicate (cells - C.length) 0, [], 0, fuel, 0⟩
theorem s0_inv {l : List Ins} {r : Nat → Nat} {st : Nat → List Bool} {n : Nat} (hg : Good pinsN n l r st) {C : List Int} (hI : ∀ x ∈ C, I64 x) (hC : C.length ≤ n) (hn : n ≤ 8192) {fuel : Int} (hf : 0 ≤ fuel ∧ fuel ≤ 16384) : VInv l st n (s0 C n fuel) := by
  have h1 := hg.len
  refine ⟨⟨fun x hx => ?_, by simp [s0], by simp [s0]; omega, hf, by simp [s0]⟩, by simp [s0]; omega, by simp [s0], fun _ => ⟨by simp [s0]; omega, by simp [s0, hg.st0]⟩⟩
  unfold s0 at hx
  rcases List.mem_append.1 hx with hx | hx
  · exact hI x hx
  · rw [(List.mem_replicate.1 hx).2]; exact I64_0
theorem vrun_ok (ins : List Ins) (vars cells : Int) (C : List Int) (fuel : Int) (hok : okCode pinsN ins vars cells = true) (hv : (C.length : Int) = vars) (hf : 0 ≤ fuel ∧ fuel ≤ 16384) (hl : InsOk ins) (hI : ∀ x ∈ C, I64 x) (t : Ms)
    (ht : RunsF ins (s0 C cells.toNat fuel) t) (htv : t.cells.length = cells.toNat ∧ t.stk.length ≤ 64) :
    callT ctx 10 [.d (codeD ins vars cells), .d (.list (C.map jD)), .d (.int .i64 fuel)] [] = some (.ret (.d (ranD (t.cells.take vars.toNat) t.fault t.fuel)), []) := by
  obtain ⟨⟨c1, c2, c3, c4⟩, r, st, hg⟩ := good_of hok
  have hlen := hg.len
  obtain ⟨n, rfl⟩ : ∃ n : Nat, cells = (n : Int) := ⟨cells.toNat, by omega⟩
  have hCn : C.length ≤ n := by omega
  have hc := checkCode_run pinsN pins_ok ins vars n (by omega)
  rw [hok] at hc
  have hcl := clone64_run C (by omega)
  have hcl2 := clone64_run (t.cells.take C.length) (by simp; omega)
  have hinv := s0_inv (l := ins) hg hI hCn (by omega) hf
  have hloop := fun k R hx => run_loop ins vars n hg hl k R ht hinv hx [] 0 .dead (List.replicate 64 0) (by simp [s0])
  have htk : min C.length t.cells.length = C.length := by simp at htv; omega
  have htm : ((t.cells.take C.length).map jD).take C.length = (t.cells.take C.length).map jD := List.take_of_length_le (by simp; omega)
  have w1 : IntKind.i64.wrap ((n : Int) - (C.length : Int)) = ((n - C.length : Nat) : Int) := by rw [show (n : Int) - (C.length : Int) = ((n - C.length : Nat) : Int) by omega]; exact wrap_id (by unfold I64; omega)
  have g1 : (0 : Int) ≤ (n : Int) - (C.length : Int) := by omega
  rw [run10 (by simp)]
  subst hv
  rw [show (t.cells.take C.length).length = C.length by simp; omega] at hcl2
  have f1 : ¬ fuel < 0 := by omega
  have f2 : ¬ 16384 < fuel := by omega
  simp at hc hcl
  simp [Tryd.f10, s0] at hloop
  have g2 : ((n - C.length : Nat) : Int) ≤ 4611686018427387904 := by omega
  have g3 : (C.length + (n - C.length)) * 8 ≤ 140737488355328 ∧ C.length + (n - C.length) ≤ 4611686018427387904 := by omega
  simp [Tryd.f10, hc, hcl, f1, f2, w1, g1, g2, g3, drwK_end]
  refine hloop _ _ ?_
  intro X v c G hG
  have k1 : C.length ≤ t.cells.length := by omega
  have k2 : (C.length : Int) ≤ (t.cells.length : Int) := by omega
  have hpl : plainDs ((t.cells.map jD).take C.length) = true := by rw [← List.map_take]; exact plainDs_jD _
  simp at hcl2 htm
  simp [mB_len hG, mB_g3, mB_g70 hG, mB_g71 hG, mB_keys, mB_vws, mB_ups, k1, k2, hcl2, htm, hpl, drwK_end]
end Go.Am
end
section
namespace Go.Am
open Go Go.Proofs
def addF (m : Int) (s : Ms) : Ms := { s with fuel := s.fuel + m }
theorem op1_f (op a : Int) (t : Bool) : (op1 op a t).2.2 ≠ 4 := by
  have hf : ∀ p, (fitR p).2.2 ≠ 4 := fun p => by unfold fitR; split <;> simp
  unfold op1 noOp
  repeat' split
  all_goals first | exact hf _ | simp
theorem op2_f (op a b : Int) (t : Bool) : (op2 op a b t).2.2 ≠ 4 := by
  have hf : ∀ p, (fitR p).2.2 ≠ 4 := fun p => by unfold fitR; split <;> simp
  have he : ∀ p, (errR p).2.2 ≠ 4 := fun p => by unfold errR; split; simp; split <;> simp
  have hT : (opT op a b).2.2 ≠ 4 := by
    unfold opT noOp
    repeat' split
    all_goals simp
  have k1 := hf (fitZ (a + b))
  have k2 := hf (fitZ (a - b))
  have k3 := hf (fitZ (a * b))
  have k4 := he (divZ a b)
  have k5 := he (modZ a b)
  have hN : (opN op a b).2.2 ≠ 4 := by
    unfold opN noOp
    by_cases h8 : op = 8
    · rw [if_pos h8]; exact k1
    rw [if_neg h8]
    by_cases h9 : op = 9
    · rw [if_pos h9]; exact k2
    rw [if_neg h9]
    by_cases h10 : op = 10
    · rw [if_pos h10]; exact k3
    rw [if_neg h10]
    by_cases h11 : op = 11
    · rw [if_pos h11]; exact k4
    rw [if_neg h11]
    by_cases h12 : op = 12
    · rw [if_pos h12]; exact k5
    rw [if_neg h12]
    repeat' split
    all_goals simp
  unfold op2
  split
  · split
    · simp [noOp]
    · exact hT
  · exact hN
theorem moveF_more (m : Int) (x : Ins) (s : Ms) : moveF x (addF m s) = (moveF x s).map (addF m) := by
  unfold moveF
  have e1 : (addF m s).top = s.top := rfl
  have e2 : (addF m s).pop.top = s.pop.top := rfl
  rw [e1, e2]
  by_cases h1 : x.op = 1
  · rw [if_pos h1, if_pos h1]; rfl
  rw [if_neg h1, if_neg h1]
  by_cases h2 : x.op = 2
  · rw [if_pos h2, if_pos h2]; rfl
  rw [if_neg h2, if_neg h2]
  by_cases h3 : x.op = 3
  · rw [if_pos h3, if_pos h3]; rfl
  rw [if_neg h3, if_neg h3]
  by_cases h4 : x.op = 4 ∨ x.op = 5
  · rw [if_pos h4, if_pos h4]
    by_cases hi : inArr x s.top = true
    · rw [if_pos hi, if_pos hi]; rfl
    · rw [if_neg hi, if_neg hi]; rfl
  rw [if_neg h4, if_neg h4]
  by_cases h6 : x.op = 6
  · rw [if_pos h6, if_pos h6]; rfl
  rw [if_neg h6, if_neg h6]
  by_cases h7 : x.op = 7
  · rw [if_pos h7, if_pos h7]
    by_cases hi : inArr x s.pop.top = true
    · rw [if_pos hi, if_pos hi]; rfl
    · rw [if_neg hi, if_neg hi]; rfl
  rw [if_neg h7, if_neg h7]
  rfl
theorem doF_four (x : Ins) (s : Ms) (h0 : s.fault = 0) : (doF x s).fault ≠ 4 := by
  have key : ∀ (t : Ms) (p : Int × Bool × Int), t.fault = 0 → p.2.2 ≠ 4 → (if p.2.2 = 0 then t.push p.1 else { t with fault := p.2.2 }).fault ≠ 4 := by
    intro t p ht hp
    by_cases h : p.2.2 = 0
    · rw [if_pos h]; show t.fault ≠ 4; rw [ht]; decide
    · rw [if_neg h]; exact hp
  unfold doF
  split
  · exact key s.pop _ h0 (op1_f _ _ _)
  · exact key s.pop.pop _ h0 (op2_f _ _ _ _)
theorem doF_more (m : Int) (x : Ins) (s : Ms) : doF x (addF m s) = addF m (doF x s) := by
  unfold doF
  have e1 : (addF m s).top = s.top := rfl
  have e2 : (addF m s).pop.top = s.pop.top := rfl
  rw [e1, e2]
  split
  · split <;> rfl
  · split <;> rfl
theorem ctlF_more (m : Int) (hm : 0 ≤ m) (x : Ins) (s : Ms) (hf : 0 ≤ s.fuel) (h : x.op = 11 → s.fuel ≠ 0) : ctlF x (addF m s) = addF m (ctlF x s) := by
  unfold ctlF
  by_cases h8 : x.op = 8
  · rw [if_pos h8, if_pos h8]; exact doF_more m x s
  rw [if_neg h8, if_neg h8]
  by_cases h9 : x.op = 9
  · rw [if_pos h9, if_pos h9]; rfl
  rw [if_neg h9, if_neg h9]
  by_cases h10 : x.op = 10
  · rw [if_pos h10, if_pos h10]
    have e1 : (addF m s).top = s.top := rfl
    rw [e1]
    split <;> rfl
  rw [if_neg h10, if_neg h10]
  by_cases h11 : x.op = 11
  · rw [if_pos h11, if_pos h11]
    have h0 := h h11
    have h1 : (addF m s).fuel ≠ 0 := by show s.fuel + m ≠ 0; omega
    rw [if_neg h0, if_neg h1]
    simp only [addF, Ms.mk.injEq, and_true, true_and]
    omega
  rw [if_neg h11, if_neg h11]
  by_cases h12 : x.op = 12
  · rw [if_pos h12, if_pos h12]; rfl
  rw [if_neg h12, if_neg h12]
  by_cases h13 : x.op = 13
  · rw [if_pos h13, if_pos h13]; rfl
  rw [if_neg h13, if_neg h13]
  by_cases h14 : x.op = 14
  · rw [if_pos h14, if_pos h14]; rfl
  rw [if_neg h14, if_neg h14]
theorem stepF_more (m : Int) (hm : 0 ≤ m) (x : Ins) (s : Ms) (hf : 0 ≤ s.fuel) (h : x.op = 11 → s.fuel ≠ 0) : stepF x (addF m s) = addF m (stepF x s) := by
  unfold stepF
  have e : ({ addF m s with at_ := (addF m s).at_ + 1 } : Ms) = addF m { s with at_ := s.at_ + 1 } := rfl
  rw [e, moveF_more]
  cases hmv : moveF x { s with at_ := s.at_ + 1 } with
  | some t => rfl
  | none => exact ctlF_more m hm x _ hf h
theorem stepF_four {x : Ins} {s : Ms} (h0 : s.fault = 0) (h4 : (stepF x s).fault = 4) : x.op = 11 ∧ s.fuel = 0 ∧ (stepF x s).fuel = 0 := by
  obtain ⟨C, S, a, f, z⟩ := s
  simp only at h0
  subst h0
  by_cases h11 : x.op = 11
  · by_cases hf : f = 0
    · refine ⟨h11, hf, ?_⟩
      simp [stepF, moveF, ctlF, h11, hf]
    · exfalso
      revert h4
      simp [stepF, moveF, ctlF, h11, hf]
  · exfalso
    revert h4
    unfold stepF
    cases hmv : moveF x ⟨C, S, a + 1, f, 0⟩ with
    | some t =>
      simp only
      unfold moveF at hmv
      repeat' split at hmv
      all_goals first | (cases hmv; done) | (cases hmv; simp [Ms.push, Ms.pop])
    | none =>
      simp only
      unfold ctlF
      simp only [h11, if_false]
      by_cases h8 : x.op = 8
      · rw [if_pos h8]
        exact doF_four x _ rfl
      · rw [if_neg h8]
        repeat' split
        all_goals simp [Ms.push, Ms.pop]
theorem runs_more {l : List Ins} {r : Nat → Nat} {st : Nat → List Bool} {n : Nat} (hg : Good pinsN n l r st) (hl : InsOk l) {s t : Ms} (h : RunsF l s t) (m : Int) (hm : 0 ≤ m) : VInv l st n s → (s.fault = 4 → s.fuel = 0) → (t.fault = 4 → t.fuel = 0) ∧ (t.fault ≠ 4 → RunsF l (addF m s) (addF m t)) := by
  induction h with
  | fault s h => exact fun hv h4 => ⟨h4, fun _ => .fault _ h⟩
  | fin s x h0 hx h => exact fun hv h4 => ⟨h4, fun _ => .fin _ x h0 hx h⟩
  | step s x t h0 hx h15 h' ih =>
    intro hv h4
    obtain ⟨_, _, hv', _⟩ := step_inv hg hl hv h0 hx h15
    obtain ⟨i1, i2⟩ := ih hv' (fun hf => (stepF_four h0 hf).2.2)
    refine ⟨i1, fun ht => ?_⟩
    have hfu : x.op = 11 → s.fuel ≠ 0 := by
      intro h11 hf
      have hst : (stepF x s).fault = 4 := by
        obtain ⟨C, S, a, f, z⟩ := s
        simp only at hf
        simp [stepF, moveF, ctlF, h11, hf]
      cases h' with
      | fault _ _ => exact ht hst
      | fin _ _ k0 _ _ => rw [hst] at k0; cases k0
      | step _ _ _ k0 _ _ _ => rw [hst] at k0; cases k0
    have := i2 ht
    rw [← stepF_more m hm x s hv.nums.fuel.1 hfu] at this
    exact .step _ x _ h0 hx h15 this
end Go.Am
end
section
namespace Go.Am
open Go Go.Proofs
set_option maxRecDepth 20000
theorem same16_loop (A B : List Int) (hl : A.length = B.length) (hA : A.length ≤ 100000) (k : Kt) (R : Ans) : ∀ (ra rb : List Int) (i : Nat), A.drop i = ra → B.drop i = rb → i + ra.length = A.length →
    ((if ra = rb then k (.exit 0) ⟨26, gl0, [(0, true, .d (.list (A.map jD))), (1, true, .d (.list (B.map jD))), (5, true, .d (.int .i64 A.length)), (14, true, .d (.bool false))], []⟩ else k .ret ⟨26, gl0, [(4, true, .d (.bool false))], []⟩) = R) →
    denK ctx 20 (.loop (Code.at (codeOf Tryd.f20) [1, 1, 0, 1, 0, 0])) ⟨26, gl0, [(0, true, .d (.list (A.map jD))), (1, true, .d (.list (B.map jD))), (5, true, .d (.int .i64 i))], []⟩ k = R := by
  intro ra
  induction ra with
  | nil =>
    intro rb i ha hb hi hx
    have hi : i = A.length := by simpa using hi
    subst hi
    have hrb : rb = [] := by rw [← hb]; exact List.drop_eq_nil_of_le (by omega)
    subst hrb
    simp at hx
    rw [denK_loop]
    simp [Tryd.f20, hx]
  | cons a ra ih =>
    intro rb i ha hb hi hx
    have hlt : i < A.length := by simp at hi; omega
    have hltB : i < B.length := by omega
    have hae : A[i] = a := by
      have := congrArg (·[0]?) ha
      simp at this
      simpa [hlt] using this
    obtain ⟨b, rb', rfl⟩ : ∃ b rb', rb = b :: rb' := by
      match rb, hb with
      | [], hb => have := congrArg List.length hb; simp at this; omega
      | b :: rb', _ => exact ⟨b, rb', rfl⟩
    have hbe : B[i] = b := by
      have := congrArg (·[0]?) hb
      simp at this
      simpa [hltB] using this
    have w1 : IntKind.i64.wrap ((i : Int) + 1) = (i : Int) + 1 := wrap_id (by unfold I64; omega)
    rw [denK_loop]
    by_cases hab : a = b
    · subst hab
      have ih := ih rb' (i + 1) (by rw [← List.tail_drop, ha]; rfl) (by rw [← List.tail_drop, hb]; rfl) (by simp at hi; omega) (by simpa using hx)
      simp [Tryd.f20] at ih ⊢
      simp [hlt, hltB, hae, hbe, w1, drwK_end, ih]
    · rw [if_neg (by simp [hab])] at hx
      simp [Tryd.f20]
      simp [hlt, hltB, hae, hbe, hab, drwK_end, hx]
theorem same16_run (A B : List Int) (hA : A.length ≤ 100000) : callT ctx 20 [.d (.list (A.map jD)), .d (.list (B.map jD))] [] = some (.ret (.d (.bool (decide (A = B)))), []) := by
  rw [run20 (by simp)]
  by_cases hl : A.length = B.length
  · have hloop := fun k R hx => same16_loop A B hl hA k R A B 0 (by simp) (by simp) (by simp) hx
    have hl2 : (A.length : Int) = (B.length : Int) := by omega
    simp [Tryd.f20] at hloop
    simp [Tryd.f20, hl2]
    rw [hloop]
    by_cases hab : A = B <;> simp [hab]
  · have hab : A ≠ B := fun h => hl (by rw [h])
    have hl2 : ¬ (A.length : Int) = (B.length : Int) := by omega
    simp [Tryd.f20, hl2, hab]
theorem same23_run (A B : List Int) (f g u v : Int) (hA : A.length ≤ 100000) : callT ctx 11 [.d (ranD A f u), .d (ranD B g v)] [] = some (.ret (.d (.bool (decide (A = B ∧ f = g ∧ u = v)))), []) := by
  have hs := same16_run A B hA
  rw [run11 (by simp)]
  try simp at hs
  by_cases h1 : A = B
  · subst h1
    simp at hs
    by_cases h2 : f = g <;> by_cases h3 : u = v <;> simp [Tryd.f11, hs, h2, h3]
  · simp [h1] at hs
    simp [Tryd.f11, hs, h1]
theorem awake26_run : callT ctx 9 [] [] = some (.ret (.d (.bool true)), []) := callT_of 300 (by kernel_rfl)
end Go.Am
end
section
namespace Go.Am
open Go Go.Proofs
set_option maxRecDepth 20000
theorem fill_loop (ins : List Ins) (vars : Int) (n : Nat) (hn : n ≤ 8192) (fuel : Int) (u : Nat) (k : Kt) (R : Ans) : ∀ (m : Nat) (C : List Int) (v : Nat), C.length + m = n →
    (∀ v, k (.exit 0) ⟨74, gl0, [(3, true, .ptr 250 1 0), (6, true, .ptr 400 1 0), (7, true, .ptr 750 1 0), (21, true, .d (.bool false))], rM2 ins vars n ⟨C ++ List.replicate m 0, [], 0, fuel, 0⟩ [] v u⟩ = R) →
    denK ctx 13 (.loop (Code.at (codeOf Tryd.f13) [1, 1, 0, 0, 0])) ⟨74, gl0, [(3, true, .ptr 250 1 0), (6, true, .ptr 400 1 0), (7, true, .ptr 750 1 0)], rM2 ins vars n ⟨C, [], 0, fuel, 0⟩ [] v u⟩ k = R := by
  intro m
  induction m with
  | zero =>
    intro C v hC hx
    have hx := hx v
    have hC : C.length = n := by omega
    simp [rB] at hx
    rw [denK_loop]
    simp [Tryd.f13, rB, hC, drwK_end]
    rw [hC] at hx
    exact hx
  | succ m ih =>
    intro C v hC hx
    have e : (C ++ [0]) ++ List.replicate m 0 = C ++ List.replicate (m + 1) 0 := by simp [List.replicate_succ]
    have ih := ih (C ++ [0]) (v + 1) (by simp; omega) (by rw [e]; exact hx)
    have hlt : C.length < n := by omega
    have h2 : (C.length + 1) * 8 ≤ 140737488355328 := by omega
    have h3 : C.length + 1 ≤ 4611686018427387904 := by omega
    have ht : (C.map jD).take C.length = C.map jD := List.take_of_length_le (by simp)
    rw [denK_loop]
    simp [Tryd.f13, rB] at ih ⊢
    simp [hlt, h2, h3, ht, drwK_end, ih]
theorem rrun_ok (ins : List Ins) (vars cells : Int) (C : List Int) (fuel : Int) (hok : okCode pinsN ins vars cells = true) (hv : (C.length : Int) = vars) (hf : 0 ≤ fuel ∧ fuel ≤ 16384) (hl : InsOk ins) (hI : ∀ x ∈ C, I64 x) (t : Ms)
    (ht : RunsF ins (s0 C cells.toNat fuel) t) (htv : t.cells.length = cells.toNat) :
    callT ctx 13 [.d (codeD ins vars cells), .d (.list (C.map jD)), .d (.int .i64 fuel)] [] = some (.ret (.d (ranD (t.cells.take vars.toNat) t.fault t.fuel)), []) := by
  obtain ⟨⟨c1, c2, c3, c4⟩, r, st, hg⟩ := good_of hok
  have hlen := hg.len
  obtain ⟨n, rfl⟩ : ∃ n : Nat, cells = (n : Int) := ⟨cells.toNat, by omega⟩
  have hCn : C.length ≤ n := by omega
  have hinv := s0_inv (l := ins) hg hI hCn (by omega) hf
  have hfill := fun u k R v hx => fill_loop ins vars n (by omega) fuel u k R (n - C.length) C v (by omega) hx
  have hloop := fun v k R hx u => rrun_loop ins vars n hg hl k R v ht hinv hx [(21, true, .d (.bool false))] [] u (fun _ => rfl)
  have hctk : (C.map jD).take C.length = C.map jD := List.take_of_length_le (by simp)
  have h2 : C.length * 8 ≤ 140737488355328 := by omega
  have h3 : C.length ≤ 4611686018427387904 := by omega
  rw [run13 (by simp)]
  subst hv
  simp [Tryd.f13, s0, rB] at hloop hfill
  simp [Tryd.f13, hctk, h2, h3, drwK_end]
  refine hfill _ _ _ _ ?_
  intro v
  simp
  refine hloop v _ _ ?_ _
  intro X S u
  have k1 : C.length ≤ t.cells.length := by omega
  have k2 : (C.length : Int) ≤ (t.cells.length : Int) := by omega
  simp [k1, k2, drwK_end]
end Go.Am
end
section
namespace Go.Am

/-- One instruction by itself, by the reference. -/
def singleB (pins : Int → Nat) (len cells at_ : Int) (x : Ins) : Bool :=
  if x.op = 1 ∨ x.op = 11 then true
  else if x.op = 2 ∨ x.op = 3 ∨ x.op = 6 ∨ x.op = 14 then thereB cells x.a 1
  else if x.op = 13 then thereB cells x.a 1 && thereB cells x.b 2
  else if x.op = 4 ∨ x.op = 5 ∨ x.op = 7 then decide (0 ≤ x.n) && decide (x.m ≤ 255) && decide (x.n ≤ x.m) && thereB cells x.a (x.m - x.n + 1)
  else if x.op = 8 then doesB x
  else if x.op = 9 ∨ x.op = 10 then decide (0 ≤ x.a) && decide (x.a < len)
  else if x.op = 12 then decide (0 < pins x.b) && thereB cells x.a (pins x.b)
  else if x.op = 15 then decide (at_ = len - 1)
  else false
theorem single_form {pins : Int → Nat} {len cells at_ : Int} {x : Ins} (hc : 0 ≤ cells ∧ cells ≤ 8192) : singleB pins len cells at_ x = formB pins cells (len - 1) at_ x := by
  unfold singleB formB arrB
  have c1 := cell_there (cells := cells) (at_ := x.a) (n := 1) hc (by omega)
  have c2 := cell_there (cells := cells) (at_ := x.b) (n := 2) hc (by omega)
  rw [c1, c2]
  have ca : (decide (0 ≤ x.n) && decide (x.m ≤ 255) && decide (x.n ≤ x.m) && thereB cells x.a (x.m - x.n + 1)) = (decide (0 ≤ x.n) && decide (x.n ≤ x.m) && decide (x.m ≤ 255) && cellB cells x.a (x.m - x.n + 1)) := by
    by_cases h : x.n ≤ x.m
    · rw [cell_there (cells := cells) (at_ := x.a) (n := x.m - x.n + 1) hc (by omega)]
      cases decide (0 ≤ x.n) <;> cases decide (x.m ≤ 255) <;> simp [h]
    · simp [h]
  rw [ca]
  have cp : (decide (0 < pins x.b) && thereB cells x.a (pins x.b)) = (decide (0 < pins x.b) && cellB cells x.a (pins x.b)) := by
    by_cases h : 0 < pins x.b
    · rw [cell_there (cells := cells) (at_ := x.a) (n := pins x.b) hc (by omega)]
    · simp [h]
  rw [cp]
  have cj : decide (x.a < len) = decide (x.a ≤ len - 1) := by rw [Bool.eq_iff_iff]; simp only [decide_eq_true_eq]; omega
  rw [cj]
/-- What an instruction takes and gives: how many, whether of truths, whether a truth. -/
def effI (x : Ins) : Nat × Nat × Bool × Bool :=
  if x.op = 1 then (0, 1, false, decide (x.n = 0) || decide (x.n = 1))
  else if x.op = 2 then (0, 1, false, false)
  else if x.op = 3 ∨ x.op = 13 ∨ x.op = 14 then (0, 1, false, true)
  else if x.op = 4 ∨ x.op = 5 then (1, 1, false, decide (x.op = 5))
  else if x.op = 6 then (1, 0, false, false)
  else if x.op = 7 then (2, 0, false, false)
  else if x.op = 8 then (if x.b < 8 then 1 else 2, 1, decide (x.a = 1), decide (x.b = 7) || decide (12 < x.b))
  else if x.op = 10 then (1, 0, true, false)
  else (0, 0, false, false)
/-- One number after another taken. -/
def takeR (need : Bool) : Nat → List Bool → Option (List Bool)
  | 0, S => some S
  | n + 1, S => if need && !(S.getLastD true) then none else takeR need n S.dropLast
def movesR (x : Ins) (S : List Bool) : Option (List Bool) :=
  if S.length < (effI x).1 then none else
  match takeR (effI x).2.2.1 (effI x).1 S with
  | none => none
  | some S1 =>
    let S2 := if 0 < (effI x).2.1 then S1 ++ [(effI x).2.2.2] else S1
    if 64 < S2.length || (decide (0 < S2.length) && (decide (x.op = 9) || decide (x.op = 10) || decide (x.op = 11) || decide (x.op = 12) || decide (x.op = 15))) then none else some S2
theorem takeR_takeS {need : Bool} : ∀ {n : Nat} {S : List Bool}, n ≤ S.length → takeR need n S = takeS n need S
  | 0, S, h => by simp [takeR, takeS]
  | n + 1, S, h => by
    have hne : S ≠ [] := by intro h0; simp [h0] at h
    obtain ⟨ini, b, rfl⟩ : ∃ ini b, S = ini ++ [b] := ⟨S.dropLast, S.getLast hne, (List.dropLast_concat_getLast _).symm⟩
    have hl : n ≤ ini.length := by simpa using h
    have ih := takeR_takeS (need := need) (n := n) (S := ini) hl
    unfold takeR
    rw [show (ini ++ [b]).getLastD true = b by simp, List.dropLast_concat, ih]
    unfold takeS
    have e1 : (ini ++ [b]).length - (n + 1) = ini.length - n := by simp
    have c1 : ¬ ((ini ++ [b]).length < n + 1) := by omega
    have c2 : ¬ (ini.length < n) := by omega
    rw [if_neg c1, if_neg c2, e1, List.drop_append_of_le_length (by omega), List.take_append_of_le_length (by omega)]
    cases need <;> cases b <;> simp
theorem movesR_S {pins : Int → Nat} {cells last at_ : Int} {x : Ins} {S : List Bool} (hf : formB pins cells last at_ x = true) (hl : S.length ≤ 64) : movesR x S = movesS x S := by
  have hg : ∀ (t : Bool) (S1 : List Bool), giveS t S1 = if 64 < (S1 ++ [t]).length then none else some (S1 ++ [t]) := by
    intro t S1
    unfold giveS
    by_cases h : S1.length < 64
    · rw [if_pos h, if_neg (by simp; omega)]
    · rw [if_neg h, if_pos (by simp; omega)]
  have he : ∀ S1 : List Bool, emptyS S1 = if 0 < S1.length then none else some S1 := by
    intro S1; cases S1 <;> simp [emptyS]
  have ht : ∀ {n t S1}, takeS n t S = some S1 → S1.length ≤ 64 := by
    intro n t S1 h
    unfold takeS at h
    split at h
    · cases h
    · split at h
      · cases h
      · cases h; simp; omega
  have htl : ∀ {n t}, S.length < n → takeS n t S = none := by
    intro n t h
    unfold takeS; rw [if_pos h]
  -- what is taken, by cases
  have key : ∀ (n : Nat) (t : Bool) (f : List Bool → Option (List Bool)), (if S.length < n then none else match takeR t n S with | none => none | some S1 => f S1) = (takeS n t S).bind f := by
    intro n t f
    by_cases h : S.length < n
    · rw [if_pos h, htl h]; rfl
    · rw [if_neg h, takeR_takeS (by omega)]
      cases takeS n t S <;> rfl
  have key1 : ∀ (n : Nat) (t : Bool), (takeS n t S).bind (fun S1 => if 64 < S1.length then none else some S1) = takeS n t S := by
    intro n t
    cases h : takeS n t S with
    | none => rfl
    | some S1 => have := ht h; simp; omega
  have t0 : ∀ t, takeS 0 t S = some S := by intro t; simp [takeS]
  unfold movesR
  rw [key]
  unfold formB at hf
  unfold movesS effI
  by_cases e1 : x.op = 1
  · simp [e1, t0, hg]
  by_cases e2 : x.op = 2
  · simp [e2, t0, hg]
  by_cases e3 : x.op = 3
  · simp [e3, t0, hg]
  by_cases e13 : x.op = 13
  · simp [e13, t0, hg]
  by_cases e14 : x.op = 14
  · simp [e14, t0, hg]
  by_cases e4 : x.op = 4
  · simp [e4]
    congr 1; funext S1; rw [hg]; simp
  by_cases e5 : x.op = 5
  · simp [e5]
    congr 1; funext S1; rw [hg]; simp
  by_cases e6 : x.op = 6
  · simp [e6]
    exact key1 _ _
  by_cases e7 : x.op = 7
  · simp [e7]
    exact key1 _ _
  by_cases e8 : x.op = 8
  · simp [e8] at hf
    have hb : x.b = 6 ∨ x.b = 7 ∨ 8 ≤ x.b := by
      unfold doesB at hf
      split at hf
      · simp at hf; omega
      · split at hf
        · simp at hf; omega
        · cases hf
    have hn : (if x.b = 6 ∨ x.b = 7 then 1 else 2 : Nat) = if x.b < 8 then 1 else 2 := by
      by_cases h : x.b < 8
      · rw [if_pos h, if_pos (by omega)]
      · rw [if_neg h, if_neg (by omega)]
    have hgv : (decide (x.b = 7) || decide (13 ≤ x.b)) = (decide (x.b = 7) || decide (12 < x.b)) := by
      rw [Bool.eq_iff_iff]; simp only [Bool.or_eq_true, decide_eq_true_eq]; omega
    simp only [e8, hn, hgv]
    simp
    congr 1; funext S1; rw [hg]; simp
  have hep : ∀ S1 : List Bool, (if (decide (64 < S1.length) || decide (0 < S1.length)) = true then none else some S1) = emptyS S1 := by
    intro S1
    rw [he]
    cases S1 <;> simp
  by_cases e10 : x.op = 10
  · simp only [e10]
    simp
    congr 1
    funext S1
    have := hep S1
    simpa using this
  have h9 : x.op = 9 ∨ x.op = 11 ∨ x.op = 12 ∨ x.op = 15 := by
    by_cases a9 : x.op = 9
    · exact .inl a9
    by_cases a11 : x.op = 11
    · exact .inr (.inl a11)
    by_cases a12 : x.op = 12
    · exact .inr (.inr (.inl a12))
    by_cases a15 : x.op = 15
    · exact .inr (.inr (.inr a15))
    simp [e1, e2, e3, e4, e5, e6, e7, e8, e10, e13, e14, a9, a11, a12, a15] at hf
  have hS := hep S
  rcases h9 with h | h | h | h <;> simp [h, t0] <;> simpa using hS
end Go.Am
end
section
namespace Go.Am
open Go
abbrev AnsT := Option (Out × List (Nat × Cont))
theorem hoistB (c : Prop) [Decidable c] (a b : Bool) (l : List (Nat × Cont)) : (if c then (some (Out.ret (.d (.bool a)), l) : AnsT) else some (Out.ret (.d (.bool b)), l)) = some (Out.ret (.d (.bool (if c then a else b))), l) := by split <;> rfl
theorem retB_iff (a b : Bool) (l : List (Nat × Cont)) : (some (Out.ret (.d (.bool a)), l) : AnsT) = some (Out.ret (.d (.bool b)), l) ↔ (a = true ↔ b = true) := by
  cases a <;> cases b <;> simp
theorem hoistI (c : Prop) [Decidable c] (k : IntKind) (a b : Int) (l : List (Nat × Cont)) : (if c then (some (Out.ret (.d (.int k a)), l) : AnsT) else some (Out.ret (.d (.int k b)), l)) = some (Out.ret (.d (.int k (if c then a else b))), l) := by split <;> rfl
theorem hoistT (c : Prop) [Decidable c] (a b : List AV) (l : List (Nat × Cont)) : (if c then (some (Out.ret (.tup a), l) : AnsT) else some (Out.ret (.tup b), l)) = some (Out.ret (.tup (if c then a else b)), l) := by split <;> rfl
end Go.Am
end
section
namespace Go.Am
open Go Go.Proofs
set_option maxRecDepth 20000
theorem there_run (l : List D) (vars cells at_ n : Int) :
    callT ctx 41 [.d (.agg [.list l, .int .i64 vars, .int .i64 cells]), .d (.int .i64 at_), .d (.int .i64 n)] [] = some (.ret (.d (.bool (decide (0 ≤ at_) && decide (at_ ≤ 8192) && decide (IntKind.i64.wrap (at_ + n) ≤ cells)))), []) := by
  rw [run41 (by simp)]
  simp [Tryd.f41, drwK_end]
theorem effect_run (x : Ins) :
    callT ctx 22 [.d (insD x)] [] = some (.ret (.tup [.d (.int .i64 (effI x).1), .d (.int .i64 (effI x).2.1), .d (.bool (effI x).2.2.1), .d (.bool (effI x).2.2.2)]), []) := by
  rw [run22 (by simp)]
  simp [Tryd.f22, drwK_end]
  grind (splits := 40) [effI]
set_option maxHeartbeats 2000000 in
theorem single_run (pins : Int → Nat) (hp : PinsOk 42 pins) (ins : List Ins) (vars cells : Int) (i : Nat) (hi : i < ins.length) (hl : ins.length ≤ 5000) :
    callT ctx 21 [.d (codeD ins vars cells), .d (.int .i64 i)] [] = some (.ret (.d (.bool (singleB pins ins.length cells i ins[i]))), []) := by
  obtain ⟨l, hl1, hl2, hl3⟩ := hp ins[i].b
  rw [run21 (by simp)]
  simp [Tryd.f21, drwK_end, hi, there_run, hl1, hl2]
  generalize ins[i] = x at *
  have w : ∀ y : Int, -9223372036854775808 ≤ y → y ≤ 9223372036854775807 → IntKind.i64.wrap y = y := fun y h1 h2 => wrap_id ⟨h1, h2⟩
  clear hl1 hl2
  simp only [hoistB, retB_iff]
  grind (splits := 60) [singleB, thereB, doesB]
end Go.Am
end
section
namespace Go.Am
open Go Go.Proofs

def singlesB (pins : Int → Nat) (len cells : Int) : Nat → List Ins → Bool
  | _, [] => true
  | i, x :: r => singleB pins len cells i x && singlesB pins len cells (i + 1) r
def stackR (led : List Bool) : Nat → List Ins → List Bool → Bool
  | _, [], _ => true
  | i, x :: r, S => if led.getD i false && !S.isEmpty then false else match movesR x S with
    | none => false
    | some S' => stackR led (i + 1) r S'
def aroundB (ins : List Ins) : Bool := (struck (succI ins) (List.range ins.length).reverse (ins.length + 1) (List.replicate ins.length false)).any (fun b => !b)
def refCode (pins : Int → Nat) (ins : List Ins) (vars cells : Int) : Bool :=
  headB ins.length vars cells (lastOp ins) && singlesB pins ins.length cells 0 ins && stackR (ledOf ins) 0 ins [] && !(aroundB ins)
theorem singles_forms {pins : Int → Nat} {len cells : Int} (hc : 0 ≤ cells ∧ cells ≤ 8192) : ∀ (l : List Ins) (i : Nat), singlesB pins len cells i l = formsB pins cells (len - 1) i l
  | [], _ => rfl
  | x :: r, i => by rw [singlesB, formsB, single_form hc, singles_forms hc r]
theorem stackR_S {pins : Int → Nat} {cells last : Int} (led : List Bool) : ∀ (l : List Ins) (i : Nat) (S : List Bool), formsB pins cells last i l = true → S.length ≤ 64 → stackR led i l S = stackS led i l S
  | [], _, _, _, _ => rfl
  | x :: r, i, S, hf, hS => by
    simp only [formsB, Bool.and_eq_true] at hf
    rw [stackR, stackS, movesR_S hf.1 hS]
    split
    · rfl
    · cases h : movesS x S with
      | none => rfl
      | some S' => exact stackR_S led r (i + 1) S' hf.2 (movesS_len hS h)
theorem around_iff {pins : Int → Nat} {ins : List Ins} {vars cells : Int} (h : okForms pins ins vars cells = true) : aroundB ins = true ↔ ∃ i < ins.length, ¬ Ends (succI ins) i := by
  have hl : left (List.replicate ins.length false) < ins.length + 1 := by
    have : left (List.replicate ins.length false) ≤ (List.replicate ins.length false).length := List.countP_le_length
    simp at this; omega
  obtain ⟨h1, h2⟩ := struck_all (succ := succI ins) (N := ins.length) (succ_in h) (List.range ins.length).reverse (by simp) (ins.length + 1) (List.replicate ins.length false) (by simp) hl
    (fun i hi hg => by simp [List.getD_eq_getElem?_getD, List.getElem?_replicate, hi] at hg)
  unfold aroundB
  generalize struck (succI ins) (List.range ins.length).reverse (ins.length + 1) (List.replicate ins.length false) = g at h1 h2
  simp only [List.any_eq_true]
  constructor
  · rintro ⟨b, hb, hf⟩
    obtain ⟨i, hi, rfl⟩ := List.getElem_of_mem hb
    refine ⟨i, by omega, fun he => ?_⟩
    have := (h2 i (by omega)).2 he
    simp [hi] at this
    rw [this] at hf; cases hf
  · rintro ⟨i, hi, he⟩
    have hi' : i < g.length := by omega
    refine ⟨g[i], List.getElem_mem hi', ?_⟩
    cases hq : g[i] with
    | false => rfl
    | true => exact absurd ((h2 i hi).1 (by simp [hi', hq])) he
theorem ref_ok (pins : Int → Nat) (ins : List Ins) (vars cells : Int) : refCode pins ins vars cells = okCode pins ins vars cells := by
  unfold refCode okCode okForms
  cases hh : headB ins.length vars cells (lastOp ins) with
  | false => rfl
  | true =>
    have hc : 0 ≤ cells ∧ cells ≤ 8192 := by
      simp only [headB, Bool.and_eq_true, decide_eq_true_eq] at hh
      omega
    rw [singles_forms hc]
    cases hf : formsB pins cells ((ins.length : Int) - 1) 0 ins with
    | false => rfl
    | true =>
      have hok : okForms pins ins vars cells = true := by unfold okForms; rw [hh, hf]; rfl
      rw [stackR_S (ledOf ins) ins 0 [] hf (by simp)]
      have h1 := around_iff hok
      have h2 := round_iff hok
      have : aroundB ins = rounds (succP ins) (ins.length + 1) (List.range ins.length) (List.replicate ins.length 0) := by
        rw [Bool.eq_iff_iff, h1, h2]
      rw [this]
end Go.Am
end
section
namespace Go.Am
open Go Go.Proofs
set_option maxRecDepth 20000
def freeB (g : List Bool) (i : Nat) (x : Ins) : Bool :=
  decide (x.op = 11) || decide (x.op = 15) || ((decide (x.op = 9) || g.getD (i + 1) true) && ((!decide (x.op = 9) && !decide (x.op = 10)) || g.getD x.a.toNat true))
theorem strike_free (ins : List Ins) (g : List Bool) (more : Bool) (i : Nat) (hi : i < ins.length) :
    strike (succI ins) (g, more) i = if g.getD i true = true then (g, more) else if freeB g i ins[i] = true then (g.set i true, true) else (g, more) := by
  unfold strike
  simp only
  split
  · rfl
  · have : (succI ins i).all (fun j => g.getD j true) = freeB g i ins[i] := by
      unfold succI tickAt nextI freeB
      have hx : ins[i]? = some ins[i] := by simp [hi]
      rw [hx]
      simp only [decide_eq_true_eq]
      by_cases e11 : ins[i].op = 11
      · simp [e11]
      by_cases e9 : ins[i].op = 9
      · simp [e9]
      by_cases e10 : ins[i].op = 10
      · simp [e10]
      by_cases e15 : ins[i].op = 15
      · simp [e15]
      simp [e11, e9, e10, e15]
    rw [this]
theorem strikes_len (ins : List Ins) : ∀ (l : List Nat) (s : List Bool × Bool), (∀ i ∈ l, i < ins.length) → (strikes (succI ins) l s).1.length = s.1.length
  | [], _, _ => rfl
  | i :: r, (g, m), h => by
    show (strikes (succI ins) r (strike (succI ins) (g, m) i)).1.length = _
    rw [strikes_len ins r _ (fun j hj => h j (by simp [hj])), strike_free ins g m i (h i (by simp))]
    split
    · rfl
    · split <;> simp
section
variable (ins : List Ins) (vars cells : Int)
@[simp] def arM (v : Nat) (ct : Cont) (g : List Bool) : Mem := [⟨150, 1, .box [.d (.list (ins.map insD)), .d (.int .i64 vars), .d (.int .i64 cells)]⟩, ⟨450, v, ct⟩, ⟨800, 1, .vec 1 (bD g)⟩]
set_option maxHeartbeats 2000000 in
theorem ar_inner (hin : Inside ins) (hl : ins.length ≤ 5000) (k : Kt) (R : Ans) :
    ∀ (m : Nat) (g : List Bool) (more : Bool), m ≤ ins.length → g.length = ins.length →
    (∀ v ct, k (.exit 2) ⟨82, gl0, [(1, true, .ptr 150 1 0), (3, true, .d (.int .i64 ins.length)), (4, true, .vec 800 1 0 ins.length), (5, true, .d (.bool (strikes (succI ins) (List.range m).reverse (g, more)).2)), (6, true, .d (.int .i64 (-1))), (19, true, .d (.bool false))], arM ins vars cells v ct (strikes (succI ins) (List.range m).reverse (g, more)).1⟩ = R) →
    ∀ (v : Nat) (ct : Cont), denK ctx 23 (.loop (Code.at (codeOf Tryd.f23) [1, 1, 1, 0, 1, 0, 0, 1, 0, 1, 1, 0, 0])) ⟨82, gl0, [(1, true, .ptr 150 1 0), (3, true, .d (.int .i64 ins.length)), (4, true, .vec 800 1 0 ins.length), (5, true, .d (.bool more)), (6, true, .d (.int .i64 ((m : Int) - 1)))],
        arM ins vars cells v ct g⟩ k = R
  | 0, g, more, hm, hg, hx, v, ct => by
    rw [denK_loop]
    simp [strikes] at hx
    simp [Tryd.f23, hx]
  | m + 1, g, more, hm, hg, hx, v, ct => by
    have hlt : m < ins.length := by omega
    have hgl : m < g.length := by omega
    have hx1 : ins[m]? = some ins[m] := by simp [hlt]
    obtain ⟨i1, i2⟩ := hin m ins[m] hx1
    have e : (List.range (m + 1)).reverse = m :: (List.range m).reverse := by rw [List.range_succ]; simp
    rw [e] at hx
    have es : strikes (succI ins) (m :: (List.range m).reverse) (g, more) = strikes (succI ins) (List.range m).reverse (strike (succI ins) (g, more) m) := rfl
    rw [es, strike_free ins g more m hlt] at hx
    have w1 : IntKind.i64.wrap ((m : Int) - 1) = (m : Int) - 1 := wrap_id (by unfold I64; omega)
    have w2 : IntKind.i64.wrap ((m : Int) + 1) = (m : Int) + 1 := wrap_id (by unfold I64; omega)
    have hgd : g.getD m true = g[m] := by simp [hgl]
    rw [hgd] at hx
    have ih1 := ar_inner hin hl k R m g more (by omega) hg
    have ih2 := ar_inner hin hl k R m (g.set m true) true (by omega) (by simpa using hg)
    have hset : (bD g).set m (.bool true) = bD (g.set m true) := bD_set g m true
    simp at hset
    have b3 : ¬ ((m : Int) + 1 < 0) := by omega
    cases hq : g[m]
    rotate_left
    · rw [hq, if_pos rfl] at hx
      replace ih1 := ih1 hx
      rw [denK_loop]
      simp [Tryd.f23] at ih1 ⊢
      simp [hlt, hgl, hq, w1, ih1]
    have hno : ¬ (false = true) := by decide
    rw [hq, if_neg hno] at hx
    by_cases e11 : ins[m].op = 11
    · have hfr : freeB g m ins[m] = true := by simp [freeB, hlt, hgl, hq, e11]
      rw [hfr, if_pos rfl] at hx
      replace ih2 := ih2 hx
      rw [denK_loop]
      simp [Tryd.f23, e11] at ih2 ⊢
      simp [hlt, hgl, hq, w1, hset, e11, ih2]
    by_cases e15 : ins[m].op = 15
    · have hfr : freeB g m ins[m] = true := by simp [freeB, hlt, hgl, hq, e15]
      rw [hfr, if_pos rfl] at hx
      replace ih2 := ih2 hx
      rw [denK_loop]
      simp [Tryd.f23, e15] at ih2 ⊢
      simp [hlt, hgl, hq, w1, hset, e15, ih2]
    by_cases e9 : ins[m].op = 9
    · obtain ⟨a1, a2⟩ := i1 (.inl e9)
      have a3 : ins[m].a.toNat < g.length := by omega
      have a4 : ins[m].a.toNat < ins.length := by omega
      cases hq2 : g[ins[m].a.toNat]
      · have hfr : freeB g m ins[m] = false := by simp [freeB, hlt, hgl, hq, hq2, a1, a3, a4, e9]
        rw [hfr, if_neg hno] at hx
        replace ih1 := ih1 hx
        rw [denK_loop]
        simp [Tryd.f23, e9] at ih1 ⊢
        simp [hlt, hgl, hq, hq2, w1, a1, a3, a4, e9, ih1]
      · have hfr : freeB g m ins[m] = true := by simp [freeB, hlt, hgl, hq, hq2, a1, a3, a4, e9]
        rw [hfr, if_pos rfl] at hx
        replace ih2 := ih2 hx
        rw [denK_loop]
        simp [Tryd.f23, e9] at ih2 ⊢
        simp [hlt, hgl, hq, hq2, w1, a1, a3, a4, hset, e9, ih2]
    have b1 : m + 1 < ins.length := i2 e9 e15
    have b2 : m + 1 < g.length := by omega
    by_cases e10 : ins[m].op = 10
    · obtain ⟨a1, a2⟩ := i1 (.inr e10)
      have a3 : ins[m].a.toNat < g.length := by omega
      have a4 : ins[m].a.toNat < ins.length := by omega
      cases hq3 : g[m + 1]
      · have hfr : freeB g m ins[m] = false := by simp [freeB, hlt, hgl, hq, hq3, b1, b2, b3, a1, a3, a4, e10]
        rw [hfr, if_neg hno] at hx
        replace ih1 := ih1 hx
        rw [denK_loop]
        simp [Tryd.f23, e10] at ih1 ⊢
        simp [hlt, hgl, hq, hq3, w1, w2, b1, b2, b3, a1, a3, a4, e10, ih1]
      · cases hq2 : g[ins[m].a.toNat]
        · have hfr : freeB g m ins[m] = false := by simp [freeB, hlt, hgl, hq, hq2, hq3, b1, b2, b3, a1, a3, a4, e10]
          rw [hfr, if_neg hno] at hx
          replace ih1 := ih1 hx
          rw [denK_loop]
          simp [Tryd.f23, e10] at ih1 ⊢
          simp [hlt, hgl, hq, hq2, hq3, w1, w2, b1, b2, b3, a1, a3, a4, e10, ih1]
        · have hfr : freeB g m ins[m] = true := by simp [freeB, hlt, hgl, hq, hq2, hq3, b1, b2, b3, a1, a3, a4, e10]
          rw [hfr, if_pos rfl] at hx
          replace ih2 := ih2 hx
          rw [denK_loop]
          simp [Tryd.f23, e10] at ih2 ⊢
          simp [hlt, hgl, hq, hq2, hq3, w1, w2, b1, b2, b3, a1, a3, a4, hset, e10, ih2]
    cases hq3 : g[m + 1]
    · have hfr : freeB g m ins[m] = false := by simp [freeB, hlt, hgl, hq, hq3, b1, b2, b3, e9, e10, e11, e15]
      rw [hfr, if_neg hno] at hx
      replace ih1 := ih1 hx
      rw [denK_loop]
      simp [Tryd.f23, e9, e10, e11, e15] at ih1 ⊢
      simp [hlt, hgl, hq, hq3, w1, w2, b1, b2, b3, e9, e10, e11, e15, ih1]
    · have hfr : freeB g m ins[m] = true := by simp [freeB, hlt, hgl, hq, hq3, b1, b2, b3, e9, e10, e11, e15]
      rw [hfr, if_pos rfl] at hx
      replace ih2 := ih2 hx
      rw [denK_loop]
      simp [Tryd.f23, e9, e10, e11, e15] at ih2 ⊢
      simp [hlt, hgl, hq, hq3, w1, w2, b1, b2, b3, hset, e9, e10, e11, e15, ih2]
theorem ar_outer (hin : Inside ins) (hl : ins.length ≤ 5000) (hs : ∀ i < ins.length, ∀ j ∈ succI ins i, j < ins.length) (k : Kt) (R : Ans) :
    ∀ (f : Nat) (g : List Bool), g.length = ins.length → left g < f →
    (∀ v ct, k (.exit 0) ⟨82, gl0, [(1, true, .ptr 150 1 0), (3, true, .d (.int .i64 ins.length)), (4, true, .vec 800 1 0 ins.length), (15, true, .d (.bool false))], arM ins vars cells v ct (struck (succI ins) (List.range ins.length).reverse f g)⟩ = R) →
    ∀ (X : Env), (X = [] ∨ X = [(6, true, .d (.int .i64 (-1))), (19, true, .d (.bool false))]) → ∀ (v : Nat) (ct : Cont), denK ctx 23 (.loop (Code.at (codeOf Tryd.f23) [1, 1, 1, 0, 1, 0, 0])) ⟨82, gl0, [(1, true, .ptr 150 1 0), (3, true, .d (.int .i64 ins.length)), (4, true, .vec 800 1 0 ins.length), (5, true, .d (.bool true))] ++ X,
        arM ins vars cells v ct g⟩ k = R
  | 0, g, hg, hf, hx, X, hX, v, ct => by omega
  | f + 1, g, hg, hf, hx, X, hX, v, ct => by
    have w1 : IntKind.i64.wrap ((ins.length : Int) - 1) = (ins.length : Int) - 1 := wrap_id (by unfold I64; omega)
    obtain ⟨ok, _⟩ := strikes_ok hs (List.range ins.length).reverse (g, false) hg (fun i hi => by simpa using hi)
    unfold struck at hx
    have hi := fun k => ar_inner ins vars cells hin hl k R ins.length g false (by omega) hg
    obtain ⟨g', b, hd⟩ : ∃ g' b, strikes (succI ins) (List.range ins.length).reverse (g, false) = (g', b) := ⟨_, _, rfl⟩
    rw [hd] at ok hi hx
    rw [denK_loop]
    cases b with
    | true =>
      have h1 := ok.less rfl rfl
      have h2 := ok.len
      simp only at h1 h2
      have ih := ar_outer hin hl hs k R f g' (by omega) (by omega) hx _ (.inr rfl)
      simp [Tryd.f23] at hi ih
      rcases hX with rfl | rfl
      all_goals
        simp [Tryd.f23]
        simp [w1]
        refine hi _ (fun v ct => ?_) _ _
        simp [ih]
    | false =>
      simp [Tryd.f23] at hi hx
      rcases hX with rfl | rfl
      all_goals
        simp [Tryd.f23]
        simp [w1]
        refine hi _ (fun v ct => ?_) _ _
        simp
        rw [denK_loop]
        simp [hx]
theorem ar_last (k : Kt) (R1 R2 : Ans) (g : List Bool) (hl : g.length ≤ 5000) (v : Nat) (ct : Cont) 
    (h1 : k .ret ⟨82, gl0, [(2, true, .d (.bool true))], arM ins vars cells v ct g⟩ = R1)
    (h2 : k (.exit 4) ⟨82, gl0, [(3, true, .d (.int .i64 g.length)), (4, true, .vec 800 1 0 g.length), (9, true, .d (.int .i64 g.length)), (74, true, .d (.bool false))], arM ins vars cells v ct g⟩ = R2) :
    ∀ (rest pre : List Bool), pre ++ rest = g →
    denK ctx 23 (.loop (Code.at (codeOf Tryd.f23) [1, 1, 1, 1, 0, 1, 0, 0])) ⟨82, gl0, [(3, true, .d (.int .i64 g.length)), (4, true, .vec 800 1 0 g.length), (9, true, .d (.int .i64 pre.length))],
        arM ins vars cells v ct g⟩ k = if rest.any (fun b => !b) then R1 else R2
  | [], pre, hp => by
    simp at hp
    subst hp
    rw [denK_loop]
    simp at h2
    simp [Tryd.f23, h2]
  | b :: rest, pre, hp => by
    have hpl : pre.length < g.length := by rw [← hp]; simp
    have hb : g[pre.length] = b := by simp [← hp]
    have w : IntKind.i64.wrap ((pre.length : Int) + 1) = pre.length + 1 := wrap_id (by unfold I64; omega)
    have ih := ar_last k R1 R2 g hl v ct h1 h2 rest (pre ++ [b]) (by simpa using hp)
    rw [denK_loop]
    cases b with
    | true =>
      simp [Tryd.f23] at ih ⊢
      simp [hpl, hb, w, ih]
    | false =>
      simp at h1
      simp [Tryd.f23]
      simp [hpl, hb, h1]
theorem around_run (hin : Inside ins) (hl : ins.length ≤ 5000) (hs : ∀ i < ins.length, ∀ j ∈ succI ins i, j < ins.length) :
    callT ctx 23 [.d (codeD ins vars cells)] [] = some (.ret (.d (.bool (aroundB ins))), []) := by
  have hlf : left (List.replicate ins.length false) < ins.length + 1 := by
    have : left (List.replicate ins.length false) ≤ (List.replicate ins.length false).length := List.countP_le_length
    simp at this; omega
  have g1 : (ins.length : Int) ≤ 140737488355328 ∧ (ins.length : Int) ≤ 4611686018427387904 := by omega
  have ho := fun k hx => ar_outer ins vars cells hin hl hs k (some (.ret (.d (.bool (aroundB ins))), [])) (ins.length + 1) (List.replicate ins.length false) (by simp) hlf hx [] (.inl rfl)
  have hst := (struck_all hs (List.range ins.length).reverse (by simp) (ins.length + 1) (List.replicate ins.length false) (by simp) hlf (fun i hi hg => by simp [List.getD_eq_getElem?_getD, List.getElem?_replicate, hi] at hg)).1
  have hB : aroundB ins = (struck (succI ins) (List.range ins.length).reverse (ins.length + 1) (List.replicate ins.length false)).any (fun b => !b) := rfl
  generalize struck (succI ins) (List.range ins.length).reverse (ins.length + 1) (List.replicate ins.length false) = g at ho hst hB
  have hla := fun k R1 R2 v ct h1 h2 => ar_last ins vars cells k R1 R2 g (by omega) v ct h1 h2 g [] rfl
  rw [run23 (by simp)]
  simp [Tryd.f23, hst] at ho hla ⊢
  simp [g1]
  refine ho _ (fun v ct => ?_) _ _
  simp
  rw [hla _ (some (.ret (.d (.bool true)), [])) (some (.ret (.d (.bool false)), [])) v ct (by simp) (by simp)]
  rw [hB]
  cases hq : g.any (fun b => !b) <;> simp_all
end
end Go.Am
end
section
namespace Go.Am
open Go Go.Proofs
set_option maxRecDepth 20000
section
variable (ins : List Ins) (vars cells : Int)
@[simp] def ccM (A B : Cont) (va vb : Nat) (T : List Bool) : Mem := [⟨150, 1, .box [.d (.list (ins.map insD)), .d (.int .i64 vars), .d (.int .i64 cells)]⟩, ⟨450, va, A⟩, ⟨550, vb, B⟩, ⟨2950, 1, .vec 1 (bD T)⟩]
set_option maxHeartbeats 1000000 in
theorem cc_led (pins : Int → Nat) (hp : PinsOk 42 pins) (hl : ins.length ≤ 5000) (k : Kt) (R1 R2 : Ans) (A B : Cont) (va vb : Nat)
    (h1 : ∀ T, k .ret ⟨174, gl0, [(2, true, .d (.bool false))], ccM ins vars cells A B va vb T⟩ = R1) :
    ∀ (rest : List Ins) (i : Nat) (T : List Bool), ins.drop i = rest → i + rest.length = ins.length → T.length = ins.length →
    (singlesB pins ins.length cells i rest = true → k (.exit 0) ⟨174, gl0, [(1, true, .ptr 150 1 0), (3, true, .d (.int .i64 ins.length)), (4, true, .vec 2950 1 0 ins.length), (5, true, .d (.int .i64 ins.length)), (60, true, .d (.bool false))], ccM ins vars cells A B va vb (rest.foldl ledStep T)⟩ = R2) →
    denK ctx 12 (.loop (Code.at (codeOf Tryd.f12) [1, 1, 1, 1, 0, 1, 0, 0])) ⟨174, gl0, [(1, true, .ptr 150 1 0), (3, true, .d (.int .i64 ins.length)), (4, true, .vec 2950 1 0 ins.length), (5, true, .d (.int .i64 i))],
        ccM ins vars cells A B va vb T⟩ k = if singlesB pins ins.length cells i rest = true then R2 else R1
  | [], i, T, hd, hi, hT, h2 => by
    have hi : i = ins.length := by simpa using hi
    subst hi
    rw [denK_loop]
    simp [singlesB] at h2
    simp [Tryd.f12, singlesB, h2]
  | x :: rest, i, T, hd, hi, hT, h2 => by
    have hlt : i < ins.length := by simp at hi; omega
    have hx : ins[i] = x := by
      have := congrArg (·[0]?) hd
      simp at this
      simpa [hlt] using this
    have hs := single_run pins hp ins vars cells i hlt hl
    have w1 : IntKind.i64.wrap ((i : Int) + 1) = (i : Int) + 1 := wrap_id (by unfold I64; omega)
    rw [hx] at hs
    rw [singlesB, denK_loop]
    cases hq : singleB pins ins.length cells i x with
    | false =>
      rw [hq] at hs
      simp at hs h1
      simp [Tryd.f12, hlt, hs, h1]
    | true =>
      rw [hq] at hs
      have ih := cc_led pins hp hl k R1 R2 A B va vb h1 rest (i + 1) (ledStep T x) (by rw [← List.tail_drop, hd]; rfl) (by simp at hi; omega) (by rw [ledStep_len]; exact hT) (fun h => h2 (by rw [singlesB, hq, h]; rfl))
      simp at hs
      by_cases e9 : x.op = 9
      · have hf := hq
        simp [singleB, e9] at hf
        have a3 : x.a.toNat < T.length := by omega
        have e : ledStep T x = T.set x.a.toNat true := by simp [ledStep, e9]
        have hset : (bD T).set x.a.toNat (.bool true) = bD (T.set x.a.toNat true) := bD_set _ _ _
        rw [e] at ih
        simp at hset
        simp [Tryd.f12] at ih ⊢
        simp [hlt, hs, hx, e9, hf, a3, w1, hset, ih, drwK_end]
      by_cases e10 : x.op = 10
      · have hf := hq
        simp [singleB, e10] at hf
        have a3 : x.a.toNat < T.length := by omega
        have e : ledStep T x = T.set x.a.toNat true := by simp [ledStep, e10]
        have hset : (bD T).set x.a.toNat (.bool true) = bD (T.set x.a.toNat true) := bD_set _ _ _
        rw [e] at ih
        simp at hset
        simp [Tryd.f12] at ih ⊢
        simp [hlt, hs, hx, e10, hf, a3, w1, hset, ih, drwK_end]
      have e : ledStep T x = T := by simp [ledStep, e9, e10]
      rw [e] at ih
      simp [Tryd.f12] at ih ⊢
      simp [hlt, hs, hx, e9, e10, w1, ih]
theorem takeR_take {need : Bool} {A : List Bool} : ∀ {r hf : Nat} {S : List Bool}, hf + r ≤ A.length → takeR need r (A.take (hf + r)) = some S → S = A.take hf
  | 0, hf, S, h, ht => by simpa [takeR] using ht.symm
  | r + 1, hf, S, h, ht => by
    unfold takeR at ht
    split at ht
    · cases ht
    · have e : (A.take (hf + (r + 1))).dropLast = A.take (hf + r) := by
        rw [List.dropLast_eq_take, List.take_take, List.length_take]; congr 1; omega
      rw [e] at ht
      exact takeR_take (by omega) ht
theorem takeR_step (need : Bool) (A : List Bool) (r hf : Nat) (h : hf + (r + 1) ≤ A.length) :
    takeR need (r + 1) (A.take (hf + (r + 1))) = if need && !(A[hf + r]'(by omega)) then none else takeR need r (A.take (hf + r)) := by
  have e : (A.take (hf + (r + 1))).dropLast = A.take (hf + r) := by
    rw [List.dropLast_eq_take, List.take_take, List.length_take]; congr 1; omega
  have e2 : (A.take (hf + (r + 1))).getLastD true = A[hf + r]'(by omega) := by
    rw [List.getLastD_eq_getLast?, List.getLast?_eq_getElem?, List.length_take, Nat.min_eq_left h, show hf + (r + 1) - 1 = hf + r by omega]
    simp [show hf + r < hf + (r + 1) by omega, show hf + r < A.length by omega]
  rw [takeR, e, e2]
@[simp] def ccN (A : List Bool) (B : Cont) (vb : Nat) (T : List Bool) : Mem := [⟨150, 1, .box [.d (.list (ins.map insD)), .d (.int .i64 vars), .d (.int .i64 cells)]⟩, ⟨450, 1, .vec 1 (bD A)⟩, ⟨550, vb, B⟩, ⟨2950, 1, .vec 1 (bD T)⟩]
set_option maxHeartbeats 1000000 in
theorem cc_take (k : Kt) (R1 R2 : Ans) (A : List Bool) (B : Cont) (vb : Nat) (T : List Bool) (i inn out hf : Nat) (need gives : Bool) (hinn : inn ≤ 1000) (hA : A.length = 70)
    (h1 : k .ret ⟨174, gl0, [(2, true, .d (.bool false))], ccN ins vars cells A B vb T⟩ = R1)
    (h2 : k (.exit 4) ⟨174, gl0, [(1, true, .ptr 150 1 0), (3, true, .d (.int .i64 ins.length)), (4, true, .vec 2950 1 0 ins.length), (6, true, .d (.int .i64 hf)), (7, true, .eptr 450 1 0 0), (8, true, .d (.int .i64 i)), (9, true, .ptr 550 vb 0), (10, true, .d (.int .i64 inn)), (11, true, .d (.int .i64 out)), (12, true, .d (.bool need)), (13, true, .d (.bool gives)), (14, true, .d (.int .i64 inn)), (121, true, .d (.bool false))], ccN ins vars cells A B vb T⟩ = R2) :
    ∀ (r kk : Nat), kk + r = inn → hf + r ≤ A.length →
    denK ctx 12 (.loop (Code.at (codeOf Tryd.f12) [1, 1, 1, 1, 1, 1, 1, 0, 1, 0, 0, 1, 0, 0, 1, 1, 1, 1, 0, 1, 0, 0])) ⟨174, gl0, [(1, true, .ptr 150 1 0), (3, true, .d (.int .i64 ins.length)), (4, true, .vec 2950 1 0 ins.length), (6, true, .d (.int .i64 (hf + r : Nat))), (7, true, .eptr 450 1 0 0), (8, true, .d (.int .i64 i)), (9, true, .ptr 550 vb 0), (10, true, .d (.int .i64 inn)), (11, true, .d (.int .i64 out)), (12, true, .d (.bool need)), (13, true, .d (.bool gives)), (14, true, .d (.int .i64 kk))],
        ccN ins vars cells A B vb T⟩ k = if (takeR need r (A.take (hf + r))).isSome = true then R2 else R1
  | 0, kk, hk, hh => by
    have hk : kk = inn := by omega
    subst hk
    rw [denK_loop]
    simp at h2
    simp [Tryd.f12, takeR, h2]
  | r + 1, kk, hk, hh => by
    have w1 : IntKind.i64.wrap ((kk : Int) + 1) = (kk : Int) + 1 := wrap_id (by unfold I64; omega)
    have w2 : IntKind.i64.wrap ((hf : Int) + ((r : Int) + 1) - 1) = (hf : Int) + r := by rw [wrap_id (by unfold I64; omega)]; omega
    have hkk : kk < inn := by omega
    have hlt : hf + r < A.length := by omega
    have hnn : ¬ ((hf : Int) + r < 0) := by omega
    have h70 : ¬ ((70 : Int) ≤ (hf : Int) + r) := by omega
    have htn : ((hf : Int) + r).toNat = hf + r := by omega
    have hnn2 : (0 : Int) ≤ (hf : Int) + r := by omega
    have ih := cc_take k R1 R2 A B vb T i inn out hf need gives hinn hA h1 h2 r (kk + 1) (by omega) (by omega)
    rw [takeR_step need A r hf hh, denK_loop]
    simp at h1
    cases need with
    | false =>
      simp [Tryd.f12] at ih ⊢
      simp [hkk, w1, w2, ih]
    | true =>
      cases hq : A[hf + r] with
      | true =>
        simp [Tryd.f12] at ih ⊢
        simp [hkk, w1, w2, hlt, hnn, hnn2, h70, htn, hq, ih]
      | false =>
        simp [Tryd.f12]
        simp [hkk, w1, w2, hlt, hnn, hnn2, h70, htn, hq, h1]
def badB (h : Nat) (x : Ins) : Bool := decide (64 < h) || (decide (0 < h) && (decide (x.op = 9) || decide (x.op = 10) || decide (x.op = 11) || decide (x.op = 12) || decide (x.op = 15)))
theorem eff_small (x : Ins) : (effI x).1 ≤ 2 ∧ ((effI x).2.1 = 0 ∨ (effI x).2.1 = 1) := by
  unfold effI
  repeat' split
  all_goals simp
end
end Go.Am
end
section
namespace Go.Am
open Go Go.Proofs
set_option maxRecDepth 20000
section
variable (ins : List Ins) (vars cells : Int)
theorem bad_case1 (h : Nat) (x : Ins) (R1 E : Ans) (h0 : 0 < h) (h64 : h ≤ 64) : (if badB h x = true then R1 else E) = (if x.op = 9 then R1 else if x.op = 10 then R1 else if x.op = 11 then R1 else if x.op = 12 then R1 else if x.op = 15 then R1 else E) := by
  grind [badB]
theorem bad_case2 (h : Nat) (x : Ins) (R1 E : Ans) (h64 : 64 < h) : (if badB h x = true then R1 else E) = R1 := by
  grind [badB]
set_option maxHeartbeats 2000000 in
theorem cc_stk (k : Kt) (R1 R2 : Ans) (T : List Bool) (hT : T.length = ins.length) (hl : ins.length ≤ 5000)
    (h1 : ∀ A vb B, k .ret ⟨174, gl0, [(2, true, .d (.bool false))], ccN ins vars cells A B vb T⟩ = R1)
    (h2 : ∀ (h : Nat) A vb B, k (.exit 2) ⟨174, gl0, [(1, true, .ptr 150 1 0), (3, true, .d (.int .i64 ins.length)), (4, true, .vec 2950 1 0 ins.length), (6, true, .d (.int .i64 h)), (7, true, .eptr 450 1 0 0), (8, true, .d (.int .i64 ins.length)), (93, true, .d (.bool false))], ccN ins vars cells A B vb T⟩ = R2) :
    ∀ (rest : List Ins) (i h : Nat) (A : List Bool) (vb : Nat) (B : Cont), ins.drop i = rest → i + rest.length = ins.length → A.length = 70 → h ≤ 64 →
    denK ctx 12 (.loop (Code.at (codeOf Tryd.f12) [1, 1, 1, 1, 1, 1, 1, 0, 1, 0, 0])) ⟨174, gl0, [(1, true, .ptr 150 1 0), (3, true, .d (.int .i64 ins.length)), (4, true, .vec 2950 1 0 ins.length), (6, true, .d (.int .i64 h)), (7, true, .eptr 450 1 0 0), (8, true, .d (.int .i64 i))],
        ccN ins vars cells A B vb T⟩ k = if stackR T i rest (A.take h) = true then R2 else R1
  | [], i, h, A, vb, B, hd, hi, hA, hh => by
    have hi : i = ins.length := by simpa using hi
    subst hi
    have h2 := h2 h A vb B
    rw [denK_loop]
    simp at h2
    simp [Tryd.f12, stackR, h2]
  | x :: rest, i, h, A, vb, B, hd, hi, hA, hh => by
    have hlt : i < ins.length := by simp at hi; omega
    have hltT : i < T.length := by omega
    have hx : ins[i] = x := by
      have := congrArg (·[0]?) hd
      simp at this
      simpa [hlt] using this
    have hef := effect_run x
    obtain ⟨hs1, hs2⟩ := eff_small x
    have w1 : IntKind.i64.wrap ((i : Int) + 1) = (i : Int) + 1 := wrap_id (by unfold I64; omega)
    have hSl : (A.take h).length = h := by simp; omega
    have hSe : (A.take h).isEmpty = decide (h = 0) := by rw [← Bool.not_inj_iff]; cases hc : A.take h with | nil => (rw [hc] at hSl; simp at hSl; subst hSl; simp) | cons a b => (rw [hc] at hSl; simp at hSl; simp; omega)
    have hTg : T.getD i false = T[i] := by simp [hltT]
    have ih := fun h A vb B => cc_stk k R1 R2 T hT hl h1 h2 rest (i + 1) h A vb B (by rw [← List.tail_drop, hd]; rfl) (by simp at hi; omega)
    have h1' := fun A vb B => h1 A vb B
    rw [stackR, hTg, hSe, denK_loop]
    unfold movesR
    rw [hSl]
    obtain ⟨n, o, need, g, he⟩ : ∃ n o need g, effI x = (n, o, need, g) := ⟨_, _, _, _, rfl⟩
    rw [he] at hef hs1 hs2 ⊢
    simp only at hs1 hs2 ⊢
    simp at h1' hef
    by_cases c1 : T[i] = true ∧ h ≠ 0
    · obtain ⟨c1, c2⟩ := c1
      have c3 : 0 < h := by omega
      simp [Tryd.f12, hlt, hltT, hx, c1, c2, c3, h1']
    have c1' : (T[i] && !decide (h = 0)) = false := by
      cases hq : T[i] <;> simp [hq] at c1 ⊢
      exact c1
    have c1'' : ¬ (T[i] = true ∧ 0 < h) := fun hc => c1 ⟨hc.1, by omega⟩
    rw [c1']
    by_cases c2 : h < n
    · simp [Tryd.f12, hlt, hltT, hx, c1'', hef, c2, h1']
    obtain ⟨hf, rfl⟩ : ∃ hf, h = hf + n := ⟨h - n, by omega⟩
    have htk := fun k R2' B vb h1 h2 => cc_take ins vars cells k R1 R2' A B vb T i n o hf need g (by omega) hA h1 h2 n 0 (by omega) (by omega)
    have hcast : ((hf + n : Nat) : Int) = (hf : Int) + n := by omega
    have c3 : ¬ ((hf : Int) + n < n) := by omega
    simp only [if_neg c2, Bool.false_eq_true, if_false]
    have wh : IntKind.i64.wrap ((hf : Int) + 1) = (hf : Int) + 1 := wrap_id (by unfold I64; omega)
    have hR2 : ∀ S1, takeR need n (A.take (hf + n)) = some S1 → S1 = A.take hf := fun S1 hS => takeR_take (by omega) hS
    simp [Tryd.f12] at htk
    have fin : ∀ (h' : Nat) (S1 S2 : List Bool), S2.length = h' → takeR need n (A.take (hf + n)) = some S1 → (if 0 < o then S1 ++ [g] else S1) = S2 →
        (if badB h' x = true then R1 else if stackR T (i + 1) rest S2 = true then R2 else R1) =
        (if (match (match takeR need n (A.take (hf + n)) with
          | none => none
          | some S1 => if (decide (64 < (if 0 < o then S1 ++ [g] else S1).length) || (decide (0 < (if 0 < o then S1 ++ [g] else S1).length) && (decide (x.op = 9) || decide (x.op = 10) || decide (x.op = 11) || decide (x.op = 12) || decide (x.op = 15)))) = true then none else some (if 0 < o then S1 ++ [g] else S1)) with
          | none => false
          | some S' => stackR T (i + 1) rest S') = true then R2 else R1) := by
      intro h' S1 S2 hl2 hS1 hS2
      rw [hS1]
      simp only [hS2, hl2]
      rw [← badB]
      cases badB h' x <;> simp
    have c4 : ¬ (T[i] = true ∧ 0 < (hf : Int) + n) := fun hc => c1 ⟨hc.1, by omega⟩
    cases hq : takeR need n (A.take (hf + n)) with
    | none =>
      simp [Tryd.f12, hlt, hltT, hx, c1'', hef, c2, c3, c4]
      rw [htk _ _ _ _ (by simp [h1']) rfl]
      simp [hq]
    | some S1 =>
      obtain rfl := hR2 S1 hq
      rcases hs2 with rfl | rfl
      · have ih := fun vb B => ih hf A vb B hA (by omega)
        simp at htk
        have hfin := fin hf (A.take hf) (A.take hf) (by simp; omega) hq (by simp)
        rw [hq] at hfin
        refine Eq.trans ?_ hfin
        simp [Tryd.f12] at ih
        simp [Tryd.f12, hlt, hltT, hx, c1'', hef, c2, c3, c4]
        rw [htk _ (if badB hf x = true then R1 else if stackR T (i + 1) rest (A.take hf) = true then R2 else R1) _ _ (by simp [h1'])]
        · simp [hq]
        · simp [h1', w1, ih]
          grind [badB]
      · have hset : (bD A).set hf (.bool g) = bD (A.set hf g) := bD_set A hf g
        have hst : (A.set hf g).take (hf + 1) = A.take hf ++ [g] := by
          rw [List.take_add_one, List.take_set_of_le (by omega)]; simp [show hf < A.length by omega]
        have hfA : hf < A.length := by omega
        have hf70 : (hf : Int) < 70 := by omega
        have hf70n : hf < 70 := by omega
        have h1s := fun vb B => h1' (A.set hf g) vb B
        simp at h1s
        simp at htk
        have hfin := fin (hf + 1) (A.take hf) (A.take hf ++ [g]) (by simp; omega) hq (by simp)
        rw [hq] at hfin
        refine Eq.trans ?_ hfin
        simp [Tryd.f12, hlt, hltT, hx, c1'', hef, c2, c3, c4]
        rw [htk _ (if badB (hf + 1) x = true then R1 else if stackR T (i + 1) rest (A.take hf ++ [g]) = true then R2 else R1) _ _ (by simp [h1'])]
        · simp [hq]
        · by_cases h64 : hf + 1 ≤ 64
          · have h64' : (hf : Int) + 1 ≤ 64 := by omega
            have ih := fun vb B => ih (hf + 1) (A.set hf g) vb B (by simpa using hA) h64
            rw [hst] at ih
            simp [Tryd.f12] at ih
            rw [bad_case1 (hf + 1) x _ _ (by omega) h64]
            simp [h1', h1s, w1, wh, hfA, hf70, hf70n, ih, h64, h64', drwK_end]
          · have h64' : ¬ ((hf : Int) + 1 ≤ 64) := by omega
            rw [bad_case2 (hf + 1) x _ _ (by omega)]
            simp [h1', h1s, w1, wh, hfA, hf70, hf70n, h64', drwK_end]
end
end Go.Am
end
section
namespace Go.Am
open Go Go.Proofs
set_option maxRecDepth 20000
section
variable (ins : List Ins) (vars cells : Int)
theorem last_op (h : 0 < ins.length) : ins[ins.length - 1].op = lastOp ins := by
  unfold lastOp
  rw [List.getLast?_eq_getElem?]
  simp [show ins.length - 1 < ins.length by omega]
theorem refCode_run (pins : Int → Nat) (hp : PinsOk 42 pins) (hl : ins.length ≤ 5000) :
    callT ctx 12 [.d (codeD ins vars cells)] [] = some (.ret (.d (.bool (refCode pins ins vars cells))), []) := by
  have g1 : (ins.length : Int) ≤ 140737488355328 ∧ (ins.length : Int) ≤ 4611686018427387904 := by omega
  have hlo := fun k R1 R2 A B va vb h1 => cc_led ins vars cells pins hp hl k R1 R2 A B va vb h1 ins 0 (List.replicate ins.length false) rfl (by simp) (by simp)
  rw [run12 (by simp)]
  unfold refCode headB
  by_cases h0 : ins = []
  · simp [Tryd.f12, h0]
  have h0' : 0 < ins.length := List.length_pos_iff.2 h0
  have c1 : (1 : Int) ≤ ins.length := by omega
  have hlt : ins.length - 1 < ins.length := by omega
  have w1 : IntKind.i64.wrap ((ins.length : Int) - 1) = ((ins.length - 1 : Nat) : Int) := by rw [wrap_id (by unfold I64; omega)]; omega
  have hlast := last_op ins h0'
  by_cases h2 : (ins.length : Int) ≤ 4096
  rotate_left
  · simp [Tryd.f12, h0, h2]
  by_cases h3 : 0 ≤ cells
  rotate_left
  · simp [Tryd.f12, h0, h2, h3]
  by_cases h4 : cells ≤ 8192
  rotate_left
  · simp [Tryd.f12, h0, h2, h3, h4]
  by_cases h5 : 0 ≤ vars
  rotate_left
  · simp [Tryd.f12, h0, h2, h3, h4, h5]
  by_cases h6 : vars ≤ cells
  rotate_left
  · simp [Tryd.f12, h0, h2, h3, h4, h5, h6]
  by_cases h7 : lastOp ins = 15
  rotate_left
  · simp [Tryd.f12, h0, h2, h3, h4, h5, h6, w1, hlt, hlast, h7]
  simp [Tryd.f12] at hlo
  simp [Tryd.f12, h0, h2, h3, h4, h5, h6, w1, hlt, hlast, h7]
  simp [g1]
  rw [hlo _ (some (.ret (.d (.bool false)), [])) (some (.ret (.d (.bool (stackR (ledOf ins) 0 ins [] && !(aroundB ins)))), [])) _ _ _ _ (by simp)]
  · cases hq : singlesB pins ins.length cells 0 ins <;> simp [h0', h2, c1]
  · intro hsi
    have hok : okForms pins ins vars cells = true := by
      unfold okForms headB
      rw [singles_forms ⟨h3, h4⟩] at hsi
      rw [hsi]
      simp [h2, h3, h4, h5, h6, h7]
      omega
    have har := around_run ins vars cells (inside_of hok) hl (succ_in hok)
    have hll : (ledOf ins).length = ins.length := by
      have : ∀ (l : List Ins) (T : List Bool), (l.foldl ledStep T).length = T.length := by
        intro l
        induction l with
        | nil => intro T; rfl
        | cons x l ih => intro T; simp only [List.foldl_cons]; rw [ih, ledStep_len]
      rw [show ledOf ins = ins.foldl ledStep (List.replicate ins.length false) from rfl, this]; simp
    have hsk := fun k h1 h2 => cc_stk ins vars cells k (some (.ret (.d (.bool false)), [])) (some (.ret (.d (.bool (!(aroundB ins)))), [])) (ledOf ins) hll hl h1 h2 ins 0 0 (List.replicate 70 false) 0 .dead rfl (by simp) (by simp) (by simp)
    simp at har
    simp [Tryd.f12]
    refine (hsk _ (fun A vb B => by simp) (fun h A vb B => by simp [har])).trans ?_
    cases hq : stackR (ledOf ins) 0 ins [] <;> simp [hq]
end
end Go.Am
end
section
namespace Go.Am
open Go Go.Proofs
set_option maxRecDepth 20000
set_option maxHeartbeats 2000000 in
theorem vmRight_run (ins : List Ins) (vars cells : Int) (C : List Int) (fuel : Int) (hl : InsOk ins) (hI : ∀ x ∈ C, I64 x) :
    callT ctx 4 [.d (codeD ins vars cells), .d (.list (C.map jD)), .d (.int .i64 fuel)] [] = some (.ret (.d (.bool true)), []) := by
  have haw := awake26_run
  rw [run4 (by simp)]
  try simp at haw
  by_cases h1 : ins.length ≤ 300
  rotate_left
  · have g1 : (300 : Int) < (ins.length : Int) := by omega
    simp [Tryd.f4, haw, g1]
  by_cases h2 : C.length ≤ 2000
  rotate_left
  · have g1 : ¬ (300 : Int) < (ins.length : Int) := by omega
    have g2 : (2000 : Int) < (C.length : Int) := by omega
    simp [Tryd.f4, haw, g1, g2]
  have g1 : ¬ (300 : Int) < (ins.length : Int) := by omega
  have g2 : ¬ (2000 : Int) < (C.length : Int) := by omega
  by_cases h3 : 3000 < fuel ∧ fuel ≤ 16384
  · simp [Tryd.f4, haw, g1, g2, h3.1, h3.2]
  have hsc := same23_run C C 0 0 0 0 (by omega)
  have hrc := refCode_run ins vars cells pinsN rpins_ok (by omega)
  rw [ref_ok] at hrc
  have k1 : C.length * 8 ≤ 140737488355328 := by omega
  have k2 : C.length ≤ 4611686018427387904 := by omega
  have ht : (C.map jD).take C.length = C.map jD := List.take_of_length_le (by simp)
  have hfu : 3000 < fuel → ¬ fuel ≤ 16384 := fun h h' => h3 ⟨h, h'⟩
  by_cases hb : okCode pinsN ins vars cells = true ∧ (C.length : Int) = vars ∧ 0 ≤ fuel ∧ fuel ≤ 16384
  · obtain ⟨hok, hv, f1, f2⟩ := hb
    obtain ⟨⟨c1, c2, c3, c4⟩, r, st, hg⟩ := good_of hok
    obtain ⟨n, rfl⟩ : ∃ n : Nat, cells = (n : Int) := ⟨cells.toNat, by omega⟩
    obtain ⟨f, rfl⟩ : ∃ f : Nat, fuel = (f : Int) := ⟨fuel.toNat, by omega⟩
    have hinv := s0_inv (l := ins) hg hI (show C.length ≤ n by omega) (by omega) (fuel := (f : Int)) (by omega)
    obtain ⟨t, htr, htv⟩ := runs_ex hg hl f (r (s0 C n f).at_.toNat) (s0 C n f) hinv rfl (Nat.le_refl _)
    have hr := vrun_ok ins vars n C f hok hv (by omega) hl hI t htr ⟨htv.len, htv.h64⟩
    have hrr := rrun_ok ins vars n C f hok hv (by omega) hl hI t htr htv.len
    have hsm := same23_run (t.cells.take vars.toNat) (t.cells.take vars.toNat) t.fault t.fault t.fuel t.fuel (by simp; have := htv.len; omega)
    have q1 : ¬ (3000 : Int) < (f : Int) := by omega
    have q2 : ¬ (f : Int) < 0 := by omega
    have q3 : ¬ (16384 : Int) < (f : Int) := by omega
    rw [hok] at hrc
    simp at hr hrr hsm hsc hrc
    simp [Tryd.f4, haw, g1, g2, q1, q2, q3, k1, k2, ht, hv, hsc, hrc, hr, hrr, hsm, drwK_end]
  · have hbad : okCode pinsN ins vars cells = false ∨ (C.length : Int) ≠ vars ∨ fuel < 0 ∨ 16384 < fuel := by
      by_cases h : okCode pinsN ins vars cells = true
      · right
        by_cases h' : (C.length : Int) = vars
        · right
          by_cases h'' : fuel < 0
          · exact .inl h''
          · right
            apply Classical.byContradiction
            intro hc
            exact hb ⟨h, h', by omega, by omega⟩
        · exact .inl h'
      · exact .inl (by simpa using h)
    have hr := vrun_bad ins vars cells C fuel (by omega) (by omega) hbad
    have hsm := same23_run C C 0 0 (-1) (-1) (by omega)
    generalize okCode pinsN ins vars cells = ok at *
    simp at hr hsm hsc hrc
    by_cases q1 : 3000 < fuel
    · have q2 := hfu q1
      have q3 : 16384 < fuel := by omega
      have q4 : ¬ fuel < 0 := by omega
      cases ok
      · simp [Tryd.f4, haw, g1, g2, q1, q2, q3, q4, k1, k2, ht, hsc, hrc, hr, hsm, drwK_end]
      · by_cases hv : (C.length : Int) = vars <;> simp [Tryd.f4, haw, g1, g2, q1, q2, q3, q4, k1, k2, ht, hv, hsc, hrc, hr, hsm, drwK_end]
    · have q3 : ¬ 16384 < fuel := by omega
      cases ok
      · simp [Tryd.f4, haw, g1, g2, q1, k1, k2, ht, hsc, hrc, hr, hsm, drwK_end]
      · by_cases hv : (C.length : Int) = vars
        · have q4 : fuel < 0 := by
            rcases hbad with h | h | h | h
            · cases h
            · exact absurd hv h
            · exact h
            · omega
          simp [Tryd.f4, haw, g1, g2, q1, q4, k1, k2, ht, hv, hsc, hrc, hr, hsm, drwK_end]
        · simp [Tryd.f4, haw, g1, g2, q1, k1, k2, ht, hv, hsc, hrc, hr, hsm, drwK_end]
end Go.Am
end
section
namespace Go.Am
open Go Go.ChangeShapes Go.WideShapes Go.RowKit

def tiles (P : Program) (ok : TypeId → Bool) : List Field → Nat → Nat → Bool
  | [], o, tot => o == tot
  | f :: r, o, tot => f.offset == o && ok f.type && tiles P ok r (o + P.cellsOf f.type) tot
/-- Types whose readings are data: no pointer in them. -/
def plainT (P : Program) : Nat → TypeId → Bool
  | 0, _ => false
  | n + 1, t => match P.underlying t with
    | some .bool | some (.int _) | some .string => P.cellsOf t == 1
    | some (.slice e) => P.cellsOf t == 1 && plainT P n e && decide (1 ≤ P.cellsOf e)
    | some (.struct fs) => tiles P (plainT P n) fs.toList 0 (P.cellsOf t)
    | _ => false
def typed (P : Program) : Nat → TypeId → D → Prop
  | 0, _, _ => False
  | n + 1, t, d => match P.underlying t with
    | some .bool => ∃ b, d = .bool b
    | some (.int k) => ∃ z, d = .int k z ∧ (Lit.int k z).wf = true
    | some .string => ∃ s, d = .str s ∧ s.length ≤ maxLen
    | some (.slice e) => ∃ xs, d = .list xs ∧ xs.length ≤ maxLen ∧ ∀ x ∈ xs, typed P n e x
    | some (.struct fs) => ∃ ys : List D, d = .agg (ys.flatMap D.cells) ∧ ys.length = fs.size ∧ ∀ (i : Nat) (f : Field) (y : D), fs[i]? = some f → ys[i]? = some y → typed P n f.type y
    | _ => False

def Reads (w : World) (F : Nat → Prop) (d : D) (cs : List Value) : Prop :=
  d.cells.length = cs.length ∧ (∀ u ∈ cs, cell1 u = true) ∧ ∀ (i : Nat) c u, d.cells[i]? = some c → cs[i]? = some u → DRel w F c u ∧ c.flat = true

theorem Reads.one {w F d v} (h : DRel w F d v) (hf : d.flat = true) (hc : d.cells = [d]) : Reads w F d [v] := by
  refine ⟨by rw [hc]; rfl, fun u hu => ?_, fun i c u h1 h2 => ?_⟩
  · simp at hu; subst hu; exact h.one hf
  · rw [hc] at h1
    cases i with
    | zero => simp at h1 h2; subst h1; subst h2; exact ⟨h, hf⟩
    | succ i => simp at h1
/-- A value with these cells, and what it is. -/
def shaped (d : D) (cs : List Value) : Value :=
  match d with
  | .agg _ => .agg cs.toArray
  | _ => cs.headD undef
theorem Reads.rel {w F d cs} (h : Reads w F d cs) : DRel w F d (shaped d cs) := by
  obtain ⟨h1, h2, h3⟩ := h
  have key : d.flat = true → d.cells = [d] → DRel w F d (cs.headD undef) := by
    intro hf hc
    rw [hc] at h1 h3
    match cs, h1 with
    | [u], _ => exact (h3 0 d u rfl rfl).1
  cases d with
  | agg ds => exact DRel.ofCells h1 h2 (fun i c v hc hv => (h3 i c v hc hv).1)
  | _ => exact key rfl rfl
theorem Reads.shaped_cells {w F d cs} (h : Reads w F d cs) : (shaped d cs).cells.toList = cs := by
  obtain ⟨h1, h2, h3⟩ := h
  have key : d.cells = [d] → (cs.headD undef).cells.toList = cs := by
    intro hc
    rw [hc] at h1
    match cs, h1, h2 with
    | [u], _, h2 => simp only [List.headD]; rw [cells_of_cell1 (h2 u (by simp))]
  cases d with
  | agg ds => simp [shaped, Value.cells]
  | _ => exact key rfl

theorem cells?_get {w : World} {base : Nat} {a : Addr} {n : Nat} {cs : List Value} (h : w.cells? base a n = some cs) : cs.length = n ∧ ∀ j, j < n → w.cell? (a.add j) = cs[j]? := by
  unfold World.cells? at h
  split at h
  · exact ⟨by simpa using mapM_some_length h, fun j hj => mapM_some_get h j j (by simp [hj])⟩
  · cases h
theorem add_add {b off n j : Nat} : (Addr.add (Addr.add ⟨b, off, none⟩ n) j) = ⟨b, off + n + j, none⟩ := by
  unfold Addr.add
  split <;> split <;> simp_all
theorem cell?_lt {w : World} {a : Addr} {c : Value} (h : w.cell? a = some c) : a.block < w.heap.size ∧ a.spot = none := by
  unfold World.cell? at h
  split at h
  · rename_i hh
    refine ⟨(Array.getElem?_eq_some_iff.1 hh).1, ?_⟩
    split at h
    · cases h
    · rename_i hs; simpa using hs
  · cases h

/-- The fields of a struct, laid end to end. -/
theorem reads_fields {P : Program} {w : World} {F : Nat → Prop} {n : Nat} {cs : List Value} {ok : TypeId → Bool} : ∀ (fs : List Field) (o : Nat), tiles P ok fs o cs.length = true →
    (∀ f ∈ fs, ok f.type = true → ∃ d, typed P n f.type d ∧ Reads w F d ((cs.drop f.offset).take (P.cellsOf f.type)) ∧ d.cells.length = P.cellsOf f.type) →
    ∃ ys : List D, ys.length = fs.length ∧ (∀ (i : Nat) (f : Field) (y : D), fs[i]? = some f → ys[i]? = some y → typed P n f.type y) ∧ o ≤ cs.length ∧ Reads w F (.agg (ys.flatMap D.cells)) (cs.drop o)
  | [], o, ht, _ => by
    simp only [tiles, beq_iff_eq] at ht
    subst ht
    exact ⟨[], rfl, fun i f y hf => by simp at hf, Nat.le_refl _, by simp [D.cells], by simp, fun i c u h1 => by simp [D.cells] at h1⟩
  | f :: r, o, ht, hf => by
    simp only [tiles, Bool.and_eq_true, beq_iff_eq] at ht
    obtain ⟨⟨rfl, hok⟩, hr⟩ := ht
    obtain ⟨ys, h1, h2, h3, h4⟩ := reads_fields r _ hr (fun f' h' => hf f' (by simp [h']))
    obtain ⟨d, hd, hR, hl⟩ := hf f (by simp) hok
    refine ⟨d :: ys, by simp [h1], fun i f' y hi hy => ?_, by omega, ?_⟩
    · cases i with
      | zero => simp at hi hy; subst hi; subst hy; exact hd
      | succ i => simp at hi hy; exact h2 i f' y hi hy
    · have hsplit : cs.drop f.offset = (cs.drop f.offset).take (P.cellsOf f.type) ++ cs.drop (f.offset + P.cellsOf f.type) := by
        rw [← List.drop_drop, List.take_append_drop]
      obtain ⟨a1, a2, a3⟩ := hR
      obtain ⟨b1, b2, b3⟩ := h4
      have hcells : (D.agg ((d :: ys).flatMap D.cells)).cells = d.cells ++ (D.agg (ys.flatMap D.cells)).cells := by simp [D.cells]
      rw [hsplit]
      unfold Reads
      rw [hcells]
      refine ⟨by simp only [List.length_append, a1, b1], fun u hu => ?_, fun i c u hc hu => ?_⟩
      · rcases List.mem_append.1 hu with hu | hu
        · exact a2 u hu
        · exact b2 u hu
      · by_cases hi : i < d.cells.length
        · rw [List.getElem?_append_left hi] at hc
          rw [List.getElem?_append_left (by omega)] at hu
          exact a3 i c u hc hu
        · rw [List.getElem?_append_right (by omega)] at hc
          rw [List.getElem?_append_right (by omega)] at hu
          rw [← a1] at hu
          exact b3 _ c u hc hu

section
variable {H : Type} {enc : TypeId × Value → H} {P : Program} {w : World} {base : Nat} {sp : Nat → Bool} {held : Bool}

theorem read_data : ∀ (n : Nat) (m : Nat) (t : TypeId) (cs : List Value) (x : DataW H × List MemPlace), plainT P n t = true → DataW.trod enc P w base sp held m t cs = some x →
    ∃ d, typed P n t d ∧ Reads w (fun _ => False) d cs ∧ d.cells.length = P.cellsOf t
  | 0, _, _, _, _, hp, _ => by cases hp
  | n + 1, m, t, cs, x, hp, hx => by
    simp only [plainT] at hp
    simp only [typed]
    cases ht : P.underlying t with
    | none => rw [ht] at hp; cases hp
    | some u =>
      rw [ht] at hp
      cases u with
      | bool =>
        obtain ⟨b, rfl, _⟩ := DataW.trod_bool ht hx
        exact ⟨.bool b, ⟨b, rfl⟩, Reads.one (.bool b) rfl rfl, by simp at hp; simp [D.cells, hp]⟩
      | int k =>
        obtain ⟨z, rfl, _, hw⟩ := DataW.trod_int ht hx
        exact ⟨.int k z, ⟨z, rfl, hw⟩, Reads.one (.int k z) rfl rfl, by simp at hp; simp [D.cells, hp]⟩
      | string =>
        obtain ⟨s, rfl, _, hw⟩ := DataW.trod_string ht hx
        exact ⟨.str s.data.toList, ⟨_, rfl, by simpa using hw⟩, Reads.one (.str s _ rfl) rfl rfl, by simp at hp; simp [D.cells, hp]⟩
      | slice e =>
        simp only [Bool.and_eq_true, beq_iff_eq, decide_eq_true_eq] at hp
        obtain ⟨⟨h1, h2⟩, h3⟩ := hp
        rcases DataW.trod_slice ht hx with ⟨rfl, _⟩ | ⟨a, len, cap, elems, rest, m', rfl, rfl, _, hb, hlc, hcm, hel, hget, _⟩
        · exact ⟨.list [], ⟨[], rfl, by simp, by simp⟩, Reads.one (.nil none 0 (fun _ => rfl)) rfl rfl, by simp [D.cells, h1]⟩
        · have hq : ∀ i, ∃ p : D × Value, i < len → typed P n e p.1 ∧ DRel w (fun _ => False) p.1 p.2 ∧ p.1.size = P.cellsOf e ∧ a.block < w.heap.size ∧ a.spot = none ∧
              ∀ j c, p.2.cells[j]? = some c → w.cell? ⟨a.block, a.off + i * P.cellsOf e + j, none⟩ = some c := by
            intro i
            by_cases hi : i < len
            · have h4 := hget i hi
              have h5 : ∃ y, elems[i]? = some y := ⟨elems[i]'(by omega), by simp [show i < elems.length by omega]⟩
              obtain ⟨y, hy⟩ := h5
              rw [hy] at h4
              simp only [Option.bind_eq_some_iff] at h4
              obtain ⟨cs', hcs, hy'⟩ := h4
              obtain ⟨d, hd, hR, hl⟩ := read_data n m' e cs' y h2 hy'
              obtain ⟨g1, g2⟩ := cells?_get hcs
              have g3 : a.block < w.heap.size ∧ a.spot = none := by
                have h0 : ∃ i0, i0 < len ∧ i0 = 0 := ⟨0, by omega, rfl⟩
                have h40 := hget 0 (by omega)
                have h50 : ∃ y, elems[0]? = some y := ⟨elems[0]'(by omega), by simp [show 0 < elems.length by omega]⟩
                obtain ⟨y0, hy0⟩ := h50
                rw [hy0] at h40
                simp only [Option.bind_eq_some_iff] at h40
                obtain ⟨cs0, hcs0, _⟩ := h40
                obtain ⟨g01, g02⟩ := cells?_get hcs0
                have h6 := g02 0 (by omega)
                have h7 : ∃ c, cs0[0]? = some c := ⟨cs0[0]'(by omega), by simp [show 0 < cs0.length by omega]⟩
                obtain ⟨c, hc⟩ := h7
                rw [hc] at h6
                have h8 := cell?_lt h6
                simpa [Addr.add] using h8
              refine ⟨⟨d, shaped d cs'⟩, fun _ => ⟨hd, hR.rel, by rw [← D.cells_length]; exact hl, g3.1, g3.2, fun j c hj => ?_⟩⟩
              have h6 := hR.shaped_cells
              have h7 : cs'[j]? = some c := by rw [← h6]; simpa using hj
              have hjl : j < P.cellsOf e := by
                have := (List.getElem?_eq_some_iff.1 h7).1
                omega
              have h8 := g2 j hjl
              obtain ⟨ab, ao, ae⟩ := a
              obtain rfl : ae = none := g3.2
              rw [add_add] at h8
              rw [h8]; exact h7
            · exact ⟨⟨.bool false, undef⟩, fun h => absurd h hi⟩
          obtain ⟨f, hf⟩ := Classical.axiomOfChoice hq
          refine ⟨.list ((List.range len).map fun i => (f i).1), ⟨_, rfl, by simp; omega, fun x hx => ?_⟩, Reads.one ?_ rfl rfl, by simp [D.cells, h1]⟩
          · simp only [List.mem_map, List.mem_range] at hx
            obtain ⟨i, hi, rfl⟩ := hx
            exact (hf i hi).1
          · by_cases hl : len = 0
            · subst hl
              exact .nil (some a) cap (fun h => by cases h)
            · have h0 := hf 0 (by omega)
              obtain ⟨ab, ao, ae⟩ := a
              obtain rfl : ae = none := h0.2.2.2.2.1
              have hlen : ((List.range len).map fun i => (f i).1).length = len := by simp
              have := DRel.list (w := w) (F := fun _ => False) ((List.range len).map fun i => (f i).1) ab ao cap (P.cellsOf e) (fun i => (f i).2) (by rw [hlen]; exact hlc) h0.2.2.2.1 (fun h => h)
                (fun d hd => by
                  simp only [List.mem_map, List.mem_range] at hd
                  obtain ⟨i, hi, rfl⟩ := hd
                  exact (hf i hi).2.2.1)
                (fun i d hd => by
                  simp only [List.getElem?_map, Option.map_eq_some_iff] at hd
                  obtain ⟨i', hi', rfl⟩ := hd
                  have := List.getElem?_eq_some_iff.1 hi'
                  obtain ⟨hi2, hi3⟩ := this
                  simp at hi2 hi3
                  subst hi3
                  exact (hf _ hi2).2.1)
                (fun i j c hi hj => by
                  rw [hlen] at hi
                  exact (hf i hi).2.2.2.2.2 j c hj)
              rw [hlen] at this
              exact this
      | struct fs =>
        obtain ⟨xs, m', rfl, _, hl, hxs, hget⟩ := DataW.trod_struct ht hx
        simp only at hp
        rw [← hl] at hp
        obtain ⟨ys, h1, h2, _, h4⟩ := reads_fields (n := n) (w := w) (F := fun _ => False) fs.toList 0 hp (fun f hf hok => by
          obtain ⟨i, hi, he⟩ := List.mem_iff_getElem.1 hf
          have h5 := hget i f (by simp at hi he; simp [hi, he])
          have h6 : ∃ y, xs[i]? = some y := ⟨xs[i]'(by simp at hi; omega), by simp [show i < xs.length by simp at hi; omega]⟩
          obtain ⟨y, hy⟩ := h6
          rw [hy] at h5
          exact read_data n m' f.type _ y hok h5)
        refine ⟨.agg (ys.flatMap D.cells), ⟨ys, rfl, by simpa using h1, fun i f y hi hy => h2 i f y (by simpa using hi) hy⟩, by simpa using h4, ?_⟩
        have := h4.1
        rw [this]; simpa using hl
      | _ => cases hp
end
end Go.Am
end
section
namespace Go.Am
open Go Go.ChangeShapes Go.WideShapes Go.RowKit

section
variable {H : Type} {enc : TypeId × Value → H} {P : Program} {w : World} {base : Nat} {sp : Nat → Bool} {held : Bool}

theorem arg_rel {n : Nat} {t : TypeId} {v : Value} {d : DataW H} {ps : List MemPlace} {b0 : Nat} (hp : plainT P n t = true) (hv : Value.okWide P w .any b0 t v) (h : DataW.Trod enc P w base sp held t v d ps) :
    ∃ x, typed P n t x ∧ DRel w (fun _ => False) x v := by
  obtain ⟨m, hm⟩ := h
  obtain ⟨x, hx, hR, _⟩ := read_data n m t _ _ hp hm
  refine ⟨x, hx, ?_⟩
  have h1 := hR.rel
  cases n with
  | zero => cases hp
  | succ n =>
    simp only [plainT] at hp
    simp only [typed] at hx
    cases ht : P.underlying t with
    | none => rw [ht] at hp; cases hp
    | some u =>
      rw [ht] at hp hx
      cases u with
      | bool => obtain ⟨b, rfl⟩ := okWide_bool ht hv; obtain ⟨y, rfl⟩ := hx; exact h1
      | int k => obtain ⟨b, rfl⟩ := okWide_int ht hv; obtain ⟨y, rfl, _⟩ := hx; exact h1
      | string => obtain ⟨b, rfl⟩ := okWide_string ht hv; obtain ⟨y, rfl, _⟩ := hx; exact h1
      | slice e => obtain ⟨a, len, cap, rfl⟩ := okWide_slice ht hv; obtain ⟨y, rfl, _⟩ := hx; exact h1
      | struct fs =>
        simp only [Value.okWide, ht] at hv
        obtain ⟨cs, rfl, _⟩ := hv
        obtain ⟨ys, rfl, _⟩ := hx
        simpa [shaped, Value.cells] using h1
      | _ => cases hp

theorem args_rel {n b0 : Nat} : ∀ {ts : List TypeId} {vs : List Value} {ds : List (DataW H)} {ps : List MemPlace}, DataW.TrodAll enc P w base sp held ts vs ds ps → (∀ t ∈ ts, plainT P n t = true) →
    (∀ (j : Nat) t v, ts[j]? = some t → vs[j]? = some v → Value.okWide P w .any b0 t v) →
    ∃ xs : List D, xs.length = vs.length ∧ xs.length = ts.length ∧ (∀ (i : Nat) t x, ts[i]? = some t → xs[i]? = some x → typed P n t x) ∧ ∀ (i : Nat) x v, xs[i]? = some x → vs[i]? = some v → DRel w (fun _ => False) x v
  | [], [], [], _, _, _, _ => ⟨[], rfl, rfl, fun i t x h => by simp at h, fun i x v h => by simp at h⟩
  | t :: ts, v :: vs, d :: ds, ps, h, hp, hv => by
    obtain ⟨p, q, h1, h2, _⟩ := h
    obtain ⟨x, hx, hr⟩ := arg_rel (hp t (by simp)) (hv 0 t v rfl rfl) h1
    obtain ⟨xs, g1, g2, g3, g4⟩ := args_rel h2 (fun t ht => hp t (by simp [ht])) (fun j t v h3 h4 => hv (j + 1) t v (by simpa using h3) (by simpa using h4))
    refine ⟨x :: xs, by simp [g1], by simp [g2], fun i t' x' h3 h4 => ?_, fun i x' v' h3 h4 => ?_⟩
    · cases i with
      | zero => simp at h3 h4; subst h3; subst h4; exact hx
      | succ i => simp at h3 h4; exact g3 i t' x' h3 h4
    · cases i with
      | zero => simp at h3 h4; subst h3; subst h4; exact hr
      | succ i => simp at h3 h4; exact g4 i x' v' h3 h4
  | [], _ :: _, _, _, h, _, _ => by cases h
  | [], [], _ :: _, _, h, _, _ => by cases h
  | _ :: _, [], _, _, h, _, _ => by cases h
  | _ :: _, _ :: _, [], _, h, _, _ => by cases h

theorem trodAll_stays (hl : laidOutB P = true) {W W' : World} (hb : Below W.heap.size W W') : ∀ {ts : List TypeId} {vs : List Value} {ds : List (DataW H)} {ps : List MemPlace}, DataW.TrodAll enc P W 0 (fun _ => true) true ts vs ds ps →
    (∀ t ∈ ts, P.readableRec t = true ∧ t < P.types.size) → (∀ x ∈ ps, x.block < W.heap.size) → DataW.TrodAll enc P W' 0 (fun b => decide (b < W.heap.size)) true ts vs ds ps
  | [], [], [], _, h, _, _ => h
  | t :: ts, v :: vs, d :: ds, ps, h, hp, hlt => by
    obtain ⟨p, q, h1, h2, rfl⟩ := h
    exact ⟨p, q, Below.trod hl (hp t (by simp)).1 (hp t (by simp)).2 h1 hb (fun x hx => hlt x (by simp [hx])), trodAll_stays hl hb h2 (fun t ht => hp t (by simp [ht])) (fun x hx => hlt x (by simp [hx])), rfl⟩
  | [], _ :: _, _, _, h, _, _ => by cases h
  | [], [], _ :: _, _, h, _, _ => by cases h
  | _ :: _, [], _, _, h, _, _ => by cases h
  | _ :: _, _ :: _, [], _, h, _, _ => by cases h
end

section
variable {P : Program} {n : Nat} {t : TypeId} {d : D}
def fieldsT (P : Program) (n : Nat) : List Field → List D → Prop
  | [], ds => ds = []
  | f :: r, ds => ∃ y ds', typed P n f.type y ∧ fieldsT P n r ds' ∧ ds = y.cells ++ ds'
theorem fieldsT_of : ∀ {fs : List Field} {ys : List D}, ys.length = fs.length → (∀ (i : Nat) (f : Field) (y : D), fs[i]? = some f → ys[i]? = some y → typed P n f.type y) → fieldsT P n fs (ys.flatMap D.cells)
  | [], [], _, _ => rfl
  | f :: fs, y :: ys, h, hf => ⟨y, ys.flatMap D.cells, hf 0 f y rfl rfl, fieldsT_of (by simpa using h) (fun i f y h1 h2 => hf (i + 1) f y (by simpa using h1) (by simpa using h2)), by simp⟩
theorem typed_int {k : IntKind} (ht : P.underlying t = some (.int k)) (h : typed P (n + 1) t d) : ∃ z, d = .int k z ∧ (Lit.int k z).wf = true := by simpa only [typed, ht] using h
theorem typed_bool (ht : P.underlying t = some .bool) (h : typed P (n + 1) t d) : ∃ b, d = .bool b := by simpa only [typed, ht] using h
theorem typed_string (ht : P.underlying t = some .string) (h : typed P (n + 1) t d) : ∃ s, d = .str s ∧ s.length ≤ maxLen := by simpa only [typed, ht] using h
theorem typed_slice {e : TypeId} (ht : P.underlying t = some (.slice e)) (h : typed P (n + 1) t d) : ∃ xs, d = .list xs ∧ xs.length ≤ maxLen ∧ ∀ x ∈ xs, typed P n e x := by simpa only [typed, ht] using h
theorem typed_struct {fs : Array Field} (ht : P.underlying t = some (.struct fs)) (h : typed P (n + 1) t d) : ∃ ds, d = .agg ds ∧ fieldsT P n fs.toList ds := by
  simp only [typed, ht] at h
  obtain ⟨ys, rfl, h1, h2⟩ := h
  exact ⟨_, rfl, fieldsT_of (by simpa using h1) (fun i f y h3 h4 => h2 i f y (by simpa using h3) h4)⟩
end
def ctxB (X : Ctx) : Bool :=
  (List.range X.P.funcs.size).all (fun g => match X.P.funcs[g]? with | some fn => fn.name != "runtime.NumGoroutine" && (match fn.body with | some c => codeDst X g fn.ntmps c | none => true) | none => true) && X.P.follows .mixedOrders
def OrcOk (X : Ctx) (g : FuncId) (h : List D → Option D) : Prop := callable X.P g = true ∧ ∀ (ds : List D) (d : D), h ds = some d → ∀ (F : Nat → Prop) (w : World) (vs : Array Value), GlobRel w F X.gl → ds.length = vs.size →
    (∀ (i : Nat) x v, ds[i]? = some x → vs[i]? = some v → DRel w F x v) → Calls X.P g vs w fun e w' => ∃ v, e = .returned v ∧ Below w.heap.size w w' ∧ DRel w' F d v
theorem CtxOk.of {X : Ctx} (h : ctxB X = true) (ho : ∀ g h, X.orc g = some h → OrcOk X g h) : CtxOk X := by
  simp only [ctxB, Bool.and_eq_true, List.all_eq_true, List.mem_range] at h
  have key : ∀ (g : FuncId) (fn : Func), X.P.funcs[g]? = some fn → fn.name ≠ "runtime.NumGoroutine" ∧ (match fn.body with | some c => codeDst X g fn.ntmps c | none => true) = true := by
    intro g fn hg
    have h1 := h.1 g (Array.getElem?_eq_some_iff.1 hg).1
    rw [hg] at h1
    simpa using h1
  refine ⟨fun g fn hg => (key g fn hg).1, fun g fn c hg hb => ?_, h.2, ho⟩
  have := (key g fn hg).2
  rw [hb] at this
  exact this

theorem list_map_of {α : Type} {f : α → D} : ∀ {xs : List D}, (∀ x ∈ xs, ∃ r, x = f r) → ∃ rs : List α, xs = rs.map f
  | [], _ => ⟨[], rfl⟩
  | x :: xs, h => by
    obtain ⟨r, rfl⟩ := h x (by simp)
    obtain ⟨rs, rfl⟩ := list_map_of (xs := xs) (fun y hy => h y (by simp [hy]))
    exact ⟨r :: rs, rfl⟩

/-- A call at data alone: it ends as the evaluator says; nothing old has turned. -/
theorem law_calls {X : Ctx} (hX : CtxOk X) {f : FuncId} {b : Bool} {xs : List D} (hc : callT X f (xs.map .d) [] = some (.ret (.d (.bool b)), [])) {W : World} {args : Array Value} (hl : xs.length = args.size)
    (hr : ∀ (i : Nat) x v, xs[i]? = some x → args[i]? = some v → DRel W (fun _ => False) x v) (hg : GlobRel W (fun _ => False) X.gl) :
    Calls X.P f args W fun e W' => e = .returned (.bool b) ∧ Below W.heap.size W W' := by
  have h := (callT_ok hX f _ _ _ _ hc).2
  have hF : ∀ b, Fo (fun _ => False) (fun _ => none) (inM 0 []) b → False := by
    intro b hb
    rcases hb with hb | ⟨e, he, _⟩
    · exact hb
    · simp [inM] at he
  refine (h (fun _ => none) (fun _ => False) W args ⟨by simp [inM], fun k L hL => by simp at hL, fun e he => by simp [inM] at he, fun e he => by simp [inM] at he, fun b ⟨e, he, _⟩ => by simp [inM] at he, fun b hb => hb.elim⟩
    (hg.mono (fun _ _ _ => rfl) (Nat.le_refl _) (fun b _ hb => hF b hb)) (by simpa using hl) (fun i x v hx hv => ?_)).mono ?_
  · simp only [List.getElem?_map, Option.map_eq_some_iff] at hx
    obtain ⟨d, hd, rfl⟩ := hx
    exact .d d v ((hr i d v hd hv).mono (fun _ _ _ => rfl) (Nat.le_refl _) (fun b _ hb => hF b hb))
  · rintro e W' ⟨φ', m', out, ⟨rfl, rfl⟩, hm, hk, ho⟩
    refine ⟨?_, hk.os, hk.tape, hk.output, hk.size, fun k hk' => hk.old k hk' (fun ⟨e, he, _⟩ => by simp [inM] at he)⟩
    cases e with
    | returned v =>
      simp only [OutRel] at ho
      cases ho with
      | d x v h => cases h; rfl
    | _ => exact ho.elim

section
variable {H : Type} {enc : TypeId × Value → H}
/-- The contract of a law's row. -/
theorem law_contract {X : Ctx} (hX : CtxOk X) {f : FuncId} {fn : Func} {s : ChangeSpec} {apart fresh handsOn : Bool} {n : Nat} {tb : TypeId}
    (hlaid : laidOutB X.P = true) (hts : (fn.params.toList.all fun t => X.P.readableRec t && decide (t < X.P.types.size) && plainT X.P n t) = true)
    (hres : fn.resultTypes = #[tb]) (htb : X.P.underlying tb = some .bool) (hvars : s.vars = [])
    (hspec : ∀ ds : List (DataW H), ds.length = fn.params.size → s.fn H ds = { results := [.lit (.bool true)], args := ds })
    {W : World} {base : Nat} {args : Array Value} {ds gs : List (DataW H)} {before : List MemPlace}
    (hval : ∀ (j : Nat) t v, fn.params[j]? = some t → args[j]? = some v → Value.okWide X.P W .any base t v)
    (hW : DataW.Whole enc X.P fn.params.toList s.vars apart W args.toList ds gs before) (hg : GlobRel W (fun _ => False) X.gl)
    (hrun : ∀ xs : List D, xs.length = fn.params.size → (∀ (i : Nat) t x, fn.params[i]? = some t → xs[i]? = some x → typed X.P n t x) → callT X f (xs.map .d) [] = some (.ret (.d (.bool true)), [])) :
    Calls X.P f args W fun e W' => ∃ v, e = .returned v ∧ s.post enc X.P fn apart fresh handsOn false W args v W' := by
  have hW' := hW
  obtain ⟨p, q, hA, hV, rfl, hfz, hnd⟩ := hW
  rw [hvars] at hV
  obtain ⟨rfl, rfl⟩ : gs = [] ∧ q = [] := by
    cases gs with
    | nil => exact ⟨rfl, hV⟩
    | cons g r => exact absurd hV (by intro h; cases h)
  simp only [List.all_eq_true, Bool.and_eq_true, decide_eq_true_eq] at hts
  obtain ⟨xs, h1, h2, h3, h4⟩ := args_rel (n := n) (b0 := base) hA (fun t ht => (hts t ht).2) (fun j t v ht hv => hval j t v (by simpa using ht) (by simpa using hv))
  have hlen := trodAll_length hA
  refine (law_calls hX (hrun xs (by simpa using h2) (fun i t x ht hx => h3 i t x (by simpa using ht) hx)) (by simpa using h1) (fun i x v hx hv => h4 i x v hx (by simpa using hv)) hg).mono ?_
  rintro e W' ⟨rfl, hb⟩
  have hlt : ∀ x ∈ p, x.block < W.heap.size := fun x hx => by simpa using hW'.lt x (by simpa using hx)
  have hs : s.fn H (ds ++ []) = { results := [.lit (.bool true)], args := ds } := by
    rw [List.append_nil]; exact hspec ds (by simpa using hlen.2)
  refine ⟨_, rfl, ds, [], p ++ [], [], p, [], hW', ?_, ?_, ?_, hb.frame _, fun h => by cases h⟩
  · rw [hs, hres]
    exact trodAll_mk1 (shut_bool htb true)
  · rw [hs]
    exact trodAll_stays hlaid hb hA (fun t ht => (hts t ht).1) hlt
  · rw [hs, hvars]
    rfl
end
end Go.Am
end
section
namespace Go.Am
open Go Go.Proofs
theorem orcs_ok : ∀ g h, ctx.orc g = some h → OrcOk ctx g h := fun _ _ h => by cases h
end Go.Am
end
section
namespace Go.Am
open Go

theorem laid_mem {P : Program} {w : World} {n : String} {d : DataW Unit} : ∀ {l : List (String × DataW Unit)} {ps : List MemPlace}, DataW.LaidVars P w l ps → (n, d) ∈ l →
    ∃ g t cs fuel p, P.globalNamed n = some g ∧ (P.globals[g]?).map (·.type) = some t ∧ w.var? P n = some cs ∧ DataW.trod (fun _ => ()) P w 0 (fun _ => true) false fuel t cs.toList = some (d, p)
  | [], _, _, hm => by simp at hm
  | (n', d') :: r, ps, ⟨g, t, cs, fuel, p, q, h1, h2, h3, h4, h5, _⟩, hm => by
    rcases List.mem_cons.1 hm with hm | hm
    · cases hm
      exact ⟨g, t, cs, fuel, p, h1, h2, h3, h4⟩
    · exact laid_mem h5 hm

/-- An array of numbers, read. -/
theorem trod_ints {H : Type} {enc : TypeId × Value → H} {P : Program} {w : World} {base : Nat} {sp : Nat → Bool} {held : Bool} {fuel : Nat} {t e : TypeId} {n : Nat} {k : IntKind} {cs : List Value} {ds : List (DataW H)} {p : List MemPlace}
    (ha : P.underlying t = some (.array n e)) (he : P.underlying e = some (.int k)) (hc : P.cellsOf e = 1) (h : DataW.trod enc P w base sp held fuel t cs = some (.agg ds, p)) :
    ds.length = n ∧ ∀ i, i < n → ∃ z, cs[i]? = some (.int k z) ∧ ds[i]? = some (.lit (.int k z)) := by
  cases fuel with
  | zero => simp [DataW.trod] at h
  | succ m =>
    unfold DataW.trod at h
    rw [ha] at h
    simp only at h
    split at h
    · rename_i hl
      simp only [Option.map_eq_some_iff, Prod.mk.injEq, DataW.agg.injEq] at h
      obtain ⟨xs, hx, rfl, _⟩ := h
      have h1 : xs.length = n := by simpa using mapM_some_length hx
      refine ⟨by simpa using h1, fun i hi => ?_⟩
      have h2 := mapM_some_get hx i i (by simp [hi])
      have h3 : i < xs.length := by omega
      have h4 : xs[i]? = some xs[i] := by simp [h3]
      rw [h4, hc] at h2
      obtain ⟨z, h5, h6, _⟩ := DataW.trod_int he h2
      refine ⟨z, ?_, by simp [h4, h6]⟩
      have h7 := congrArg (·[0]?) h5
      simpa [List.getElem?_take, List.getElem?_drop] using h7
    · cases h

/-- A table of numbers that the row lists: its cells. -/
theorem glob_of_laid {P : Program} {W : World} {l : List (String × DataW Unit)} {name : String} {g : Nat} {t e : TypeId} {n : Nat} {k : IntKind} {zs : List Int}
    (hl : laidMet P l W) (hm : (name, DataW.agg (zs.map fun z => .lit (.int k z))) ∈ l) (hg : P.globalNamed name = some g) (ht : (P.globals[g]?).map (·.type) = some t)
    (ha : P.underlying t = some (.array n e)) (he : P.underlying e = some (.int k)) (hc : P.cellsOf e = 1) (hn : 0 < n) :
    g < W.heap.size ∧ ∃ x', DRel W (fun _ => False) (.agg (zs.map fun z => .int k z)) x' ∧ ∀ (i : Nat) (c : Value), x'.cells[i]? = some c → W.cell? ⟨g, i, none⟩ = some c := by
  obtain ⟨ps, hv, _⟩ := hl
  obtain ⟨g', t', cs, fuel, p, h1, h2, h3, h4⟩ := laid_mem hv hm
  obtain rfl := Option.some.inj (hg.symm.trans h1)
  obtain rfl := Option.some.inj (ht.symm.trans h2)
  obtain ⟨h5, h6⟩ := trod_ints ha he hc h4
  simp at h5
  have h7 : ∀ i z, zs[i]? = some z → W.cell? ⟨g, i, none⟩ = some (.int k z) := by
    intro i z hz
    have hi : i < n := by
      have := (List.getElem?_eq_some_iff.1 hz).1
      omega
    obtain ⟨z', h8, h9⟩ := h6 i hi
    simp [hz] at h9
    subst h9
    rw [World.var?_cell hg h3 i]
    simpa using h8
  refine ⟨?_, .agg (zs.map fun z => Value.int k z).toArray, ?_, ?_⟩
  · have hz : ∃ z, zs[0]? = some z := ⟨zs[0]'(by omega), by simp [show 0 < zs.length by omega]⟩
    obtain ⟨z, hz⟩ := hz
    exact (cell?_lt (h7 0 z hz)).1
  · refine DRel.ofCells (by simp) (fun v hv => ?_) (fun i c v hc' hv => ?_)
    · simp at hv
      obtain ⟨z, _, rfl⟩ := hv
      rfl
    · simp only [List.getElem?_map, Option.map_eq_some_iff] at hc' hv
      obtain ⟨z, hz, rfl⟩ := hc'
      obtain ⟨z', hz', rfl⟩ := hv
      rw [hz] at hz'
      cases hz'
      exact .int k z
  · intro i c hi
    simp [Value.cells] at hi
    obtain ⟨z, hz, rfl⟩ := hi
    exact h7 i z hz
end Go.Am
end
section
namespace Go.Am
open Go
variable {H : Type} {enc : TypeId × Value → H}
theorem handed_of {a : Assume} {C : Checked} {os : Os} {f : FuncId} {fn : Func} {s : ChangeSpec} {conds : List PathCond} {apart fresh handsOn again : Bool} {X : World → Array Value → Prop}
    (hX : ∀ (w w' : World) (args : Array Value), w.heap = w'.heap → X w args → X w' args)
    (own : ownKnob C.prog.godebug = none) (started : os.Started) (noInit : C.prog.inits.idxOf? f = none) (hfn : C.prog.funcs[f]? = some fn)
    (witness : ∃ (w : World) (tape : Tape) (i : Input), w.os = os ∧ (w.forCall tape i).Shaped C.prog ∧ i.vars = [] ∧ Input.okWide C.prog (w.forCall tape i) .any w.heap.size f i ∧
      ((s.pre enc C.prog fn conds apart (w.forCall tape i).memory i.args ∧ X (w.forCall tape i).memory i.args) ∧ sizedMet enc C.prog fn (OpenSpec.ofChange s) apart (w.forCall tape i).memory i.args) ∧ a.holds C.prog (lone (Frame.enter C.prog f i.args .normal) [] (w.forCall tape i)))
    (contract : ∀ (W : World) (base : Nat) (args : Array Value) (ds gs : List (DataW H)) (before : List MemPlace),
      (∀ (j : Nat) t v, fn.params[j]? = some t → args[j]? = some v → Value.okWide C.prog W .any base t v) →
      DataW.Whole enc C.prog fn.params.toList s.vars apart W args.toList ds gs before → X W args → W.ShapedOpen C.prog →
      Calls C.prog f args W fun e W' => ∃ v, e = .returned v ∧ s.post enc C.prog fn apart fresh handsOn again W args v W') :
    ReturnsInHanded a C os f .any (fun w args => (s.pre enc C.prog fn conds apart w args ∧ X w args) ∧ sizedMet enc C.prog fn (OpenSpec.ofChange s) apart w args) (s.post enc C.prog fn apart fresh handsOn again) := by
  refine returnsInHanded_of_calls own started noInit witness ?_
  intro w tape i _ hsh _ hok hpre _
  obtain ⟨_, _, _, fn', hfn', _, _, _, _, hval⟩ := hok
  have e : fn' = fn := Option.some.inj (hfn'.symm.trans hfn)
  subst e
  obtain ⟨⟨⟨ds, gs, before, hw, hc⟩, hx⟩, hz⟩ := hpre
  have hw' := DataW.Whole.of_heap (w' := w.forCall tape i) (by rfl) hw
  refine (contract (w.forCall tape i) w.heap.size i.args ds gs before hval hw' (hX _ _ _ (by rfl) hx) hsh).mono fun e W' ⟨v, he, hp⟩ => ?_
  subst he
  exact ChangeSpec.post_blind hp
end Go.Am
end

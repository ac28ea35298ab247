/-
  Texts of one proof, one behind the other.
-/
import Derived.Test.YtpgcdbhjmlcfaaaGreatDoorP6
import Derived.ProofKit
import Derived.ChangeArms
import Derived.ChangeCalls
import Derived.KernelRfl
import Derived.Test.YtpgcdbhjmlcfaaaGreatDoorProg
import Derived.Shelf.Lays
import Derived.Shelf.Strings.Search3
import Derived.Shelf.Strings.Prefix
import Derived.LaidLaws
set_option linter.all false
section
namespace Go.Am
open Go Go.Proofs
variable [Inhabited Mx2]
set_option maxRecDepth 20000
theorem lnX_A (x : Ex) : lnX x ↔ ((exa x).length < 100000000 ∧ (exf x).length < 100000000 ∧ (exs x).length < 100000000) ∧ lnXs (exs x) := by
 obtain ⟨op, nn, name, field, sub, line⟩ := x
 simp only [lnX, exa_mk, exf_mk, exs_mk]
mutual
def lnM : Sm → Prop
 | .mk _ _ to val conds labels fields blocks _ => (lnX to ∧ lnX val ∧ (conds.length < 100000000 ∧ lnXs conds) ∧ (labels.length < 100000000 ∧ ∀ l ∈ labels, l.length < 100000000) ∧ fields.length < 100000000 ∧ blocks.length < 100000000) ∧ lnBs blocks
def lnMs : List Sm → Prop
 | [] => True
 | x :: r => lnM x ∧ lnMs r
def lnBs : List (List Sm) → Prop
 | [] => True
 | b :: r => (b.length < 100000000 ∧ lnMs b) ∧ lnBs r
end
def lnS (x : Sm) : Prop := lnX (smt x) ∧ lnX (smv x) ∧ ((smc x).length < 100000000 ∧ lnXs (smc x)) ∧ ((smlb x).length < 100000000 ∧ ∀ l ∈ smlb x, l.length < 100000000) ∧ (smf x).length < 100000000 ∧ (smb x).length < 100000000
theorem lnM_A (x : Sm) : lnM x ↔ lnS x ∧ lnBs (smb x) := by
 obtain ⟨op, name, to, val, conds, labels, fields, blocks, line⟩ := x
 unfold lnM lnS
 rfl
theorem cX_cases (x : Sm) : cX x = [] ∨ cX x = [(144, true, .d (.bool false))] := by
 unfold cX
 split
 · exact .inl rfl
 · exact .inr rfl
theorem c1112 {x : Sm} (h : lnS x) : IntKind.i64.wrap (c11F x + c12F x) = c11F x + c12F x := by
 obtain ⟨_, _, ⟨h1, _⟩, ⟨h2, _⟩, _, _⟩ := h
 apply wrap_id
 have a1 : 0 ≤ c11F x ∧ c11F x < 200000000 := by
  unfold c11F mx1
  split
  · split <;> omega
  · split
    · omega
    · split <;> omega
 have a2 : 0 ≤ c12F x ∧ c12F x ≤ 1 := by
  unfold c12F
  split <;> omega
 unfold I64
 omega
section
variable {x : Sm} {v : Nat} {k : Kt} {R1 : Ans} {a b : AV}
theorem fsBody (hx : lnS x) (hK : ∀ c ∈ smb x, KS c) (h1 : k .ret ⟨258, gl0, [(2, true, .d (.bool false))], [⟨300, v, bxS x⟩]⟩ = R1) :
 denK ctx 44 (fsC [1, 0, 1, 0, 0, 1, 0, 0, 1]) ⟨258, gl0, [(0, true, a), (3, true, b), (4, true, .ptr 300 v 0)], [⟨300, v, bxS x⟩]⟩ k =
 if fitM x = true then k .normal ⟨258, gl0, [(0, true, a), (3, true, b), (4, true, .ptr 300 v 0), (16, true, .d (.int .i64 (smb x).length)), (248, true, .d (.bool false))], [⟨300, v, bxS x⟩]⟩ else R1 := by
 have e1 : fsC [1, 0, 1, 0, 0, 1, 0, 0, 1] = Code.seq (fsC [1, 0, 1, 0, 0, 1, 0, 0, 1, 0]) (fsC [1, 0, 1, 0, 0, 1, 0, 0, 1, 1]) := rfl
 have e2 : fsC [1, 0, 1, 0, 0, 1, 0, 0, 1, 1] = Code.seq (fsC [1, 0, 1, 0, 0, 1, 0, 0, 1, 1, 0]) (fsC [1, 0, 1, 0, 0, 1, 0, 0, 1, 1, 1]) := rfl
 have e3 : fsC [1, 0, 1, 0, 0, 1, 0, 0, 1, 1, 1] = Code.seq (fsC [1, 0, 1, 0, 0, 1, 0, 0, 1, 1, 1, 0]) (fsC [1, 0, 1, 0, 0, 1, 0, 0, 1, 1, 1, 1]) := rfl
 have e4 : fsC [1, 0, 1, 0, 0, 1, 0, 0, 1, 1, 1, 1] = Code.seq (fsC [1, 0, 1, 0, 0, 1, 0, 0, 1, 1, 1, 1, 0]) (fsC [1, 0, 1, 0, 0, 1, 0, 0, 1, 1, 1, 1, 1]) := rfl
 have e5 : fsC [1, 0, 1, 0, 0, 1, 0, 0, 1, 1, 1, 1, 1] = Code.seq (fsC [1, 0, 1, 0, 0, 1, 0, 0, 1, 1, 1, 1, 1, 0]) (fsC [1, 0, 1, 0, 0, 1, 0, 0, 1, 1, 1, 1, 1, 1]) := rfl
 have e6 : fsC [1, 0, 1, 0, 0, 1, 0, 0, 1, 1, 1, 1, 1, 1] = Code.seq (fsC [1, 0, 1, 0, 0, 1, 0, 0, 1, 1, 1, 1, 1, 1, 0]) (fsC [1, 0, 1, 0, 0, 1, 0, 0, 1, 1, 1, 1, 1, 1, 1]) := rfl
 have e7 : fsC [1, 0, 1, 0, 0, 1, 0, 0, 1, 1, 1, 1, 1, 1, 1] = Code.seq (fsC [1, 0, 1, 0, 0, 1, 0, 0, 1, 1, 1, 1, 1, 1, 1, 0]) (fsC [1, 0, 1, 0, 0, 1, 0, 0, 1, 1, 1, 1, 1, 1, 1, 1]) := rfl
 have e8 : fsC [1, 0, 1, 0, 0, 1, 0, 0, 1, 1, 1, 1, 1, 1, 1, 1] = Code.seq (fsC [1, 0, 1, 0, 0, 1, 0, 0, 1, 1, 1, 1, 1, 1, 1, 1, 0]) (fsC [1, 0, 1, 0, 0, 1, 0, 0, 1, 1, 1, 1, 1, 1, 1, 1, 1]) := rfl
 have e9 : fsC [1, 0, 1, 0, 0, 1, 0, 0, 1, 1, 1, 1, 1, 1, 1, 1, 1] = Code.seq (fsC [1, 0, 1, 0, 0, 1, 0, 0, 1, 1, 1, 1, 1, 1, 1, 1, 1, 0]) (fsC [1, 0, 1, 0, 0, 1, 0, 0, 1, 1, 1, 1, 1, 1, 1, 1, 1, 1]) := rfl
 have hq : ∀ c, seqK ctx 44 c k .ret ⟨258, gl0, [(2, true, .d (.bool false))], [⟨300, v, bxS x⟩]⟩ = R1 := fun _ => h1
 have hw := c1112 hx
 obtain ⟨ht, hv, ⟨hc, hcx⟩, ⟨hlb, hlbl⟩, hf, hbl⟩ := hx
 have kt : KF [smt x] := ffit_all (l := [smt x]) (by simp) ⟨ht, trivial⟩
 have kv : KF [smv x] := ffit_all (l := [smv x]) (by simp) ⟨hv, trivial⟩
 have kc : KF (smc x) := ffit_all hc hcx
 rw [fitM_A]
 rw [e1, denK_seq, fsP0, seqK_n, e2, denK_seq, fsA1 (hq _)]
 cases smKi x
 · rw [Bool.false_and, if_neg Bool.false_ne_true, if_neg Bool.false_ne_true]
 rw [if_pos rfl, Bool.true_and, seqK_n, e3, denK_seq, fsA2 (hq _) ((lnX_A _).1 ht).1 kt]
 cases smTo x
 · rw [Bool.false_and, if_neg Bool.false_ne_true, if_neg Bool.false_ne_true]
 rw [if_pos rfl, Bool.true_and, seqK_n, e4, denK_seq, fsA3 (hq _) rfl ((lnX_A _).1 hv).1 kv kc]
 cases smVa x
 · rw [Bool.false_and, if_neg Bool.false_ne_true, if_neg Bool.false_ne_true]
 rw [if_pos rfl, Bool.true_and, seqK_n, e5, denK_seq, fsA4 (X := []), seqK_n, e6, denK_seq, fsA5, seqK_n, e7, denK_seq]
 have h6 : ∀ kk : Kt, kk .ret ⟨258, gl0, [(2, true, .d (.bool false))], [⟨300, v, bxS x⟩]⟩ = R1 → denK ctx 44 (fsC [1, 0, 1, 0, 0, 1, 0, 0, 1, 1, 1, 1, 1, 1, 1, 0]) ⟨258, gl0, [(0, true, a), (3, true, b), (4, true, .ptr 300 v 0), (8, true, .d (.int .i64 (c8F x))), (9, true, .d (.int .i64 (c9F x))), (10, true, .d (.int .i64 (c10F x))), (11, true, .d (.int .i64 (c11F x))), (12, true, .d (.int .i64 (c12F x)))] ++ cX x, [⟨300, v, bxS x⟩]⟩ kk =
  if smCo x = true then kk .normal ⟨258, gl0, [(0, true, a), (3, true, b), (4, true, .ptr 300 v 0), (186, true, .d (.bool false))], [⟨300, v, bxS x⟩]⟩ else R1 := by
  intro kk hk
  unfold smCo
  rcases cX_cases x with hX | hX
  · rw [hX, List.append_nil, fsA6a hk hw]
    simp only [decide_eq_true_eq]
  · rw [hX]
    simp only [List.cons_append, List.nil_append]
    rw [fsA6b hk hw]
    simp only [decide_eq_true_eq]
 rw [h6 _ (hq _)]
 cases smCo x
 · rw [Bool.false_and, if_neg Bool.false_ne_true, if_neg Bool.false_ne_true]
 rw [if_pos rfl, Bool.true_and, seqK_n, e8, denK_seq, fsP7 hf (hq _)]
 cases (smf x).all nameF
 · rw [Bool.false_and, if_neg Bool.false_ne_true, if_neg Bool.false_ne_true]
 rw [if_pos rfl, Bool.true_and, seqK_n, e9, denK_seq, fsP8 hlb hlbl (hq _)]
 cases (smlb x).all labB
 · rw [Bool.false_and, if_neg Bool.false_ne_true, if_neg Bool.false_ne_true]
 rw [if_pos rfl, Bool.true_and, seqK_n, fsP9 hbl hK h1]
end
theorem fsS_loop (l : List Sm) (hln : l.length < 100000000) (hS : ∀ x ∈ l, lnS x) (hK : ∀ x ∈ l, ∀ c ∈ smb x, KS c) (k : Kt) (R1 R2 : Ans)
 (h1 : ∀ v X, k .ret ⟨258, gl0, [(2, true, .d (.bool false))], [⟨300, v, X⟩]⟩ = R1)
 (h2 : ∀ (Y : Env) v X, k (.exit 0) ⟨258, gl0, Y, [⟨300, v, X⟩]⟩ = R2) : ∀ (rest pre : List Sm) (v : Nat) (X : Cont), l = pre ++ rest →
 denK ctx 44 (.loop (fsC [1, 0, 1, 0, 0])) ⟨258, gl0, [(0, true, .d (.list (l.map smD))), (3, true, .d (.int .i64 pre.length))], [⟨300, v, X⟩]⟩ k = if fitMs rest = true then R2 else R1
 | [], pre, v, X, hd => by
  have hl0 : pre.length = l.length := by rw [hd]; simp
  rw [hl0, denK_loop]
  simp [fsC, Tryz.f44, h2, fitMs]
 | x :: rest, pre, v, X, hd => by
  have hb1 : pre.length < l.length := by rw [hd]; simp
  have hb2 : l[pre.length] = x := by simp [hd]
  have hm : x ∈ l := by rw [hd]; simp
  have hb := fun (v : Nat) (a b : AV) (k : Kt) => fsBody (v := v) (a := a) (b := b) (k := k) (hS x hm) (hK x hm) rfl
  have ih : ∀ v X, denK ctx 44 (.loop (fsC [1, 0, 1, 0, 0])) ⟨258, gl0, [(0, true, .d (.list (l.map smD))), (3, true, .d (.int .i64 (pre.length + 1)))], [⟨300, v, X⟩]⟩ k = if fitMs rest = true then R2 else R1 := fun v X => by
   have := fsS_loop l hln hS hK k R1 R2 h1 h2 rest (pre ++ [x]) v X (by simp [hd])
   simpa using this
  have w1 : IntKind.i64.wrap ((pre.length : Int) + 1) = (pre.length : Int) + 1 := wrap_id (by unfold I64; omega)
  have key : fitMs (x :: rest) = (fitM x && fitMs rest) := by rw [fitMs]
  rw [key]
  generalize fitM x = N at *
  generalize fitMs rest = M at *
  rw [denK_loop]
  simp [fsC, Tryz.f44] at hb ih ⊢
  simp [hb1, hb2, smD_A]
  simp [hb]
  cases N <;> simp [h1, w1, ih]
theorem fitS_r {l : List Sm} (hln : l.length < 100000000) (hS : ∀ x ∈ l, lnS x) (hK : ∀ x ∈ l, ∀ c ∈ smb x, KS c) : KS l := by
 have h := fun k R1 R2 h1 h2 v X => fsS_loop l hln hS hK k R1 R2 h1 h2 l [] v X rfl
 unfold KS
 rw [run44 (by simp)]
 simp [fsC, Tryz.f44] at h ⊢
 rw [h _ (some (.ret (.d (.bool false)), [])) (some (.ret (.d (.bool true)), []))]
 · cases fitMs l <;> simp
 · intro v X; simp
 · intro Y v X; simp
mutual
theorem fitS_M : ∀ x : Sm, lnM x → lnS x ∧ ∀ c ∈ smb x, KS c
 | .mk op name to val conds labels fields blocks line, h => by
  have h := (lnM_A _).1 h
  exact ⟨h.1, fitS_Bs blocks h.2⟩
theorem fitS_Ms : ∀ l : List Sm, lnMs l → ∀ x ∈ l, lnS x ∧ ∀ c ∈ smb x, KS c
 | [], _, x, hx => by simp at hx
 | y :: r, h, x, hx => by
  simp only [lnMs] at h
  have h1 := fitS_M y h.1
  have h2 := fitS_Ms r h.2
  rcases List.mem_cons.1 hx with e | hx
  · rw [e]; exact h1
  · exact h2 x hx
theorem fitS_Bs : ∀ l : List (List Sm), lnBs l → ∀ c ∈ l, KS c
 | [], _, c, hc => by simp at hc
 | b :: r, h, c, hc => by
  simp only [lnBs] at h
  have h1 := fitS_Ms b h.1.2
  have h2 := fitS_Bs r h.2
  rcases List.mem_cons.1 hc with e | hc
  · rw [e]; exact fitS_r h.1.1 (fun x hx => (h1 x hx).1) (fun x hx => (h1 x hx).2)
  · exact h2 c hc
end
theorem fitS_all {l : List Sm} (hln : l.length < 100000000) (h : lnMs l) : KS l :=
 fitS_r hln (fun x hx => (fitS_Ms l h x hx).1) (fun x hx => (fitS_Ms l h x hx).2)
abbrev Rw := Int × Tx × Tx × List Tx
def rwT : List Rw := [
 (10, [84, 79, 78], [105, 73, 111, 79], [[73, 78], [80, 84], [81], [69, 84]]),
 (11, [84, 79, 70], [105, 73, 111, 79], [[73, 78], [80, 84], [81], [69, 84]]),
 (12, [84, 80], [105, 73, 111, 79, 46, 46], [[73, 78], [80, 84], [81], [69, 84]]),
 (13, [67, 84, 85], [105, 105, 73, 111, 79, 46], [[67, 85], [82], [80, 86], [81], [67, 86]]),
 (14, [67, 84, 68], [105, 105, 73, 111, 79, 46], [[67, 68], [76, 68], [80, 86], [81], [67, 86]]),
 (15, [82, 95, 84, 82, 73, 71], [105, 111, 46], [[67, 76, 75], [81]]),
 (16, [70, 95, 84, 82, 73, 71], [105, 111, 46], [[67, 76, 75], [81]]),
 (17, [83, 82], [105, 105, 111], [[83, 49], [82], [81, 49]]),
 (18, [82, 83], [105, 105, 111], [[83], [82, 49], [81, 49]]),
 (20, [77, 67, 95, 80, 111, 119, 101, 114], [73, 105, 111, 111], [[65, 120, 105, 115], [69, 110, 97, 98, 108, 101], [83, 116, 97, 116, 117, 115], [69, 114, 114, 111, 114]]),
 (21, [77, 67, 95, 72, 111, 109, 101], [73, 105, 111, 111, 111, 111, 111, 46, 46], [[65, 120, 105, 115], [69, 120, 101, 99, 117, 116, 101], [68, 111, 110, 101], [66, 117, 115, 121], [65, 99, 116, 105, 118, 101], [67, 111, 109, 109, 97, 110, 100, 65, 98, 111, 114, 116, 101, 100], [69, 114, 114, 111, 114]]),
 (22, [77, 67, 95, 83, 116, 111, 112], [73, 105, 111, 111, 111, 111, 111, 46, 46], [[65, 120, 105, 115], [69, 120, 101, 99, 117, 116, 101], [68, 111, 110, 101], [66, 117, 115, 121], [65, 99, 116, 105, 118, 101], [67, 111, 109, 109, 97, 110, 100, 65, 98, 111, 114, 116, 101, 100], [69, 114, 114, 111, 114]]),
 (23, [77, 67, 95, 72, 97, 108, 116], [73, 105, 111, 111, 111, 111, 111, 46, 46], [[65, 120, 105, 115], [69, 120, 101, 99, 117, 116, 101], [68, 111, 110, 101], [66, 117, 115, 121], [65, 99, 116, 105, 118, 101], [67, 111, 109, 109, 97, 110, 100, 65, 98, 111, 114, 116, 101, 100], [69, 114, 114, 111, 114]]),
 (24, [77, 67, 95, 77, 111, 118, 101, 65, 98, 115, 111, 108, 117, 116, 101], [73, 105, 73, 73, 73, 111, 111, 111, 111, 111, 46, 46], [[65, 120, 105, 115], [69, 120, 101, 99, 117, 116, 101], [80, 111, 115, 105, 116, 105, 111, 110], [86, 101, 108, 111, 99, 105, 116, 121], [66, 117, 102, 102, 101, 114, 77, 111, 100, 101], [68, 111, 110, 101], [66, 117, 115, 121], [65, 99, 116, 105, 118, 101], [67, 111, 109, 109, 97, 110, 100, 65, 98, 111, 114, 116, 101, 100], [69, 114, 114, 111, 114]]),
 (25, [77, 67, 95, 77, 111, 118, 101, 82, 101, 108, 97, 116, 105, 118, 101], [73, 105, 73, 73, 73, 111, 111, 111, 111, 111, 46, 46], [[65, 120, 105, 115], [69, 120, 101, 99, 117, 116, 101], [68, 105, 115, 116, 97, 110, 99, 101], [86, 101, 108, 111, 99, 105, 116, 121], [66, 117, 102, 102, 101, 114, 77, 111, 100, 101], [68, 111, 110, 101], [66, 117, 115, 121], [65, 99, 116, 105, 118, 101], [67, 111, 109, 109, 97, 110, 100, 65, 98, 111, 114, 116, 101, 100], [69, 114, 114, 111, 114]]),
 (26, [77, 67, 95, 77, 111, 118, 101, 65, 100, 100, 105, 116, 105, 118, 101], [73, 105, 73, 73, 73, 111, 111, 111, 111, 111, 46, 46], [[65, 120, 105, 115], [69, 120, 101, 99, 117, 116, 101], [68, 105, 115, 116, 97, 110, 99, 101], [86, 101, 108, 111, 99, 105, 116, 121], [66, 117, 102, 102, 101, 114, 77, 111, 100, 101], [68, 111, 110, 101], [66, 117, 115, 121], [65, 99, 116, 105, 118, 101], [67, 111, 109, 109, 97, 110, 100, 65, 98, 111, 114, 116, 101, 100], [69, 114, 114, 111, 114]]),
 (27, [77, 67, 95, 77, 111, 118, 101, 86, 101, 108, 111, 99, 105, 116, 121], [73, 105, 73, 111, 111, 111, 111, 111, 46, 46], [[65, 120, 105, 115], [69, 120, 101, 99, 117, 116, 101], [86, 101, 108, 111, 99, 105, 116, 121], [73, 110, 86, 101, 108, 111, 99, 105, 116, 121], [66, 117, 115, 121], [65, 99, 116, 105, 118, 101], [67, 111, 109, 109, 97, 110, 100, 65, 98, 111, 114, 116, 101, 100], [69, 114, 114, 111, 114]]),
 (28, [77, 67, 95, 71, 101, 97, 114, 73, 110], [73, 105, 73, 73, 73, 111, 111, 111, 111, 111, 46, 46], [[65, 120, 105, 115], [69, 120, 101, 99, 117, 116, 101], [77, 97, 115, 116, 101, 114], [78, 117, 109, 101, 114, 97, 116, 111, 114], [68, 101, 110, 111, 109, 105, 110, 97, 116, 111, 114], [73, 110, 71, 101, 97, 114], [66, 117, 115, 121], [65, 99, 116, 105, 118, 101], [67, 111, 109, 109, 97, 110, 100, 65, 98, 111, 114, 116, 101, 100], [69, 114, 114, 111, 114]]),
 (29, [77, 67, 95, 82, 101, 115, 101, 116], [73, 105, 111, 111, 46], [[65, 120, 105, 115], [69, 120, 101, 99, 117, 116, 101], [68, 111, 110, 101], [69, 114, 114, 111, 114]]),
 (30, [77, 67, 95, 83, 101, 116, 80, 111, 115, 105, 116, 105, 111, 110], [73, 105, 73, 111, 111, 46], [[65, 120, 105, 115], [69, 120, 101, 99, 117, 116, 101], [80, 111, 115, 105, 116, 105, 111, 110], [68, 111, 110, 101], [69, 114, 114, 111, 114]]),
 (31, [77, 67, 95, 83, 101, 116, 79, 118, 101, 114, 114, 105, 100, 101], [73, 105, 73, 111], [[65, 120, 105, 115], [69, 110, 97, 98, 108, 101], [80, 101, 114, 99, 101, 110, 116], [69, 110, 97, 98, 108, 101, 100]])]
def rwD (r : Rw) : D := .agg [.int .i64 r.1, .str r.2.1, .str r.2.2.1, .list (r.2.2.2.map .str)]
theorem rows_r : callT ctx 82 [] [] = some (.ret (.d (.list (rwT.map rwD))), []) := callT_of 120 (by kernel_rfl)
def nmIn (k : Int) : List Rw → Tx
 | [] => []
 | r :: l => if r.1 = k then r.2.1 else nmIn k l
theorem nm_loop (q : Int) (l : List Rw) (hl : l.length < 1000) (k : Kt) (RF : Tx → Ans)
 (h1 : ∀ t, k .ret ⟨24, gl0, [(2, true, .d (.str t))], []⟩ = RF t)
 (h2 : ∀ Y : Env, k (.exit 0) ⟨24, gl0, Y, []⟩ = RF []) : ∀ (rest pre : List Rw), l = pre ++ rest →
 denK ctx 43 (.loop (Code.at (codeOf Tryz.f43) [1, 1, 0, 1, 0, 0])) ⟨24, gl0, [(0, true, .d (.int .i64 q)), (3, true, .d (.list (l.map rwD))), (4, true, .d (.int .i64 pre.length))], []⟩ k = RF (nmIn q rest)
 | [], pre, hd => by
  have hl0 : pre.length = l.length := by rw [hd]; simp
  rw [hl0, denK_loop]
  simp [Tryz.f43, h2, nmIn]
 | x :: rest, pre, hd => by
  have hb1 : pre.length < l.length := by rw [hd]; simp
  have hb2 : l[pre.length] = x := by simp [hd]
  have ih := nm_loop q l hl k RF h1 h2 rest (pre ++ [x]) (by simp [hd])
  have w1 : IntKind.i64.wrap ((pre.length : Int) + 1) = (pre.length : Int) + 1 := wrap_id (by unfold I64; omega)
  rw [denK_loop]
  by_cases hq : x.1 = q
  · simp [Tryz.f43]
    simp [hb1, hb2, rwD, hq, h1, nmIn]
  · simp [Tryz.f43] at ih ⊢
    simp [hb1, hb2, rwD, hq, w1, ih, nmIn]
theorem nm_r (q : Int) : callT ctx 43 [.d (.int .i64 q)] [] = some (.ret (.d (.str (nmIn q rwT))), []) := by
 have h := fun k RF h1 h2 => nm_loop q rwT (by decide) k RF h1 h2 rwT [] rfl
 have hr := rows_r
 rw [run43 (by simp)]
 generalize rwT = l at *
 simp [Tryz.f43] at h ⊢
 simp [hr]
 rw [h _ (fun t => some (.ret (.d (.str t)), [])) (by simp) (by simp)]
theorem nm_kind (q : Int) : (nmIn q rwT = []) ↔ kindT q = false := by
 by_cases h : 10 ≤ q ∧ q ≤ 31
 · have : q = 10 ∨ q = 11 ∨ q = 12 ∨ q = 13 ∨ q = 14 ∨ q = 15 ∨ q = 16 ∨ q = 17 ∨ q = 18 ∨ q = 19 ∨ q = 20 ∨ q = 21 ∨ q = 22 ∨ q = 23 ∨ q = 24 ∨ q = 25 ∨ q = 26 ∨ q = 27 ∨ q = 28 ∨ q = 29 ∨ q = 30 ∨ q = 31 := by omega
   rcases this with h | h | h | h | h | h | h | h | h | h | h | h | h | h | h | h | h | h | h | h | h | h <;> subst h <;> decide
 · have e : ∀ n : Int, 10 ≤ n → n ≤ 31 → ¬ n = q := fun n a b c => h (by omega)
   have e1 : pinsF q = [] := by
    unfold pinsF pnT
    simp only [pinsT]
    rw [if_neg (e _ (by decide) (by decide)), if_neg (e _ (by decide) (by decide)), if_neg (e _ (by decide) (by decide)), if_neg (e _ (by decide) (by decide)), if_neg (e _ (by decide) (by decide)), if_neg (e _ (by decide) (by decide)), if_neg (e _ (by decide) (by decide)), if_neg (e _ (by decide) (by decide)), if_neg (e _ (by decide) (by decide)), if_neg (e _ (by decide) (by decide)), if_neg (e _ (by decide) (by decide)), if_neg (e _ (by decide) (by decide)), if_neg (e _ (by decide) (by decide)), if_neg (e _ (by decide) (by decide)), if_neg (e _ (by decide) (by decide)), if_neg (e _ (by decide) (by decide)), if_neg (e _ (by decide) (by decide)), if_neg (e _ (by decide) (by decide)), if_neg (e _ (by decide) (by decide)), if_neg (e _ (by decide) (by decide)), if_neg (e _ (by decide) (by decide))]
   have e2 : nmIn q rwT = [] := by
    unfold rwT
    simp only [nmIn]
    rw [if_neg (e _ (by decide) (by decide)), if_neg (e _ (by decide) (by decide)), if_neg (e _ (by decide) (by decide)), if_neg (e _ (by decide) (by decide)), if_neg (e _ (by decide) (by decide)), if_neg (e _ (by decide) (by decide)), if_neg (e _ (by decide) (by decide)), if_neg (e _ (by decide) (by decide)), if_neg (e _ (by decide) (by decide)), if_neg (e _ (by decide) (by decide)), if_neg (e _ (by decide) (by decide)), if_neg (e _ (by decide) (by decide)), if_neg (e _ (by decide) (by decide)), if_neg (e _ (by decide) (by decide)), if_neg (e _ (by decide) (by decide)), if_neg (e _ (by decide) (by decide)), if_neg (e _ (by decide) (by decide)), if_neg (e _ (by decide) (by decide)), if_neg (e _ (by decide) (by decide)), if_neg (e _ (by decide) (by decide)), if_neg (e _ (by decide) (by decide))]
   rw [e2]
   unfold kindT
   rw [e1]
   simp
section
variable {vs : List Vr} {n : Int}
theorem kcall_loop (x : Sm) (v : Vr) (hln : (smf x).length < 100000000) (hC : ∀ y ∈ smc x, KX vs n y) (v0 v1 : Nat) (k : Kt) (R : Ans) (RP : EL → Ans)
 (hp : ∀ env v2 X2 e ln, k (.panic 174 (ftD e ln)) ⟨70, gl0, env, [⟨0, 0, .box [.vec 1 0 0 vs.length, .d (.int .i64 n)]⟩, ⟨1, 0, .vec 8 (vs.map vrD)⟩, ⟨250, v0, bxS x⟩, ⟨300, v1, bxV v⟩, ⟨450, v2, X2⟩]⟩ = RP (e, ln))
 (hpk : ∀ N env e ln, k (.panic 174 (ftD e ln)) ⟨70, gl0, env, [⟨0, 0, .box [.vec 1 0 0 vs.length, .d (.int .i64 n)]⟩, ⟨1, 0, .vec 8 (vs.map vrD)⟩, ⟨250, N, .dead⟩, ⟨300, N, .dead⟩, ⟨450, N, .dead⟩]⟩ = RP (e, ln))
 (hx : ∀ v2 X2, k (.exit 0) ⟨70, gl0, [(0, true, .ptr 0 0 0), (3, true, .ptr 250 v0 0), (4, true, .ptr 300 v1 0), (21, true, .d (.list ((smf x).map .str))), (22, true, .d (.int .i64 (smf x).length)), (23, true, .d (.int .i64 (smf x).length)), (24, true, .d (.bool false))], [⟨0, 0, .box [.vec 1 0 0 vs.length, .d (.int .i64 n)]⟩, ⟨1, 0, .vec 8 (vs.map vrD)⟩, ⟨250, v0, bxS x⟩, ⟨300, v1, bxV v⟩, ⟨450, v2, X2⟩]⟩ = R) :
 ∀ (rf pf : List Tx) (rc pc : List Ex) (v2 : Nat) (X2 : Cont), smf x = pf ++ rf → smc x = pc ++ rc → pc.length = pf.length → rc.length = rf.length →
 denK ctx 158 (.loop (Code.at (codeOf Tryz.f158) [1, 1, 1, 1, 0, 0])) ⟨70, gl0, [(0, true, .ptr 0 0 0), (3, true, .ptr 250 v0 0), (4, true, .ptr 300 v1 0), (21, true, .d (.list ((smf x).map .str))), (22, true, .d (.int .i64 (smf x).length)), (23, true, .d (.int .i64 pf.length))], [⟨0, 0, .box [.vec 1 0 0 vs.length, .d (.int .i64 n)]⟩, ⟨1, 0, .vec 8 (vs.map vrD)⟩, ⟨250, v0, bxS x⟩, ⟨300, v1, bxV v⟩, ⟨450, v2, X2⟩]⟩ k = if (callE vs v.ty (sml x) rf rc pf).1 = 0 then R else RP (callE vs v.ty (sml x) rf rc pf)
 | [], pf, rc, pc, v2, X2, hf, hc, hpl, hrl => by
  have hx := hx v2 X2
  have hl0 : pf.length = (smf x).length := by rw [hf]; simp
  have e : callE vs v.ty (sml x) [] rc pf = (0, 0) := by simp [callE]
  rw [e, hl0]
  simp only [bxS, bxV] at hx ⊢
  rw [denK_loop]
  simp [Tryz.f158, hx]
 | f :: rf, pf, [], pc, v2, X2, hf, hc, hpl, hrl => by simp at hrl
 | f :: rf, pf, y :: rc, pc, v2, X2, hf, hc, hpl, hrl => by
  have hf1 : pf.length < (smf x).length := by rw [hf]; simp
  have hf2 : (smf x)[pf.length] = f := by simp [hf]
  have hf3 : List.take pf.length ((smf x).map D.str) = pf.map D.str := by rw [← List.map_take, hf]; simp
  have hc1 : pf.length < (smc x).length := by rw [hc]; simp; omega
  have hc2 : (smc x)[pf.length] = y := by simp [hc, ← hpl]
  have hp3 : pf.length ≤ (smf x).length := by omega
  have w2 : IntKind.i64.wrap ((pf.length : Int) + 1) = pf.length + 1 := wrap_id (by unfold I64; omega)
  have hy := hC y (by rw [hc]; simp)
  unfold KX at hy
  have hpin := kpin_r v f
  have hct := scont_r pf f (by omega)
  have ih := fun v2 X2 => kcall_loop x v hln hC v0 v1 k R RP hp hpk hx rf (pf ++ [f]) rc (pc ++ [y]) v2 X2 (by simp [hf]) (by simp [hc]) (by simp [hpl]) (by simpa using hrl)
  simp [vrD, vrC] at hpin
  simp only [bxS, bxV] at hp hpk
  rw [denK_loop]
  unfold callE
  cases hq : pinF v.ty f with
  | none =>
   simp [hq, fP, pnD, pnZ] at hpin
   simp [Tryz.f158]
   simp [hf1, hf2, w2, hpin, need_r, kB2, hp]
  | some q =>
   simp [hq, fP, pnD] at hpin
   simp only
   by_cases hin : q.inp = false
   · rw [if_pos hin]
     simp [Tryz.f158]
     simp [hf1, hf2, w2, hpin, hin, need_r, kB2, hp]
   · rw [if_neg hin]
     have hin : q.inp = true := by simpa using hin
     by_cases hm : f ∈ pf
     · rw [if_pos hm]
       simp [hm] at hct
       simp [Tryz.f158]
       simp [hf1, hf2, hf3, hp3, w2, hpin, hin, hct, need_r, kB2, hp, hpk, drwK_end]
     · rw [if_neg hm]
       simp [hm] at hct
       by_cases he : (tyX vs y).e = 0
       · simp [he] at hy
         by_cases ht : (tyX vs y).t = q.ty
         · have e : ∀ r, orE (wantX vs y q.ty) r = r := fun r => by simp [orE, wantX, he, ht]
           rw [e]
           simp [Tryz.f158] at ih ⊢
           simp [hf1, hf2, hf3, hp3, hc1, hc2, w2, hpin, hin, hct, hy, he, ht, need_r, kB2, drwK_end, exD_A, ih]
         · have e : ∀ r, orE (wantX vs y q.ty) r = (10, exl y) := fun r => by simp [orE, wantX, he, ht]
           rw [e]
           simp [Tryz.f158]
           simp [hf1, hf2, hf3, hp3, hc1, hc2, w2, hpin, hin, hct, hy, he, ht, need_r, kB2, drwK_end, exD_A, hp, hpk]
       · simp [he] at hy
         have e : ∀ r, orE (wantX vs y q.ty) r = ((tyX vs y).e, (tyX vs y).line) := fun r => by simp [orE, wantX, he]
         rw [e]
         simp [Tryz.f158]
         simp [hf1, hf2, hf3, hp3, hc1, hc2, w2, hpin, hin, hct, hy, he, need_r, kB2, drwK_end, exD_A, hp, hpk]
end
section
variable {vs : List Vr} {n : Int} (hl : vs.length < 1000000) (hvs : ∀ v ∈ vs, fitV v = true)
def caE (vs : List Vr) (x : Sm) : EL := match findV vs (sma x) with
 | none => (9, sml x)
 | some v => if v.ty ≤ 2 then (10, sml x) else callE vs v.ty (sml x) (smf x) (smc x) []
def coE (vs : List Vr) (x : Sm) : EL := match findV vs (sma x) with
 | none => (9, sml x)
 | some v => if v.sec = 1 then (1, sml x) else if v.arr = true ∨ v.ty ≠ 1 then (10, sml x) else orE (wantsE vs 1 (smc x)) (chH vs (smb x))
include hl hvs
omit hvs in
theorem kcall_r {x : Sm} (hln : (smf x).length < 100000000) (hlen : (smc x).length = (smf x).length) (hC : ∀ y ∈ smc x, KX vs n y) : callT ctx 158 [.ptr 0 0 0, .d (.agg (smL x))] [.box [.vec 1 0 0 vs.length, .d (.int .i64 n)], .vec 8 (vs.map vrD)] =
 ansE vs n n (caE vs x) := by
 have hv := kvariable_r (n := n) hl (sma x) (sml x)
 unfold caE
 rw [run158 (by simp)]
 cases hf : findV vs (sma x) with
 | none =>
  simp [hf] at hv
  simp [Tryz.f158, hv, kB2, ansE]
 | some v =>
  have hb := kblock_r v
  simp [hf, fV, vrD, vrC] at hv hb
  simp only
  by_cases h2 : v.ty ≤ 2
  · have h3 : ¬ 2 < v.ty := by omega
    rw [if_pos h2]
    simp [h3] at hb
    simp [Tryz.f158, hv, hb, need_r, kB2, drwK_end, ansE, vrD, vrC]
  · have h3 : 2 < v.ty := by omega
    rw [if_neg h2]
    simp [h3] at hb
    have h := fun v0 v1 k R RP hp hpk hx v2 X2 => kcall_loop (n := n) x v hln hC v0 v1 k R RP hp hpk hx (smf x) [] (smc x) [] v2 X2 rfl rfl rfl hlen
    simp [Tryz.f158] at h
    simp [Tryz.f158, hv, hb, need_r, kB2, drwK_end, vrD, vrC]
    rw [h _ _ _ (some (.ret (.tup []), kB2 vs n)) (fun e => some (.panic 174 (ftD e.1 e.2), kB2 vs n))]
    · simp [ansE]
    · intro env v2 X2 e ln
      simp [kB2]
    · intro N env e ln
      simp [kB2]
    · intro v2 X2
      simp [kB2]
theorem kcounted_r {x : Sm} {b : List Sm} (hb : smb x = [b]) (hln : (smc x).length < 100000000) (hC : ∀ y ∈ smc x, KX vs n y) (h0 : 0 ≤ n) (hn : n < 100000000) (hK : KMs vs (n + 1) b) : ∃ n', callT ctx 155 [.ptr 0 0 0, .d (.agg (smL x))] [.box [.vec 1 0 0 vs.length, .d (.int .i64 n)], .vec 8 (vs.map vrD)] =
 ansE vs n n' (coE vs x) := by
 have hv := kvariable_r (n := n) hl (sma x) (sml x)
 obtain ⟨n', hlo⟩ := kloop_r h0 hn hK
 unfold coE
 rw [hb, show chH vs [b] = chMs vs true b by simp [chH]]
 generalize chMs vs true b = E at *
 cases hf : findV vs (sma x) with
 | none =>
  refine ⟨n, ?_⟩
  rw [run155 (by simp)]
  simp [hf] at hv
  simp [Tryz.f155, hv, kB2, ansE]
 | some v =>
  simp [hf, fV, vrD, vrC] at hv
  simp only
  by_cases hs : v.sec = 1
  · refine ⟨n, ?_⟩
    rw [run155 (by simp)]
    simp [Tryz.f155, hv, need_r, kB2, ansE, hs]
  · rw [if_neg hs]
    by_cases ha : v.arr = true ∨ v.ty ≠ 1
    · refine ⟨n, ?_⟩
      rw [if_pos ha]
      rw [run155 (by simp)]
      cases harr : v.arr with
      | true => simp [Tryz.f155, hv, need_r, kB2, ansE, hs, harr]
      | false =>
       have h1 : ¬ v.ty = 1 := by rw [harr] at ha; simpa using ha
       simp [Tryz.f155, hv, need_r, kB2, ansE, hs, harr, h1]
    · rw [if_neg ha]
      simp only [not_or, Bool.not_eq_true, ne_eq, Classical.not_not] at ha
      obtain ⟨harr, h1⟩ := ha
      have h := fun E1 E2 h1 h2 v0 k R RP hp hx v2 X2 => kcounted_loop (vs := vs) (n := n) x hln hC E1 E2 h1 h2 v0 k R RP hp hx (smc x) [] v2 X2 rfl
      simp [Tryz.f155] at h
      generalize wantsE vs 1 (smc x) = W at *
      by_cases hW : W.1 = 0
      · refine ⟨n', ?_⟩
        have e : orE W E = E := by unfold orE; rw [if_neg (by simp [hW])]
        rw [e]
        rw [run155 (by simp)]
        simp [Tryz.f155, hv, need_r, kB2, hs, harr, h1]
        rw [h ⟨250, _, _⟩ ⟨300, _, _⟩ rfl rfl _ _ (ansE vs n n' E) (fun e => some (.panic 174 (ftD e.1 e.2), kB2 vs n))]
        · rw [if_pos hW]
        · intro env v2 X2 e ln
          simp [kB2]
        · intro v2 X2
          by_cases hE : E.1 = 0
          · simp [ansE, hE] at hlo
            simp [hb, bkD, hlo, kB2, ansE, hE]
          · simp [ansE, hE] at hlo
            simp [hb, bkD, hlo, kB2, ansE, hE]
      · refine ⟨n, ?_⟩
        have e : orE W E = W := by unfold orE; rw [if_pos hW]
        rw [e]
        rw [run155 (by simp)]
        simp [Tryz.f155, hv, need_r, kB2, hs, harr, h1]
        rw [h ⟨250, _, _⟩ ⟨300, _, _⟩ rfl rfl _ _ (ansE vs n n' E) (fun e => some (.panic 174 (ftD e.1 e.2), kB2 vs n))]
        · rw [if_neg hW]; simp [ansE, hW]
        · intro env v2 X2 e ln
          simp [kB2]
        · intro v2 X2
          by_cases hE : E.1 = 0
          · simp [ansE, hE] at hlo
            simp [hb, bkD, hlo, kB2, ansE, hE]
          · simp [ansE, hE] at hlo
            simp [hb, bkD, hlo, kB2, ansE, hE]
omit hl hvs in
theorem kbranches_r {x : Sm} (hln : (smb x).length < 100000000) (hle : (smc x).length ≤ (smb x).length) (hK : ∀ b ∈ smb x, KMs vs n b) (hC : ∀ y ∈ smc x, KX vs n y) : ∃ n', callT ctx 153 [.ptr 0 0 0, .d (.agg (smL x))] [.box [.vec 1 0 0 vs.length, .d (.int .i64 n)], .vec 8 (vs.map vrD)] =
 ansE vs n n' (chC vs (decide (0 < n)) (smc x) (smb x)) := by
 have hq : ∃ n', callT ctx 153 [.ptr 0 0 0, .d (.agg (smL x))] [.box [.vec 1 0 0 vs.length, .d (.int .i64 n)], .vec 8 (vs.map vrD)] = if (chC vs (decide (0 < n)) (smc x) (smb x)).1 = 0 then some (.ret (.tup []), kB2 vs n) else (fun (e : EL) n' => some (Out.panic 174 (ftD e.1 e.2), kB2 vs n')) (chC vs (decide (0 < n)) (smc x) (smb x)) n' := by
  rw [run153 (by simp)]
  have h := fun v0 k R RP hp hx => kbranch_loop (vs := vs) (n := n) x hln hK hC v0 k R RP hp hx (smb x) [] (smc x) [] rfl rfl (.inl rfl)
  simp [Tryz.f153] at h ⊢
  refine h _ _ (some (.ret (.tup []), kB2 vs n)) (fun (e : EL) n' => some (Out.panic 174 (ftD e.1 e.2), kB2 vs n')) ?_ ?_
  · intro env e ln n'
    simp [kB2]
  · simp [kB2]
 exact hq
end
theorem chM_A (vs : List Vr) (lp : Bool) (x : Sm) : chM vs lp x =
 if smo x = 1 then asE vs (smt x) (smv x) (sml x)
 else if smo x = 2 then chC vs lp (smc x) (smb x)
 else if smo x = 3 then orE (wantX vs (smv x) 1) (chC vs lp [] (smb x))
 else if smo x = 4 then coE vs x
 else if smo x = 5 then orE (wantX vs (smv x) 2) (chH vs (smb x))
 else if smo x = 6 then orE (chH vs (smb x)) (wantX vs (smv x) 2)
 else if smo x = 7 then (if lp = true then (0, 0) else (14, sml x))
 else if smo x = 9 then caE vs x
 else (0, 0) := by
 obtain ⟨op, name, to, val, conds, labels, fields, blocks, line⟩ := x
 unfold chM coE caE
 rfl
mutual
def ndM : Sm → Nat
 | .mk _ _ _ _ conds labels fields blocks _ => 1 + conds.length + labels.length + fields.length + ndBs blocks
def ndMs : List Sm → Nat
 | [] => 0
 | x :: r => ndM x + ndMs r
def ndBs : List (List Sm) → Nat
 | [] => 0
 | b :: r => ndMs b + 1 + ndBs r
end
theorem ndMs_len : ∀ l : List Sm, l.length ≤ ndMs l
 | [] => by simp [ndMs]
 | .mk _ _ _ _ c lb f bl _ :: r => by have := ndMs_len r; simp only [ndMs, ndM, List.length_cons]; omega
theorem ndBs_len : ∀ l : List (List Sm), l.length ≤ ndBs l
 | [] => by simp [ndBs]
 | b :: r => by have := ndBs_len r; simp only [ndBs, List.length_cons]; omega
section
variable {vs : List Vr} {n : Int} (hl : vs.length < 1000000) (hvs : ∀ v ∈ vs, fitV v = true)
theorem kstmts_r {l : List Sm} (hln : l.length < 100000000) (hK : ∀ x ∈ l, KM vs n x) : KMs vs n l := by
 have loop : ∀ (k : Kt) (R : Ans) (RP : EL → Int → Ans),
  (∀ env v2 X2 e ln n', k (.panic 174 (ftD e ln)) ⟨16, gl0, env, [⟨0, 0, .box [.vec 1 0 0 vs.length, .d (.int .i64 n')]⟩, ⟨1, 0, .vec 8 (vs.map vrD)⟩, ⟨350, v2, X2⟩]⟩ = RP (e, ln) n') →
  (∀ v2 X2, k (.exit 0) ⟨16, gl0, [(0, true, .ptr 0 0 0), (6, true, .d (.list (l.map smD))), (7, true, .d (.int .i64 l.length)), (8, true, .d (.int .i64 l.length)), (9, true, .d (.bool false))], [⟨0, 0, .box [.vec 1 0 0 vs.length, .d (.int .i64 n)]⟩, ⟨1, 0, .vec 8 (vs.map vrD)⟩, ⟨350, v2, X2⟩]⟩ = R) →
  ∀ (rest pre : List Sm) (v2 : Nat) (X2 : Cont), l = pre ++ rest → ∃ n',
  denK ctx 67 (.loop (Code.at (codeOf Tryz.f67) [1, 0, 0])) ⟨16, gl0, [(0, true, .ptr 0 0 0), (6, true, .d (.list (l.map smD))), (7, true, .d (.int .i64 l.length)), (8, true, .d (.int .i64 pre.length))], [⟨0, 0, .box [.vec 1 0 0 vs.length, .d (.int .i64 n)]⟩, ⟨1, 0, .vec 8 (vs.map vrD)⟩, ⟨350, v2, X2⟩]⟩ k = if (chMs vs (decide (0 < n)) rest).1 = 0 then R else RP (chMs vs (decide (0 < n)) rest) n' := by
  intro k R RP hp hx rest
  induction rest with
  | nil =>
   intro pre v2 X2 hd
   refine ⟨0, ?_⟩
   have hx := hx v2 X2
   have hl0 : pre.length = l.length := by rw [hd]; simp
   rw [hl0, denK_loop]
   simp [Tryz.f67, chMs, hx]
  | cons x rest ih =>
   intro pre v2 X2 hd
   have hb1 : pre.length < l.length := by rw [hd]; simp
   have hb2 : l[pre.length] = x := by simp [hd]
   have w2 : IntKind.i64.wrap ((pre.length : Int) + 1) = pre.length + 1 := wrap_id (by unfold I64; omega)
   obtain ⟨nx, hs⟩ := hK x (by rw [hd]; simp)
   have e0 : chMs vs (decide (0 < n)) (x :: rest) = orE (chM vs (decide (0 < n)) x) (chMs vs (decide (0 < n)) rest) := by simp [chMs]
   rw [e0]
   generalize chM vs (decide (0 < n)) x = E at *
   by_cases hE : E.1 = 0
   · obtain ⟨n', ih⟩ := ih (pre ++ [x]) (v2 + 1) (bxS x) (by simp [hd])
     refine ⟨n', ?_⟩
     have e2 : ∀ r, orE E r = r := fun r => by unfold orE; rw [if_neg (by simp [hE])]
     rw [e2, ← ih]
     simp [ansE, hE] at hs
     rw [denK_loop]
     simp [Tryz.f67]
     simp [hb1, hb2, w2, hs, kB2, smD_A]
   · refine ⟨nx, ?_⟩
     have e2 : ∀ r, orE E r = E := fun r => by unfold orE; rw [if_pos hE]
     rw [e2, if_neg hE]
     simp [ansE, hE] at hs
     rw [denK_loop]
     simp [Tryz.f67]
     simp [hb1, hb2, w2, hs, kB2, smD_A, hp]
 have hq : ∃ n', callT ctx 67 [.ptr 0 0 0, .d (.list (l.map smD))] [.box [.vec 1 0 0 vs.length, .d (.int .i64 n)], .vec 8 (vs.map vrD)] = if (chMs vs (decide (0 < n)) l).1 = 0 then some (.ret (.tup []), kB2 vs n) else (fun (e : EL) n' => some (Out.panic 174 (ftD e.1 e.2), kB2 vs n')) (chMs vs (decide (0 < n)) l) n' := by
  rw [run67 (by simp)]
  have h := fun k R RP hp hx v2 X2 => loop k R RP hp hx l [] v2 X2 rfl
  simp [Tryz.f67] at h ⊢
  refine h _ (some (.ret (.tup []), kB2 vs n)) (fun (e : EL) n' => some (Out.panic 174 (ftD e.1 e.2), kB2 vs n')) ?_ ?_ _ _
  · intro env v2 X2 e ln n'
    simp [kB2]
  · intro v2 X2
    simp [kB2]
 exact hq
end
section
variable {vs : List Vr} {n : Int} (hl : vs.length < 1000000) (hvs : ∀ v ∈ vs, fitV v = true)
theorem orE_l {a b : EL} (h : a.1 = 0) : orE a b = b := by unfold orE; rw [if_neg (by simp [h])]
theorem orE_r {a b : EL} (h : ¬ a.1 = 0) : orE a b = a := by unfold orE; rw [if_pos h]
theorem idx_one {y : Ex} (h4 : exo y = 4) (hf : fitX y = true) : ∃ z, exs y = [z] ∧ fitX z = true := by
 obtain ⟨op, nn, name, field, sub, line⟩ := y
 simp only [exo_mk] at h4
 subst h4
 simp only [fitX, Bool.and_eq_true, decide_eq_true_eq] at hf
 obtain ⟨_, hlen, _, _, hsub⟩ := hf
 match sub, hlen with
 | [z], _ => exact ⟨z, rfl, by simpa [fitXs] using hsub⟩
 | [], h => simp [subsN] at h
 | _ :: _ :: _, h => simp [subsN] at h
include hl hvs
omit hvs in
theorem kstmt_hi {x : Sm} (hC : ∀ y ∈ smc x, KX vs n y) (hlf : (smf x).length < 100000000) (hshape : shapeB (smo x) (smc x).length (smlb x).length (smf x).length (smb x).length = true) (h1 : ¬ smo x = 1) (h2 : ¬ smo x = 2) (h3 : ¬ smo x = 3) (h4 : ¬ smo x = 4) (h5 : ¬ smo x = 5) (h6 : ¬ smo x = 6) :
 callT ctx 104 [.ptr 0 0 0, .d (.agg (smL x))] [.box [.vec 1 0 0 vs.length, .d (.int .i64 n)], .vec 8 (vs.map vrD)] = ansE vs n n (if smo x = 7 then (if decide (0 < n) = true then (0, 0) else (14, sml x)) else if smo x = 9 then caE vs x else (0, 0)) := by
 rw [run104 (by simp)]
 by_cases h7 : smo x = 7
 · rw [if_pos h7]
   by_cases hp : 0 < n
   · simp [Tryz.f104, h7, need_r, hp, kB2, drwK_end, ansE]
   · simp [Tryz.f104, h7, need_r, hp, kB2, drwK_end, ansE]
 · rw [if_neg h7]
   by_cases h9 : smo x = 9
   · have hs := hshape
     rw [h9] at hs
     simp [shapeB] at hs
     have hc := kcall_r (vs := vs) (n := n) hl hlf hs.1 hC
     rw [if_pos h9]
     generalize caE vs x = E at *
     by_cases hE : E.1 = 0
     · simp [ansE, hE, h9] at hc
       simp [Tryz.f104, h9, hc, kB2, ansE, hE]
     · simp [ansE, hE, h9] at hc
       simp [Tryz.f104, h9, hc, kB2, ansE, hE]
   · rw [if_neg h9]
     simp [Tryz.f104, h1, h2, h3, h4, h5, h6, h7, h9, kB2, ansE]
theorem kstmt_r {x : Sm} (hf : fitM x = true) (hlb : (smb x).length < 100000000) (hlc : (smc x).length < 100000000) (hlf : (smf x).length < 100000000) (h0 : 0 ≤ n) (hn : n < 100000000) (hB : ∀ b ∈ smb x, KMs vs n b ∧ KMs vs (n + 1) b) : KM vs n x := by
 have hA := chM_A vs (decide (0 < n)) x
 have hfx : ∃ op name to val conds labels fields blocks line, x = .mk op name to val conds labels fields blocks line := by
  obtain ⟨op, name, to, val, conds, labels, fields, blocks, line⟩ := x
  exact ⟨op, name, to, val, conds, labels, fields, blocks, line, rfl⟩
 have facts : (1 ≤ smo x ∧ smo x ≤ 9) ∧ (smo x = 1 → (exo (smt x) = 3 ∨ exo (smt x) = 4) ∧ fitX (smt x) = true) ∧ ((smo x = 1 ∨ smo x = 3 ∨ smo x = 5 ∨ smo x = 6) → fitX (smv x) = true) ∧ fitXs (smc x) = true ∧ shapeB (smo x) (smc x).length (smlb x).length (smf x).length (smb x).length = true := by
  obtain ⟨op, name, to, val, conds, labels, fields, blocks, line, rfl⟩ := hfx
  simp only [fitM, Bool.and_eq_true, decide_eq_true_eq] at hf
  obtain ⟨hop, hname, hto, hval, hconds, hshape, hfields, hlabels, hblocks⟩ := hf
  refine ⟨hop, fun h1 => ?_, fun h1 => ?_, hconds, hshape⟩
  · simp only [smo_mk] at h1
    rw [if_pos h1] at hto
    simpa using hto
  · simp only [smo_mk] at h1
    rw [if_pos h1] at hval
    simp only [Bool.and_eq_true] at hval
    exact hval.2
 obtain ⟨hop, hto, hval, hconds, hshape⟩ := facts
 have hC := kexprs_r (n := n) hl hvs (smc x) hconds
 unfold KM
 rw [hA]
 by_cases h1 : smo x = 1
 · obtain ⟨h3, hft⟩ := hto h1
   have ha := kassign_r hl hvs (n := n) h3 (kexpr_r hl hvs _ (hval (.inl h1))) (fun h4 => by
    obtain ⟨y, hy, hfy⟩ := idx_one h4 hft
    exact ⟨y, hy, kexpr_r hl hvs y hfy⟩)
   refine ⟨n, ?_⟩
   rw [if_pos h1]
   generalize asE vs (smt x) (smv x) (sml x) = E at *
   rw [run104 (by simp)]
   by_cases hE : E.1 = 0
   · simp [ansE, hE, h1] at ha
     simp [Tryz.f104, h1, ha, kB2, ansE, hE]
   · simp [ansE, hE, h1] at ha
     simp [Tryz.f104, h1, ha, kB2, ansE, hE]
 · rw [if_neg h1]
   by_cases h2 : smo x = 2
   · have hs := hshape
     rw [h2] at hs
     simp [shapeB] at hs
     obtain ⟨n', hb⟩ := kbranches_r hlb (by omega) (fun b hb => (hB b hb).1) hC
     refine ⟨n', ?_⟩
     rw [if_pos h2]
     generalize chC vs (decide (0 < n)) (smc x) (smb x) = E at *
     rw [run104 (by simp)]
     by_cases hE : E.1 = 0
     · simp [ansE, hE, h2] at hb
       simp [Tryz.f104, h2, hb, kB2, ansE, hE]
     · simp [ansE, hE, h2] at hb
       simp [Tryz.f104, h2, hb, kB2, ansE, hE]
   · rw [if_neg h2]
     by_cases h3 : smo x = 3
     · have hs := hshape
       rw [h3] at hs
       simp [shapeB] at hs
       have hc0 : smc x = [] := List.eq_nil_of_length_eq_zero (by simp [hs.1])
       obtain ⟨n', hb⟩ := kbranches_r hlb (by rw [hc0]; simp) (fun b hb => (hB b hb).1) hC
       have hw := knumber_r (kexpr_r hl hvs (n := n) _ (hval (.inr (.inl h3))))
       rw [if_pos h3]
       simp only [smL, hc0] at hb ⊢
       generalize chC vs (decide (0 < n)) [] (smb x) = E at *
       generalize wantX vs (smv x) 1 = W at *
       by_cases hW : W.1 = 0
       · refine ⟨n', ?_⟩
         rw [orE_l hW]
         simp [hW] at hw
         rw [run104 (by simp)]
         by_cases hE : E.1 = 0
         · simp [ansE, hE, h3] at hb
           simp [Tryz.f104, h3, hw, hb, kB2, ansE, hE]
         · simp [ansE, hE, h3] at hb
           simp [Tryz.f104, h3, hw, hb, kB2, ansE, hE]
       · refine ⟨n, ?_⟩
         rw [orE_r hW]
         simp [hW] at hw
         rw [run104 (by simp)]
         simp [Tryz.f104, h3, hw, kB2, ansE, hW]
     · rw [if_neg h3]
       by_cases h4 : smo x = 4
       · have hs := hshape
         rw [h4] at hs
         simp [shapeB] at hs
         obtain ⟨b, hb⟩ : ∃ b, smb x = [b] := by
          match hq : smb x, hs.2.2.2 with
          | [b], _ => exact ⟨b, rfl⟩
         obtain ⟨n', hc⟩ := kcounted_r hl hvs hb hlc hC h0 hn (hB b (by rw [hb]; simp)).2
         refine ⟨n', ?_⟩
         rw [if_pos h4]
         generalize coE vs x = E at *
         rw [run104 (by simp)]
         by_cases hE : E.1 = 0
         · simp [ansE, hE, h4] at hc
           simp [Tryz.f104, h4, hc, kB2, ansE, hE]
         · simp [ansE, hE, h4] at hc
           simp [Tryz.f104, h4, hc, kB2, ansE, hE]
       · rw [if_neg h4]
         by_cases h5 : smo x = 5
         · have hs := hshape
           rw [h5] at hs
           simp [shapeB] at hs
           obtain ⟨b, hb⟩ : ∃ b, smb x = [b] := by
            match hq : smb x, hs.2.2.2 with
            | [b], _ => exact ⟨b, rfl⟩
           obtain ⟨n', hc⟩ := kloop_r h0 hn (hB b (by rw [hb]; simp)).2
           have hw := ktruth_r (kexpr_r hl hvs (n := n) _ (hval (.inr (.inr (.inl h5)))))
           rw [if_pos h5]
           have hH : chH vs (smb x) = chMs vs true b := by rw [hb]; simp [chH]
           rw [hH]
           generalize chMs vs true b = E at *
           generalize wantX vs (smv x) 2 = W at *
           by_cases hW : W.1 = 0
           · refine ⟨n', ?_⟩
             rw [orE_l hW]
             simp [hW] at hw
             rw [run104 (by simp)]
             by_cases hE : E.1 = 0
             · simp [ansE, hE] at hc
               simp [Tryz.f104, h5, hw, hc, hb, bkD, kB2, ansE, hE]
             · simp [ansE, hE] at hc
               simp [Tryz.f104, h5, hw, hc, hb, bkD, kB2, ansE, hE]
           · refine ⟨n, ?_⟩
             rw [orE_r hW]
             simp [hW] at hw
             rw [run104 (by simp)]
             simp [Tryz.f104, h5, hw, kB2, ansE, hW]
         · rw [if_neg h5]
           by_cases h6 : smo x = 6
           · have hs := hshape
             rw [h6] at hs
             simp [shapeB] at hs
             obtain ⟨b, hb⟩ : ∃ b, smb x = [b] := by
              match hq : smb x, hs.2.2.2 with
              | [b], _ => exact ⟨b, rfl⟩
             obtain ⟨n', hc⟩ := kloop_r h0 hn (hB b (by rw [hb]; simp)).2
             have hw := ktruth_r (kexpr_r hl hvs (n := n) _ (hval (.inr (.inr (.inr h6)))))
             rw [if_pos h6]
             have hH : chH vs (smb x) = chMs vs true b := by rw [hb]; simp [chH]
             rw [hH]
             generalize chMs vs true b = E at *
             generalize wantX vs (smv x) 2 = W at *
             by_cases hE : E.1 = 0
             · refine ⟨n, ?_⟩
               rw [orE_l hE]
               simp [ansE, hE] at hc
               rw [run104 (by simp)]
               by_cases hW : W.1 = 0
               · simp [hW] at hw
                 simp [Tryz.f104, h6, hw, hc, hb, bkD, kB2, ansE, hW]
               · simp [hW] at hw
                 simp [Tryz.f104, h6, hw, hc, hb, bkD, kB2, ansE, hW]
             · refine ⟨n', ?_⟩
               rw [orE_r hE]
               simp [ansE, hE] at hc
               rw [run104 (by simp)]
               simp [Tryz.f104, h6, hc, hb, bkD, kB2, ansE, hE]
           · rw [if_neg h6]
             exact ⟨n, kstmt_hi hl hC hlf hshape h1 h2 h3 h4 h5 h6⟩
end
theorem kcells_r {v : Vr} (hf : fitV v = true) : callT ctx 88 [.d (vrD v)] [] = some (.ret (.d (.int .i64 (cellsF v))), []) := by
 have hs := spins_r v.ty
 rw [run88 (by simp)]
 unfold cellsF
 cases ha : v.arr with
 | true =>
  simp only [fitV, Bool.and_eq_true, ha, if_true, decide_eq_true_eq] at hf
  have w1 : IntKind.i64.wrap (v.hi - v.lo) = v.hi - v.lo := wrap_id (by unfold I64; omega)
  have w2 : IntKind.i64.wrap (v.hi - v.lo + 1) = v.hi - v.lo + 1 := wrap_id (by unfold I64; omega)
  simp [Tryz.f88, vrD, vrC, ha, w1, w2]
 | false =>
  by_cases h2 : 2 < v.ty
  · simp [Tryz.f88, vrD, vrC, ha, h2, hs]
  · simp [Tryz.f88, vrD, vrC, ha, h2]
theorem cells_small {v : Vr} (hf : fitV v = true) : 0 ≤ cellsF v ∧ cellsF v ≤ 256 := by
 have := pinsF_len v.ty
 unfold cellsF
 cases ha : v.arr with
 | true =>
  simp only [fitV, Bool.and_eq_true, ha, if_true, decide_eq_true_eq] at hf
  simp only [if_true]
  omega
 | false =>
  simp only [Bool.false_eq_true, if_false]
  split <;> omega
section
variable {vs : List Vr} (hl : vs.length < 1000000) (hvs : ∀ v ∈ vs, fitV v = true)
include hl hvs
mutual
theorem kM_all : ∀ (x : Sm), fitM x = true → ∀ n : Int, 0 ≤ n → n + ndM x < 100000000 → KM vs n x
 | .mk op name to val conds labels fields blocks line, hf, n, h0, hn => by
  have hfb : fitBs blocks = true := by
   simp only [fitM, Bool.and_eq_true] at hf
   exact hf.2.2.2.2.2.2.2.2
  have hbl := ndBs_len blocks
  simp only [ndM] at hn
  have b1 := kBs_all blocks hfb n h0 (by omega)
  have b2 := kBs_all blocks hfb (n + 1) (by omega) (by omega)
  exact kstmt_r hl hvs hf (by simp only [smb_mk]; omega) (by simp only [smc_mk]; omega) (by simp only [smf_mk]; omega) h0 (by omega) (fun b hb => ⟨b1 b hb, b2 b hb⟩)
theorem kMl_all : ∀ (l : List Sm), fitMs l = true → ∀ n : Int, 0 ≤ n → n + ndMs l < 100000000 → ∀ x ∈ l, KM vs n x
 | [], _, n, _, _, x, hx => by simp at hx
 | y :: r, hf, n, h0, hn, x, hx => by
  simp only [fitMs, Bool.and_eq_true] at hf
  simp only [ndMs] at hn
  have h1 := kM_all y hf.1 n h0 (by omega)
  have h2 := kMl_all r hf.2 n h0 (by omega)
  rcases List.mem_cons.1 hx with h | hx
  · rw [h]; exact h1
  · exact h2 x hx
theorem kBs_all : ∀ (bs : List (List Sm)), fitBs bs = true → ∀ n : Int, 0 ≤ n → n + ndBs bs < 100000000 → ∀ b ∈ bs, KMs vs n b
 | [], _, n, _, _, b, hb => by simp at hb
 | c :: r, hf, n, h0, hn, b, hb => by
  simp only [fitBs, Bool.and_eq_true] at hf
  simp only [ndBs] at hn
  have hcl := ndMs_len c
  have h1 := kstmts_r (by omega) (kMl_all c hf.1 n h0 (by omega))
  have h2 := kBs_all r hf.2 n h0 (by omega)
  rcases List.mem_cons.1 hb with h | hb
  · rw [h]; exact h1
  · exact h2 b hb
end
end
theorem kdecl_loop (l : List Vr) (hln : l.length ≤ 1000) (hf : ∀ v ∈ l, fitV v = true) (k : Kt) (R : Nat → Ans) (RP : EL → List Vr → Nat → Ans)
 (hp : ∀ env v1 v2 X2 e ln p, k (.panic 174 (ftD e ln)) ⟨43, gl0, env, [⟨0, 0, .box [.vec 1 v1 0 p.length, .d (.int .i64 0)]⟩, ⟨1, v1, .vec 8 (p.map vrD)⟩, ⟨400, v2, X2⟩]⟩ = RP (e, ln) p v1)
 (hx : ∀ v1 v2 X2 c, k (.exit 0) ⟨43, gl0, [(0, true, .ptr 0 0 0), (4, true, .d (.int .i64 c)), (7, true, .d (.list (l.map vrD))), (8, true, .d (.int .i64 l.length)), (9, true, .d (.int .i64 l.length)), (10, true, .d (.bool false))], [⟨0, 0, .box [.vec 1 v1 0 l.length, .d (.int .i64 0)]⟩, ⟨1, v1, .vec 8 (l.map vrD)⟩, ⟨400, v2, X2⟩]⟩ = R v1) :
 ∀ (rest pre : List Vr) (c : Int) (v1 v2 : Nat) (X2 : Cont), l = pre ++ rest → 0 ≤ c → c ≤ 1024 → ∃ p' v',
 denK ctx 66 (.loop (Code.at (codeOf Tryz.f66) [1, 1, 0, 0])) ⟨43, gl0, [(0, true, .ptr 0 0 0), (4, true, .d (.int .i64 c)), (7, true, .d (.list (l.map vrD))), (8, true, .d (.int .i64 l.length)), (9, true, .d (.int .i64 pre.length))], [⟨0, 0, .box [.vec 1 v1 0 pre.length, .d (.int .i64 0)]⟩, ⟨1, v1, .vec 8 (pre.map vrD)⟩, ⟨400, v2, X2⟩]⟩ k = if (chV rest pre c).1 = 0 then R v' else RP (chV rest pre c) p' v'
 | [], pre, c, v1, v2, X2, hd, h0, h1 => by
  have hx := hx v1 v2 X2 c
  simp at hd
  subst hd
  refine ⟨[], v1, ?_⟩
  rw [denK_loop]
  simp [Tryz.f66, chV, hx]
 | v :: rest, pre, c, v1, v2, X2, hd, h0, h1 => by
  have hfv := hf v (by rw [hd]; simp)
  have hcs := cells_small hfv
  have hc := kcells_r hfv
  have hb1 : pre.length < l.length := by rw [hd]; simp
  have hb2 : l[pre.length] = v := by simp [hd]
  have hct := kdec_ct v pre (by omega)
  rw [any_V] at hct
  have w2 : IntKind.i64.wrap ((pre.length : Int) + 1) = pre.length + 1 := wrap_id (by unfold I64; omega)
  have w3 : IntKind.i64.wrap (c + cellsF v) = c + cellsF v := wrap_id (by unfold I64; omega)
  have w4 : pre.length + 1 ≤ 4611686018427387904 := by omega
  have w5 : (pre.length + 1) * 72 ≤ 140737488355328 := by omega
  simp [vrD, vrC] at hc
  rw [denK_loop]
  unfold chV
  cases hin : (findV pre v.name).isSome with
  | true =>
   rw [hin] at hct
   refine ⟨pre, v1, ?_⟩
   simp [Tryz.f66]
   simp [hb1, hb2, vrD, vrC, hct, need_r, hp, drwKA_c, drwKE, drwKT, drwKI_cons, drwKI_end, drwKL, isLast, stepI, lookI, lookG, lookL, lookF, lookN, lookX, ents, findC, hasC, chkI, invEs, invE, clE, clB, eqA, dgstep, dstep, dspec, dcall, Stp.app]
  | false =>
   rw [hin] at hct
   by_cases hgt : 1024 < c + cellsF v
   · have hng : ¬ c + cellsF v ≤ 1024 := by omega
     refine ⟨pre, v1, ?_⟩
     simp [Tryz.f66, hgt]
     simp [hb1, hb2, vrD, vrC, hct, hc, w3, hng, need_r, hp, drwKA_c, drwKE, drwKT, drwKI_cons, drwKI_end, drwKL, isLast, stepI, lookI, lookG, lookL, lookF, lookN, lookX, ents, findC, hasC, chkI, invEs, invE, clE, clB, eqA, dgstep, dstep, dspec, dcall, Stp.app]
   · have hng : c + cellsF v ≤ 1024 := by omega
     obtain ⟨p', v', ih⟩ := kdecl_loop l hln hf k R RP hp hx rest (pre ++ [v]) (c + cellsF v) (v1 + 1) (v2 + 1) (bxV v) (by simp [hd]) (by omega) hng
     refine ⟨p', v', ?_⟩
     simp only [Bool.false_eq_true, if_false, if_neg hgt]
     rw [← ih]
     simp [Tryz.f66]
     simp [hb1, hb2, vrD, vrC, hct, hc, w2, w3, w4, w5, hng, need_r, drwK_end, drwKA_c, drwKE, drwKT, drwKI_cons, drwKI_end, drwKL, isLast, stepI, lookI, lookG, lookL, lookF, lookN, lookX, ents, findC, hasC, chkI, invEs, invE, clE, clB, eqA, dgstep, dstep, dspec, dcall, Stp.app]
def kB3 (vs : List Vr) (v : Nat) : List (Nat × Cont) := [(0, .box [.vec 1 v 0 vs.length, .d (.int .i64 0)]), (v, .vec 8 (vs.map vrD))]
theorem kdeclared_r {l : List Vr} (hln : l.length ≤ 1000) (hf : ∀ v ∈ l, fitV v = true) : ∃ p' v', callT ctx 66 [.ptr 0 0 0, .d (.list (l.map vrD))] [.box [.vec 1 0 0 0, .d (.int .i64 0)], .vec 8 []] =
 if (chV l [] 0).1 = 0 then some (.ret (.tup []), kB3 l v') else some (.panic 174 (ftD (chV l [] 0).1 (chV l [] 0).2), kB3 p' v') := by
 have hq : ∃ p' v', callT ctx 66 [.ptr 0 0 0, .d (.list (l.map vrD))] [.box [.vec 1 0 0 0, .d (.int .i64 0)], .vec 8 []] = if (chV l [] 0).1 = 0 then (fun v => some (.ret (.tup []), kB3 l (if v = 0 then 0 else 1))) v' else (fun (e : EL) (p' : List Vr) v => some (Out.panic 174 (ftD e.1 e.2), kB3 p' (if v = 0 then 0 else 1))) (chV l [] 0) p' v' := by
  rw [run66 (by simp)]
  have h := fun k R RP hp hx v1 v2 X2 => kdecl_loop l hln hf k R RP hp hx l [] 0 v1 v2 X2 rfl (by omega) (by omega)
  simp [Tryz.f66] at h ⊢
  refine h _ (fun v => some (.ret (.tup []), kB3 l (if v = 0 then 0 else 1))) (fun (e : EL) p' v => some (Out.panic 174 (ftD e.1 e.2), kB3 p' (if v = 0 then 0 else 1))) ?_ ?_ _ _ _
  · intro env v1 v2 X2 e ln p
    simp [kB3]
  · intro v1 v2 X2 c
    simp [kB3]
 obtain ⟨p', v', h⟩ := hq
 exact ⟨p', if v' = 0 then 0 else 1, h⟩
theorem kcaught_bad (e l : Int) (a b : AV) : recT ctx 65 [.ptr 0 0 0, .ptr 1 0 0, .ifc 174 (ftD e l)] [.box [a], .box [b]] = some (.ret (.tup []), [(0, .box [.d (.int .i64 e)]), (0, .box [.d (.int .i64 l)])]) := by
 rw [run65 (by rfl) (by rfl) (by simp)]
 simp [Tryz.f65]
 erw [denRK_reg rfl]
 simp [ftD, drwK_end]
theorem kcaught_ok (a b : D) : recT ctx 65 [.ptr 0 0 0, .ptr 1 0 0, .lit .nilIface] [.box [.d a], .box [.d b]] = some (.ret (.tup []), [(0, .box [.d a]), (0, .box [.d b])]) := by
 rw [run65 (by rfl) (by rfl) (by simp)]
 simp [Tryz.f65]
 erw [denRK_reg rfl]
 simp
def ckR (e : EL) : EL := if e.1 = 0 then (0, 0) else e
theorem kcheck_r {p : Pg} (hf : fitP p = true) (hn : ndMs p.body < 50000000) : callT ctx 27 [.d (.agg [.str p.name, .list (p.vars.map vrD), .list (p.body.map smD)])] [] = some (.ret (.tup [.d (.int .i64 (ckR (checkP p)).1), .d (.int .i64 (ckR (checkP p)).2)]), []) := by
 simp only [fitP, Bool.and_eq_true, decide_eq_true_eq, List.all_eq_true] at hf
 obtain ⟨_, hvl, hvs, hb⟩ := hf
 have hml := ndMs_len p.body
 obtain ⟨p', v', hd⟩ := kdeclared_r (l := p.vars) (by omega) hvs
 obtain ⟨n', hs⟩ := kstmts_r (vs := p.vars) (n := 0) (l := p.body) (by omega) (kMl_all (by omega) hvs p.body hb 0 (by omega) (by omega))
 have hc := kcaught_bad
 have hk := kcaught_ok
 rw [run27 (by simp)]
 unfold checkP
 rw [show (decide ((0 : Int) < 0)) = false by decide] at hs
 generalize chV p.vars [] 0 = V at *
 generalize chMs p.vars false p.body = E at *
 by_cases hV : V.1 = 0
 · rw [orE_l hV]
   simp [hV, kB3] at hd
   by_cases hE : E.1 = 0
   · simp [ansE, hE, kB2] at hs
     simp [Tryz.f27, hasDef, isDefer, deferOf, dfv, hd, hs, hk, drwK_end, ckR, hE]
   · simp [ansE, hE, kB2] at hs
     simp [Tryz.f27, hasDef, isDefer, deferOf, dfv, hd, hs, hc, drwK_end, ckR, hE]
 · rw [orE_r hV]
   simp [hV, kB3] at hd
   simp [Tryz.f27, hasDef, isDefer, deferOf, dfv, hd, hc, drwK_end, ckR, hV]
@[reducible] noncomputable def fiC (p : List Nat) : Code := Code.at (codeOf Tryz.f17) p
def fiA (w : Vr) : Bool := nameF w.name && decide (0 ≤ w.sec ∧ w.sec ≤ 2)
def fiB (w : Vr) : Bool := decide (w.ty = 1 ∨ w.ty = 2) || kindT w.ty
def fiD (w : Vr) : Bool := if w.arr = true then decide (w.ty ≤ 2 ∧ 0 ≤ w.lo ∧ w.lo ≤ w.hi ∧ w.hi ≤ 255) else decide (w.lo = 0 ∧ w.hi = 0)
def fiE (w : Vr) : Bool := !decide (((w.arr = true ∨ 2 < w.ty) ∧ w.init ≠ 0) ∨ (w.ty = 2 ∧ (w.init < 0 ∨ 1 < w.init)) ∨ w.init = -9223372036854775808)
theorem fitV_A (w : Vr) : fitV w = (fiA w && (fiB w && (fiD w && fiE w))) := by
 unfold fitV fiA fiB fiD fiE
 simp only [Bool.and_assoc]
section
variable {w : Vr} {v : Nat} {k : Kt} {R1 : Ans} {a b : AV} {B : Cont} (hr : k .ret ⟨129, gl0, [(2, true, .d (.bool false))], [⟨150, 1, B⟩, ⟨300, v, bxV w⟩]⟩ = R1)
include hr
theorem fiA_r : denK ctx 17 (fiC [1, 1, 0, 1, 0, 0, 1, 0, 0, 1, 0]) ⟨129, gl0, [(1, true, a), (3, true, b), (4, true, .ptr 300 v 0)], [⟨150, 1, B⟩, ⟨300, v, bxV w⟩]⟩ k =
 if fiA w = true then k .normal ⟨129, gl0, [(1, true, a), (3, true, b), (4, true, .ptr 300 v 0), (40, true, .d (.bool false))], [⟨150, 1, B⟩, ⟨300, v, bxV w⟩]⟩ else R1 := by
 have hn := fname_r w.name
 unfold fiA
 simp only [bxV] at hr
 generalize nameF w.name = N at *
 cases N with
 | false => (simp [fiC, Tryz.f17]; simp [hn, hr])
 | true =>
  by_cases h1 : w.sec < 0
  · have h2 : ¬ 0 ≤ w.sec := by omega
    (simp [fiC, Tryz.f17]; simp [hn, h1, h2, hr])
  · have h2 : 0 ≤ w.sec := by omega
    by_cases h3 : 2 < w.sec
    · have h4 : ¬ w.sec ≤ 2 := by omega
      (simp [fiC, Tryz.f17]; simp [hn, h1, h2, h3, h4, hr])
    · have h4 : w.sec ≤ 2 := by omega
      (simp [fiC, Tryz.f17]; simp [hn, h1, h2, h3, h4, hr])
theorem fiB_r {d : AV} : denK ctx 17 (fiC [1, 1, 0, 1, 0, 0, 1, 0, 0, 1, 1, 0]) ⟨129, gl0, [(1, true, a), (3, true, b), (4, true, .ptr 300 v 0), (40, true, d)], [⟨150, 1, B⟩, ⟨300, v, bxV w⟩]⟩ k =
 if fiB w = true then k .normal ⟨129, gl0, [(1, true, a), (3, true, b), (4, true, .ptr 300 v 0), (54, true, .d (.bool false))], [⟨150, 1, B⟩, ⟨300, v, bxV w⟩]⟩ else R1 := by
 have hn := nm_r w.ty
 have hq := nm_kind w.ty
 unfold fiB
 simp only [bxV] at hr
 generalize nmIn w.ty rwT = T at *
 generalize kindT w.ty = Q at *
 by_cases h1 : w.ty = 1
 · (simp only [h1] at hr ⊢; simp [fiC, Tryz.f17]; simp [h1])
 · by_cases h2 : w.ty = 2
   · (simp only [h2] at hr ⊢; simp [fiC, Tryz.f17]; simp [h2])
   · by_cases hT : T = []
     · have hQ := hq.1 hT
       (simp [fiC, Tryz.f17]; simp [hn, h1, h2, hT, hQ, hr])
     · have hQ : Q = true := by cases Q with | true => rfl | false => exact absurd (hq.2 rfl) hT
       (simp [fiC, Tryz.f17]; simp [hn, h1, h2, hT, hQ, hr])
theorem fiD_r {d : AV} : denK ctx 17 (fiC [1, 1, 0, 1, 0, 0, 1, 0, 0, 1, 1, 1, 0]) ⟨129, gl0, [(1, true, a), (3, true, b), (4, true, .ptr 300 v 0), (54, true, d)], [⟨150, 1, B⟩, ⟨300, v, bxV w⟩]⟩ k =
 if fiD w = true then k .normal ⟨129, gl0, [(1, true, a), (3, true, b), (4, true, .ptr 300 v 0), (93, true, .d (.bool false))], [⟨150, 1, B⟩, ⟨300, v, bxV w⟩]⟩ else R1 := by
 unfold fiD
 simp only [bxV] at hr
 obtain ⟨name, ty, sec, arr, lo, hi, init, line⟩ := w
 simp only at hr ⊢
 cases arr with
 | false =>
  by_cases h1 : lo = 0
  · by_cases h2 : hi = 0
    · (simp [fiC, Tryz.f17]; simp [h1, h2, hr])
    · (simp only [h1] at hr; simp [fiC, Tryz.f17]; simp [h1, h2, hr])
  · (simp [fiC, Tryz.f17]; simp [h1, hr])
 | true =>
  by_cases h1 : 2 < ty
  · have h1' : ¬ ty ≤ 2 := by omega
    (simp [fiC, Tryz.f17]; simp [h1, h1', hr])
  · have h1' : ty ≤ 2 := by omega
    by_cases h2 : lo < 0
    · have h2' : ¬ 0 ≤ lo := by omega
      (simp [fiC, Tryz.f17]; simp [h1, h1', h2, h2', hr])
    · have h2' : 0 ≤ lo := by omega
      by_cases h3 : hi < lo
      · have h3' : ¬ lo ≤ hi := by omega
        (simp [fiC, Tryz.f17]; simp [h1, h1', h2, h2', h3, h3', hr])
      · have h3' : lo ≤ hi := by omega
        by_cases h4 : 255 < hi
        · have h4' : ¬ hi ≤ 255 := by omega
          (simp [fiC, Tryz.f17]; simp [h1, h1', h2, h2', h3, h3', h4, h4', hr])
        · have h4' : hi ≤ 255 := by omega
          (simp [fiC, Tryz.f17]; simp [h1, h1', h2, h2', h3, h3', h4, h4', hr])
theorem fiE_r {d : AV} : denK ctx 17 (fiC [1, 1, 0, 1, 0, 0, 1, 0, 0, 1, 1, 1, 1]) ⟨129, gl0, [(1, true, a), (3, true, b), (4, true, .ptr 300 v 0), (93, true, d)], [⟨150, 1, B⟩, ⟨300, v, bxV w⟩]⟩ k =
 if fiE w = true then k .normal ⟨129, gl0, [(1, true, a), (3, true, b), (125, true, .d (.bool false))], [⟨150, 1, B⟩, ⟨300, v, bxV w⟩]⟩ else R1 := by
 unfold fiE
 simp only [bxV] at hr
 obtain ⟨name, ty, sec, arr, lo, hi, init, line⟩ := w
 simp only at hr ⊢
 cases arr with
 | true =>
  by_cases h2 : init = 0
  · subst h2
    by_cases h3 : ty = 2
    · subst h3; (simp [fiC, Tryz.f17]; all_goals simp [hr])
    · (simp [fiC, Tryz.f17]; all_goals simp [h3, hr])
  · (simp [fiC, Tryz.f17]; all_goals simp [h2, hr])
 | false =>
  by_cases h1 : 2 < ty
  · have h3 : ¬ ty = 2 := by omega
    have h1' : ¬ ty ≤ 2 := by omega
    by_cases h2 : init = 0
    · subst h2; (simp [fiC, Tryz.f17]; all_goals simp [h1, h1', h3, hr])
    · (simp [fiC, Tryz.f17]; all_goals simp [h1, h1', h2, h3, hr])
  · have h1' : ty ≤ 2 := by omega
    by_cases h3 : ty = 2
    · subst h3
      by_cases h4 : init < 0
      · have h4' : ¬ 0 ≤ init := by omega
        (simp [fiC, Tryz.f17]; all_goals simp [h4, h4', hr])
      · have h4' : 0 ≤ init := by omega
        by_cases h5 : 1 < init
        · have h5' : ¬ init ≤ 1 := by omega
          (simp [fiC, Tryz.f17]; all_goals simp [h4, h4', h5, h5', hr])
        · have h6 : ¬ init = -9223372036854775808 := by omega
          have h5' : init ≤ 1 := by omega
          (simp [fiC, Tryz.f17]; all_goals simp [h4, h4', h5, h5', h6, hr])
    · by_cases h6 : init = -9223372036854775808
      · subst h6; (simp [fiC, Tryz.f17]; all_goals simp [h1, h1', h3, hr])
      · (simp [fiC, Tryz.f17]; all_goals simp [h1, h1', h3, h6, hr])
end
section
variable {w : Vr} {v : Nat} {k : Kt} {R1 : Ans} {a b : AV} {B : Cont}
theorem fiBody (hr : k .ret ⟨129, gl0, [(2, true, .d (.bool false))], [⟨150, 1, B⟩, ⟨300, v, bxV w⟩]⟩ = R1) :
 denK ctx 17 (fiC [1, 1, 0, 1, 0, 0, 1, 0, 0, 1]) ⟨129, gl0, [(1, true, a), (3, true, b), (4, true, .ptr 300 v 0)], [⟨150, 1, B⟩, ⟨300, v, bxV w⟩]⟩ k =
 if fitV w = true then k .normal ⟨129, gl0, [(1, true, a), (3, true, b), (125, true, .d (.bool false))], [⟨150, 1, B⟩, ⟨300, v, bxV w⟩]⟩ else R1 := by
 have e1 : fiC [1, 1, 0, 1, 0, 0, 1, 0, 0, 1] = Code.seq (fiC [1, 1, 0, 1, 0, 0, 1, 0, 0, 1, 0]) (fiC [1, 1, 0, 1, 0, 0, 1, 0, 0, 1, 1]) := rfl
 have e2 : fiC [1, 1, 0, 1, 0, 0, 1, 0, 0, 1, 1] = Code.seq (fiC [1, 1, 0, 1, 0, 0, 1, 0, 0, 1, 1, 0]) (fiC [1, 1, 0, 1, 0, 0, 1, 0, 0, 1, 1, 1]) := rfl
 have e3 : fiC [1, 1, 0, 1, 0, 0, 1, 0, 0, 1, 1, 1] = Code.seq (fiC [1, 1, 0, 1, 0, 0, 1, 0, 0, 1, 1, 1, 0]) (fiC [1, 1, 0, 1, 0, 0, 1, 0, 0, 1, 1, 1, 1]) := rfl
 have hq : ∀ c, seqK ctx 17 c k .ret ⟨129, gl0, [(2, true, .d (.bool false))], [⟨150, 1, B⟩, ⟨300, v, bxV w⟩]⟩ = R1 := fun _ => hr
 rw [fitV_A, e1, denK_seq, fiA_r (hq _)]
 cases fiA w
 · rw [Bool.false_and, if_neg Bool.false_ne_true, if_neg Bool.false_ne_true]
 rw [if_pos rfl, Bool.true_and, seqK_n, e2, denK_seq, fiB_r (hq _)]
 cases fiB w
 · rw [Bool.false_and, if_neg Bool.false_ne_true, if_neg Bool.false_ne_true]
 rw [if_pos rfl, Bool.true_and, seqK_n, e3, denK_seq, fiD_r (hq _)]
 cases fiD w
 · rw [Bool.false_and, if_neg Bool.false_ne_true, if_neg Bool.false_ne_true]
 rw [if_pos rfl, Bool.true_and, seqK_n, fiE_r hr]
end
theorem fi_loop (l : List Vr) (hln : l.length ≤ 64) (D1 D2 : AV) (k : Kt) (R1 R2 : Ans)
 (h1 : ∀ v X, k .ret ⟨129, gl0, [(2, true, .d (.bool false))], [⟨150, 1, .box [D1, .d (.list (l.map vrD)), D2]⟩, ⟨300, v, X⟩]⟩ = R1)
 (h2 : ∀ (b c : AV) v X, k (.exit 0) ⟨129, gl0, [(1, true, .ptr 150 1 0), (3, true, b), (19, true, c)], [⟨150, 1, .box [D1, .d (.list (l.map vrD)), D2]⟩, ⟨300, v, X⟩]⟩ = R2) : ∀ (rest pre : List Vr) (v : Nat) (X : Cont), l = pre ++ rest →
 denK ctx 17 (.loop (fiC [1, 1, 0, 1, 0, 0])) ⟨129, gl0, [(1, true, .ptr 150 1 0), (3, true, .d (.int .i64 pre.length))], [⟨150, 1, .box [D1, .d (.list (l.map vrD)), D2]⟩, ⟨300, v, X⟩]⟩ k = if rest.all fitV = true then R2 else R1
 | [], pre, v, X, hd => by
  have hl0 : pre.length = l.length := by rw [hd]; simp
  rw [hl0, denK_loop]
  simp [fiC, Tryz.f17, h2]
 | x :: rest, pre, v, X, hd => by
  have hb1 : pre.length < l.length := by rw [hd]; simp
  have hb2 : l[pre.length] = x := by simp [hd]
  have hb := fun (v : Nat) (a b : AV) (k : Kt) => fiBody (w := x) (v := v) (a := a) (b := b) (k := k) (B := .box [D1, .d (.list (l.map vrD)), D2]) rfl
  have ih : ∀ v X, denK ctx 17 (.loop (fiC [1, 1, 0, 1, 0, 0])) ⟨129, gl0, [(1, true, .ptr 150 1 0), (3, true, .d (.int .i64 (pre.length + 1)))], [⟨150, 1, .box [D1, .d (.list (l.map vrD)), D2]⟩, ⟨300, v, X⟩]⟩ k = if rest.all fitV = true then R2 else R1 := fun v X => by
   have := fi_loop l hln D1 D2 k R1 R2 h1 h2 rest (pre ++ [x]) v X (by simp [hd])
   simpa using this
  have w1 : IntKind.i64.wrap ((pre.length : Int) + 1) = (pre.length : Int) + 1 := wrap_id (by unfold I64; omega)
  rw [List.all_cons]
  generalize fitV x = N at *
  generalize rest.all fitV = M at *
  rw [denK_loop]
  simp [fiC, Tryz.f17] at hb ih ⊢
  simp [hb1, hb2, vrD, vrC]
  simp [hb]
  cases N <;> simp [h1, w1, ih]
theorem fits_r {p : Pg} (hb : p.body.length < 100000000) (hl : lnMs p.body) : callT ctx 17 [.d (.agg [.str p.name, .list (p.vars.map vrD), .list (p.body.map smD)])] [] = some (.ret (.d (.bool (fitP p))), []) := by
 have hn := fname_r p.name
 have hs := fitS_all hb hl
 unfold KS at hs
 rw [run17 (by simp)]
 unfold fitP
 generalize nameF p.name = N at *
 generalize fitMs p.body = M at *
 cases N with
 | false => simp [Tryz.f17, hn]
 | true =>
  by_cases h6 : 64 < p.vars.length
  · have h6' : (64 : Int) < p.vars.length := by omega
    have h7 : ¬ p.vars.length ≤ 64 := by omega
    simp [Tryz.f17, hn, h6, h6', h7]
  · have h6' : ¬ (64 : Int) < p.vars.length := by omega
    have h7 : p.vars.length ≤ 64 := by omega
    have hlo := fun D1 D2 k R1 R2 h1 h2 v X => fi_loop p.vars h7 D1 D2 k R1 R2 h1 h2 p.vars [] v X rfl
    generalize p.vars.all fitV = Q at *
    simp [fiC, Tryz.f17] at hlo
    simp [Tryz.f17, hn, h6, h6', h7]
    rw [hlo _ _ _ (some (.ret (.d (.bool false)), [])) (some (.ret (.d (.bool M)), []))]
    · cases Q <;> simp
    · intro v X; simp
    · intro b c v X; simp [hs]
def SE (l : List Ex) : Prop := ∀ most : Int, ∃ n d : Int, callT ctx 121 [.d (.list (l.map exD)), .d (.int .i64 most)] [] = some (.ret (.tup [.d (.int .i64 n), .d (.int .i64 d)]), [])
theorem sz_loop (l : List Ex) (hln : l.length < 100000000) (hK : ∀ x ∈ l, SE (exs x)) (most : Int) (k : Kt) (Q : Ans → Prop)
 (h2 : ∀ (n d : Int) (b c : AV), Q (k (.exit 0) ⟨44, gl0, [(0, true, .d (.list (l.map exD))), (1, true, .d (.int .i64 most)), (6, true, .d (.int .i64 n)), (7, true, .d (.int .i64 d)), (8, true, b), (19, true, c)], []⟩)) : ∀ (rest pre : List Ex) (n d : Int), l = pre ++ rest →
 Q (denK ctx 121 (.loop (Code.at (codeOf Tryz.f121) [1, 1, 0, 1, 0, 0])) ⟨44, gl0, [(0, true, .d (.list (l.map exD))), (1, true, .d (.int .i64 most)), (6, true, .d (.int .i64 n)), (7, true, .d (.int .i64 d)), (8, true, .d (.int .i64 pre.length))], []⟩ k)
 | [], pre, n, d, hd => by
  have hl0 : pre.length = l.length := by rw [hd]; simp
  rw [hl0, denK_loop]
  simp [Tryz.f121, h2]
 | x :: rest, pre, n, d, hd => by
  have hb1 : pre.length < l.length := by rw [hd]; simp
  have hb2 : l[pre.length] = x := by simp [hd]
  obtain ⟨m, d', hm⟩ := hK x (by rw [hd]; simp) (IntKind.i64.wrap (most - n))
  have ih : ∀ n d, Q (denK ctx 121 (.loop (Code.at (codeOf Tryz.f121) [1, 1, 0, 1, 0, 0])) ⟨44, gl0, [(0, true, .d (.list (l.map exD))), (1, true, .d (.int .i64 most)), (6, true, .d (.int .i64 n)), (7, true, .d (.int .i64 d)), (8, true, .d (.int .i64 (pre.length + 1)))], []⟩ k) := fun n d => by
   have := sz_loop l hln hK most k Q h2 rest (pre ++ [x]) n d (by simp [hd])
   simpa using this
  have w1 : IntKind.i64.wrap ((pre.length : Int) + 1) = (pre.length : Int) + 1 := wrap_id (by unfold I64; omega)
  rw [denK_loop]
  by_cases hn : n ≤ most
  · simp [Tryz.f121] at ih ⊢
    simp [hb1, hb2, hn, exD_A, hm, w1, ih]
  · simp [Tryz.f121]
    simp [hb1, hn, h2]
theorem sz_r {l : List Ex} (hln : l.length < 100000000) (hK : ∀ x ∈ l, SE (exs x)) : SE l := by
 intro most
 have h := fun k Q h2 => sz_loop l hln hK most k Q h2 l [] 0 0 rfl
 rw [run121 (by simp)]
 simp [Tryz.f121] at h ⊢
 apply h _ (fun A => ∃ n d : Int, A = some (.ret (.tup [.d (.int .i64 n), .d (.int .i64 d)]), []))
 intro n d b c
 simp
mutual
theorem sz_X : ∀ x : Ex, lnX x → SE (exs x)
 | .mk op nn name field sub line, h => by
  simp only [lnX] at h
  exact sz_r h.1.2.2 (sz_Xs sub h.2)
theorem sz_Xs : ∀ l : List Ex, lnXs l → ∀ x ∈ l, SE (exs x)
 | [], _, x, hx => by simp at hx
 | y :: r, h, x, hx => by
  simp only [lnXs] at h
  rcases List.mem_cons.1 hx with e | hx
  · rw [e]; exact sz_X y h.1
  · exact sz_Xs r h.2 x hx
end
theorem sz_all {l : List Ex} (hln : l.length < 100000000) (h : lnXs l) : SE l := sz_r hln (sz_Xs l h)
@[reducible] noncomputable def ssC (p : List Nat) : Code := Code.at (codeOf Tryz.f80) p
def SS (l : List Sm) : Prop := ∀ most : Int, ∃ n d : Int, callT ctx 80 [.d (.list (l.map smD)), .d (.int .i64 most)] [] = some (.ret (.tup [.d (.int .i64 n), .d (.int .i64 d)]), [])
section
variable {x : Sm} {v : Nat} {k : Kt} {Q : Ans → Prop} {a b : AV} {most : Int}
theorem ssA (h1 : SE [smt x, smv x]) (hc : SE (smc x)) (n d : Int)
 (hQ : ∀ (n d : Int) (c1 c2 c3 c4 : AV), Q (k .normal ⟨136, gl0, [(0, true, a), (1, true, .d (.int .i64 most)), (6, true, .d (.int .i64 n)), (7, true, .d (.int .i64 d)), (8, true, b), (9, true, .ptr 550 v 0), (42, true, c1), (43, true, c2), (44, true, c3), (45, true, c4)], [⟨550, v, bxS x⟩]⟩)) :
 Q (denK ctx 80 (ssC [1, 1, 0, 1, 0, 0, 1, 0, 0, 1, 1, 0]) ⟨136, gl0, [(0, true, a), (1, true, .d (.int .i64 most)), (6, true, .d (.int .i64 n)), (7, true, .d (.int .i64 d)), (8, true, b), (9, true, .ptr 550 v 0)], [⟨550, v, bxS x⟩]⟩ k) := by
 unfold SE at h1 hc
 simp [exD_A] at h1
 have w11 : IntKind.i64.wrap 1 = 1 := by decide
 have w12 : IntKind.i64.wrap 2 = 2 := by decide
 have r2 : List.range' 0 2 = [0, 1] := rfl
 simp only [bxS] at hQ
 obtain ⟨m, d', hm⟩ := h1 (IntKind.i64.wrap (most - n))
 simp [ssC, Tryz.f80, r2]
 rw [denK_loop]
 simp [hm, w11]
 generalize IntKind.i64.wrap (n + m) = n2
 obtain ⟨m2, d2, hm2⟩ := hc (IntKind.i64.wrap (most - n2))
 rw [denK_loop]
 simp [hm2, w11, w12]
 rw [denK_loop]
 simp [hQ]
end
section
variable {x : Sm} {v : Nat} {k : Kt} {Q : Ans → Prop} {a b : AV} {most : Int}
theorem ssB (n d : Int) (c1 c2 c3 c4 : AV)
 (hQ : ∀ (n : Int), Q (k .normal ⟨136, gl0, [(0, true, a), (1, true, .d (.int .i64 most)), (6, true, .d (.int .i64 n)), (7, true, .d (.int .i64 d)), (8, true, b), (9, true, .ptr 550 v 0)], [⟨550, v, bxS x⟩]⟩)) :
 Q (denK ctx 80 (ssC [1, 1, 0, 1, 0, 0, 1, 0, 0, 1, 1, 1, 0]) ⟨136, gl0, [(0, true, a), (1, true, .d (.int .i64 most)), (6, true, .d (.int .i64 n)), (7, true, .d (.int .i64 d)), (8, true, b), (9, true, .ptr 550 v 0), (42, true, c1), (43, true, c2), (44, true, c3), (45, true, c4)], [⟨550, v, bxS x⟩]⟩ k) := by
 simp only [bxS] at hQ
 simp [ssC, Tryz.f80]
 apply hQ
theorem ssL_loop (hl : (smlb x).length < 100000000) (d : Int)
 (hQ : ∀ (n : Int) (c1 c2 : AV), Q (k (.exit 4) ⟨136, gl0, [(0, true, a), (1, true, .d (.int .i64 most)), (6, true, .d (.int .i64 n)), (7, true, .d (.int .i64 d)), (8, true, b), (9, true, .ptr 550 v 0), (14, true, c1), (88, true, c2)], [⟨550, v, bxS x⟩]⟩)) : ∀ (rest pre : List (List Int)) (n : Int), smlb x = pre ++ rest →
 Q (denK ctx 80 (.loop (ssC [1, 1, 0, 1, 0, 0, 1, 0, 0, 1, 1, 1, 1, 0, 1, 0, 0])) ⟨136, gl0, [(0, true, a), (1, true, .d (.int .i64 most)), (6, true, .d (.int .i64 n)), (7, true, .d (.int .i64 d)), (8, true, b), (9, true, .ptr 550 v 0), (14, true, .d (.int .i64 pre.length))], [⟨550, v, bxS x⟩]⟩ k)
 | [], pre, n, hd => by
  have hl0 : pre.length = (smlb x).length := by rw [hd]; simp
  simp only [bxS] at hQ
  rw [hl0, denK_loop]
  simp [ssC, Tryz.f80, hQ]
 | c :: rest, pre, n, hd => by
  have hb1 : pre.length < (smlb x).length := by rw [hd]; simp
  have hb2 : (smlb x)[pre.length] = c := by simp [hd]
  have ih := fun n => ssL_loop hl d hQ rest (pre ++ [c]) n (by simp [hd])
  have w1 : IntKind.i64.wrap ((pre.length : Int) + 1) = (pre.length : Int) + 1 := wrap_id (by unfold I64; omega)
  simp only [bxS] at hQ
  rw [denK_loop]
  by_cases hn : n ≤ most
  · simp [ssC, Tryz.f80] at ih ⊢
    simp [hb1, hb2, hn, lbD, w1]
    apply ih
  · simp [ssC, Tryz.f80]
    simp [hb1, hn, hQ]
theorem ssK_loop (hl : (smb x).length < 100000000) (hK : ∀ c ∈ smb x, SS c)
 (hQ : ∀ (n d : Int) (c1 c2 : AV), Q (k (.exit 6) ⟨136, gl0, [(0, true, a), (1, true, .d (.int .i64 most)), (6, true, .d (.int .i64 n)), (7, true, .d (.int .i64 d)), (8, true, b), (9, true, .ptr 550 v 0), (15, true, c1), (111, true, c2)], [⟨550, v, bxS x⟩]⟩)) : ∀ (rest pre : List (List Sm)) (n d : Int), smb x = pre ++ rest →
 Q (denK ctx 80 (.loop (ssC [1, 1, 0, 1, 0, 0, 1, 0, 0, 1, 1, 1, 1, 1, 1, 0, 0])) ⟨136, gl0, [(0, true, a), (1, true, .d (.int .i64 most)), (6, true, .d (.int .i64 n)), (7, true, .d (.int .i64 d)), (8, true, b), (9, true, .ptr 550 v 0), (15, true, .d (.int .i64 pre.length))], [⟨550, v, bxS x⟩]⟩ k)
 | [], pre, n, d, hd => by
  have hl0 : pre.length = (smb x).length := by rw [hd]; simp
  simp only [bxS] at hQ
  rw [hl0, denK_loop]
  simp [ssC, Tryz.f80, hQ]
 | c :: rest, pre, n, d, hd => by
  have hb1 : pre.length < (smb x).length := by rw [hd]; simp
  have hb2 : (smb x)[pre.length] = c := by simp [hd]
  have ih := fun n d => ssK_loop hl hK hQ rest (pre ++ [c]) n d (by simp [hd])
  obtain ⟨m, d', hm⟩ := hK c (by rw [hd]; simp) (IntKind.i64.wrap (most - n))
  have w1 : IntKind.i64.wrap ((pre.length : Int) + 1) = (pre.length : Int) + 1 := wrap_id (by unfold I64; omega)
  simp only [bxS] at hQ
  rw [denK_loop]
  by_cases hn : n ≤ most
  · simp [ssC, Tryz.f80] at ih ⊢
    simp [hb1, hb2, hn, bkD, hm, w1]
    apply ih
  · simp [ssC, Tryz.f80]
    simp [hb1, hn, hQ]
theorem ssBody (hx : lnS x) (hK : ∀ c ∈ smb x, SS c) (n d : Int)
 (hQ : ∀ (n d : Int) (c1 c2 : AV), Q (k .normal ⟨136, gl0, [(0, true, a), (1, true, .d (.int .i64 most)), (6, true, .d (.int .i64 n)), (7, true, .d (.int .i64 d)), (8, true, b), (9, true, .ptr 550 v 0), (15, true, c1), (111, true, c2)], [⟨550, v, bxS x⟩]⟩)) :
 Q (denK ctx 80 (ssC [1, 1, 0, 1, 0, 0, 1, 0, 0, 1, 1]) ⟨136, gl0, [(0, true, a), (1, true, .d (.int .i64 most)), (6, true, .d (.int .i64 n)), (7, true, .d (.int .i64 d)), (8, true, b), (9, true, .ptr 550 v 0)], [⟨550, v, bxS x⟩]⟩ k) := by
 obtain ⟨ht, hv, ⟨hc, hcx⟩, ⟨hlb, hlbl⟩, hf, hbl⟩ := hx
 have e1 : ssC [1, 1, 0, 1, 0, 0, 1, 0, 0, 1, 1] = Code.seq (ssC [1, 1, 0, 1, 0, 0, 1, 0, 0, 1, 1, 0]) (ssC [1, 1, 0, 1, 0, 0, 1, 0, 0, 1, 1, 1]) := rfl
 have e2 : ssC [1, 1, 0, 1, 0, 0, 1, 0, 0, 1, 1, 1] = Code.seq (ssC [1, 1, 0, 1, 0, 0, 1, 0, 0, 1, 1, 1, 0]) (ssC [1, 1, 0, 1, 0, 0, 1, 0, 0, 1, 1, 1, 1]) := rfl
 rw [e1, denK_seq]
 apply ssA (sz_all (l := [smt x, smv x]) (by simp) ⟨ht, hv, trivial⟩) (sz_all hc hcx)
 intro n d c1 c2 c3 c4
 rw [seqK_n, e2, denK_seq]
 apply ssB
 intro n
 rw [seqK_n]
 have hL := fun k Q hQ => ssL_loop (a := a) (b := b) (v := v) (most := most) (k := k) (Q := Q) hlb d hQ (smlb x) [] n rfl
 simp [ssC, Tryz.f80] at hL ⊢
 apply hL
 intro n c1 c2
 have hB := fun k Q hQ => ssK_loop (a := a) (b := b) (v := v) (most := most) (k := k) (Q := Q) hbl hK hQ (smb x) [] n d rfl
 simp [ssC, Tryz.f80] at hB ⊢
 apply hB
 intro n d c1 c2
 simp only [bxS] at hQ
 simp [hQ]
end
theorem ss_loop (l : List Sm) (hln : l.length < 100000000) (hS : ∀ x ∈ l, lnS x) (hK : ∀ x ∈ l, ∀ c ∈ smb x, SS c) (most : Int) (k : Kt) (Q : Ans → Prop)
 (h2 : ∀ (n d : Int) (b c : AV) v X, Q (k (.exit 0) ⟨136, gl0, [(0, true, .d (.list (l.map smD))), (1, true, .d (.int .i64 most)), (6, true, .d (.int .i64 n)), (7, true, .d (.int .i64 d)), (8, true, b), (26, true, c)], [⟨550, v, X⟩]⟩)) : ∀ (rest pre : List Sm) (n d : Int) (v : Nat) (X : Cont), l = pre ++ rest →
 Q (denK ctx 80 (.loop (ssC [1, 1, 0, 1, 0, 0])) ⟨136, gl0, [(0, true, .d (.list (l.map smD))), (1, true, .d (.int .i64 most)), (6, true, .d (.int .i64 n)), (7, true, .d (.int .i64 d)), (8, true, .d (.int .i64 pre.length))], [⟨550, v, X⟩]⟩ k)
 | [], pre, n, d, v, X, hd => by
  have hl0 : pre.length = l.length := by rw [hd]; simp
  rw [hl0, denK_loop]
  simp [ssC, Tryz.f80, h2]
 | x :: rest, pre, n, d, v, X, hd => by
  have hb1 : pre.length < l.length := by rw [hd]; simp
  have hb2 : l[pre.length] = x := by simp [hd]
  have hm : x ∈ l := by rw [hd]; simp
  have hb := fun (v : Nat) (a b : AV) (k : Kt) (Q : Ans → Prop) (n d : Int) => ssBody (v := v) (a := a) (b := b) (most := most) (k := k) (Q := Q) (hS x hm) (hK x hm) n d
  have ih := fun n d v X => ss_loop l hln hS hK most k Q h2 rest (pre ++ [x]) n d v X (by simp [hd])
  have w1 : IntKind.i64.wrap ((pre.length : Int) + 1) = (pre.length : Int) + 1 := wrap_id (by unfold I64; omega)
  rw [denK_loop]
  by_cases hn : n ≤ most
  · simp [ssC, Tryz.f80] at hb ih ⊢
    simp [hb1, hb2, hn, smD_A]
    apply hb
    intro n d c1 c2
    simp [w1, ih]
  · simp [ssC, Tryz.f80]
    simp [hb1, hn, h2]
theorem ss_r {l : List Sm} (hln : l.length < 100000000) (hS : ∀ x ∈ l, lnS x) (hK : ∀ x ∈ l, ∀ c ∈ smb x, SS c) : SS l := by
 intro most
 have h := fun k Q h2 v X => ss_loop l hln hS hK most k Q h2 l [] 0 0 v X rfl
 rw [run80 (by simp)]
 simp [ssC, Tryz.f80] at h ⊢
 apply h _ (fun A => ∃ n d : Int, A = some (.ret (.tup [.d (.int .i64 n), .d (.int .i64 d)]), []))
 intro n d b c v X
 simp
mutual
theorem ss_M : ∀ x : Sm, lnM x → lnS x ∧ ∀ c ∈ smb x, SS c
 | .mk op name to val conds labels fields blocks line, h => by
  have h := (lnM_A _).1 h
  exact ⟨h.1, ss_Bs blocks h.2⟩
theorem ss_Ms : ∀ l : List Sm, lnMs l → ∀ x ∈ l, lnS x ∧ ∀ c ∈ smb x, SS c
 | [], _, x, hx => by simp at hx
 | y :: r, h, x, hx => by
  simp only [lnMs] at h
  have h1 := ss_M y h.1
  have h2 := ss_Ms r h.2
  rcases List.mem_cons.1 hx with e | hx
  · rw [e]; exact h1
  · exact h2 x hx
theorem ss_Bs : ∀ l : List (List Sm), lnBs l → ∀ c ∈ l, SS c
 | [], _, c, hc => by simp at hc
 | b :: r, h, c, hc => by
  simp only [lnBs] at h
  have h1 := ss_Ms b h.1.2
  have h2 := ss_Bs r h.2
  rcases List.mem_cons.1 hc with e | hc
  · rw [e]; exact ss_r h.1.1 (fun x hx => (h1 x hx).1) (fun x hx => (h1 x hx).2)
  · exact h2 c hc
end
theorem ss_all {l : List Sm} (hln : l.length < 100000000) (h : lnMs l) : SS l :=
 ss_r hln (fun x hx => (ss_Ms l h x hx).1) (fun x hx => (ss_Ms l h x hx).2)
theorem size_r {p : Pg} (hb : p.body.length < 100000000) (hl : lnMs p.body) (most : Int) : ∃ n d : Int, callT ctx 41 [.d (.agg [.str p.name, .list (p.vars.map vrD), .list (p.body.map smD)]), .d (.int .i64 most)] [] = some (.ret (.tup [.d (.int .i64 n), .d (.int .i64 d)]), []) := by
 obtain ⟨n, d, h⟩ := ss_all hb hl most
 rw [run41 (by simp)]
 simp [Tryz.f41, h]
theorem short_r {p : Pg} (hb : p.body.length < 100000000) (hl : lnMs p.body) : ∃ B : Bool, callT ctx 16 [.d (.agg [.str p.name, .list (p.vars.map vrD), .list (p.body.map smD)])] [] = some (.ret (.d (.bool B)), []) := by
 obtain ⟨n, d, h⟩ := size_r hb hl 2000
 rw [run16 (by simp)]
 simp [Tryz.f16, h]
end Go.Am
end
section
namespace Go.Am
open Go Go.ChangeShapes Go.WideShapes Go.RowKit
def tiles (P : Program) (ok : TypeId → Bool) : List Field → Nat → Nat → Bool
 | [], o, tot => o == tot
 | f :: r, o, tot => f.offset == o && ok f.type && tiles P ok r (o + P.cellsOf f.type) tot
def typed (P : Program) : Nat → TypeId → D → Prop
 | 0, _, _ => False
 | n + 1, t, d => match P.underlying t with
  | some .bool => ∃ b, d = .bool b
  | some (.int k) => ∃ z, d = .int k z ∧ (Lit.int k z).wf = true
  | some .string => ∃ s, d = .str s ∧ s.length ≤ maxLen
  | some (.slice e) => ∃ xs, d = .list xs ∧ xs.length ≤ maxLen ∧ ∀ x ∈ xs, typed P n e x
  | some (.struct fs) => ∃ ys : List D, d = .agg (ys.flatMap D.cells) ∧ ys.length = fs.size ∧ ∀ (i : Nat) (f : Field) (y : D), fs[i]? = some f → ys[i]? = some y → typed P n f.type y
  | _ => False
def Reads (w : World) (F : Nat → Prop) (d : D) (cs : List Value) : Prop :=
 d.cells.length = cs.length ∧ (∀ u ∈ cs, cell1 u = true) ∧ ∀ (i : Nat) c u, d.cells[i]? = some c → cs[i]? = some u → DRel w F c u ∧ c.flat = true
theorem Reads.one {w F d v} (h : DRel w F d v) (hf : d.flat = true) (hc : d.cells = [d]) : Reads w F d [v] := by
 refine ⟨by rw [hc]; rfl, fun u hu => ?_, fun i c u h1 h2 => ?_⟩
 · simp at hu; subst hu; exact h.one hf
 · rw [hc] at h1
   cases i with
   | zero => simp at h1 h2; subst h1; subst h2; exact ⟨h, hf⟩
   | succ i => simp at h1
def shaped (d : D) (cs : List Value) : Value :=
 match d with
 | .agg _ => .agg cs.toArray
 | _ => cs.headD undef
theorem Reads.rel {w F d cs} (h : Reads w F d cs) : DRel w F d (shaped d cs) := by
 obtain ⟨h1, h2, h3⟩ := h
 have key : d.flat = true → d.cells = [d] → DRel w F d (cs.headD undef) := by
  intro hf hc
  rw [hc] at h1 h3
  match cs, h1 with
  | [u], _ => exact (h3 0 d u rfl rfl).1
 cases d with
 | agg ds => exact DRel.ofCells h1 h2 (fun i c v hc hv => (h3 i c v hc hv).1)
 | _ => exact key rfl rfl
theorem Reads.shaped_cells {w F d cs} (h : Reads w F d cs) : (shaped d cs).cells.toList = cs := by
 obtain ⟨h1, h2, h3⟩ := h
 have key : d.cells = [d] → (cs.headD undef).cells.toList = cs := by
  intro hc
  rw [hc] at h1
  match cs, h1, h2 with
  | [u], _, h2 => simp only [List.headD]; rw [cells_of_cell1 (h2 u (by simp))]
 cases d with
 | agg ds => simp [shaped, Value.cells]
 | _ => exact key rfl
theorem cells?_get {w : World} {base : Nat} {a : Addr} {n : Nat} {cs : List Value} (h : w.cells? base a n = some cs) : cs.length = n ∧ ∀ j, j < n → w.cell? (a.add j) = cs[j]? := by
 unfold World.cells? at h
 split at h
 · exact ⟨by simpa using mapM_some_length h, fun j hj => mapM_some_get h j j (by simp [hj])⟩
 · cases h
theorem add_add {b off n j : Nat} : (Addr.add (Addr.add ⟨b, off, none⟩ n) j) = ⟨b, off + n + j, none⟩ := by
 unfold Addr.add
 split <;> split <;> simp_all
theorem cell?_lt {w : World} {a : Addr} {c : Value} (h : w.cell? a = some c) : a.block < w.heap.size ∧ a.spot = none := by
 unfold World.cell? at h
 split at h
 · rename_i hh
   refine ⟨(Array.getElem?_eq_some_iff.1 hh).1, ?_⟩
   split at h
   · cases h
   · rename_i hs; simpa using hs
 · cases h
section
variable {H : Type} {enc : TypeId × Value → H} {P : Program} {w : World} {base : Nat} {sp : Nat → Bool} {held : Bool}
end
section
variable {H : Type} {enc : TypeId × Value → H} {P : Program} {w : World} {base : Nat} {sp : Nat → Bool} {held : Bool}
theorem trodAll_stays (hl : laidOutB P = true) {W W' : World} (hb : Below W.heap.size W W') : ∀ {ts : List TypeId} {vs : List Value} {ds : List (DataW H)} {ps : List MemPlace}, DataW.TrodAll enc P W 0 (fun _ => true) true ts vs ds ps →
 (∀ t ∈ ts, P.readableRec t = true ∧ t < P.types.size) → (∀ x ∈ ps, x.block < W.heap.size) → DataW.TrodAll enc P W' 0 (fun b => decide (b < W.heap.size)) true ts vs ds ps
 | [], [], [], _, h, _, _ => h
 | t :: ts, v :: vs, d :: ds, ps, h, hp, hlt => by
  obtain ⟨p, q, h1, h2, rfl⟩ := h
  exact ⟨p, q, Below.trod hl (hp t (by simp)).1 (hp t (by simp)).2 h1 hb (fun x hx => hlt x (by simp [hx])), trodAll_stays hl hb h2 (fun t ht => hp t (by simp [ht])) (fun x hx => hlt x (by simp [hx])), rfl⟩
 | [], _ :: _, _, _, h, _, _ => by cases h
 | [], [], _ :: _, _, h, _, _ => by cases h
 | _ :: _, [], _, _, h, _, _ => by cases h
 | _ :: _, _ :: _, [], _, h, _, _ => by cases h
end
section
variable {P : Program} {n : Nat} {t : TypeId} {d : D}
def fieldsT (P : Program) (n : Nat) : List Field → List D → Prop
 | [], ds => ds = []
 | f :: r, ds => ∃ y ds', typed P n f.type y ∧ fieldsT P n r ds' ∧ ds = y.cells ++ ds'
theorem fieldsT_of : ∀ {fs : List Field} {ys : List D}, ys.length = fs.length → (∀ (i : Nat) (f : Field) (y : D), fs[i]? = some f → ys[i]? = some y → typed P n f.type y) → fieldsT P n fs (ys.flatMap D.cells)
 | [], [], _, _ => rfl
 | f :: fs, y :: ys, h, hf => ⟨y, ys.flatMap D.cells, hf 0 f y rfl rfl, fieldsT_of (by simpa using h) (fun i f y h1 h2 => hf (i + 1) f y (by simpa using h1) (by simpa using h2)), by simp⟩
theorem typed_int {k : IntKind} (ht : P.underlying t = some (.int k)) (h : typed P (n + 1) t d) : ∃ z, d = .int k z ∧ (Lit.int k z).wf = true := by simpa only [typed, ht] using h
theorem typed_bool (ht : P.underlying t = some .bool) (h : typed P (n + 1) t d) : ∃ b, d = .bool b := by simpa only [typed, ht] using h
theorem typed_string (ht : P.underlying t = some .string) (h : typed P (n + 1) t d) : ∃ s, d = .str s ∧ s.length ≤ maxLen := by simpa only [typed, ht] using h
theorem typed_slice {e : TypeId} (ht : P.underlying t = some (.slice e)) (h : typed P (n + 1) t d) : ∃ xs, d = .list xs ∧ xs.length ≤ maxLen ∧ ∀ x ∈ xs, typed P n e x := by simpa only [typed, ht] using h
theorem typed_struct {fs : Array Field} (ht : P.underlying t = some (.struct fs)) (h : typed P (n + 1) t d) : ∃ ds, d = .agg ds ∧ fieldsT P n fs.toList ds := by
 simp only [typed, ht] at h
 obtain ⟨ys, rfl, h1, h2⟩ := h
 exact ⟨_, rfl, fieldsT_of (by simpa using h1) (fun i f y h3 h4 => h2 i f y (by simpa using h3) h4)⟩
end
def ctxB (X : Ctx) : Bool :=
 (List.range X.P.funcs.size).all (fun g => match X.P.funcs[g]? with | some fn => fn.name != "runtime.NumGoroutine" && (match fn.body with | some c => codeDst X g fn.ntmps c | none => true) | none => true) && X.P.follows .mixedOrders && X.ov.isNone
def OrcOk (X : Ctx) (g : FuncId) (h : List AV → Option AV) : Prop := callable X.P g = true ∧ ∀ (avs : List AV) (a : AV), h avs = some a → ∀ (φ : Phi) (F : Nat → Prop) (w : World) (vs : Array Value), GlobRel w F X.gl → (∀ b, F b → b < w.heap.size) → avs.length = vs.size →
 (∀ (i : Nat) x v, avs[i]? = some x → vs[i]? = some v → AVRel φ w F x v) → Calls X.P g vs w fun e w' => ∃ v, e = .returned v ∧ Below w.heap.size w w' ∧ AVRel φ w' F a v
theorem OrcOk.lift {X : Ctx} {g : FuncId} {h : List D → Option D} (hh : callable X.P g = true ∧ ∀ (ds : List D) (d : D), h ds = some d → ∀ (F : Nat → Prop) (w : World) (vs : Array Value), GlobRel w F X.gl → (∀ b, F b → b < w.heap.size) → ds.length = vs.size →
 (∀ (i : Nat) x v, ds[i]? = some x → vs[i]? = some v → DRel w F x v) → Calls X.P g vs w fun e w' => ∃ v, e = .returned v ∧ Below w.heap.size w w' ∧ DRel w' F d v) : OrcOk X g (liftO h) := by
 refine ⟨hh.1, fun avs a ha φ F w vs hgl hFb hl hr => ?_⟩
 unfold liftO at ha
 cases hds : toDs avs with
 | none => rw [hds] at ha; cases ha
 | some ds =>
  rw [hds] at ha
  obtain ⟨d, hd, rfl⟩ := Option.map_eq_some_iff.1 ha
  have he := toDs_eq hds
  subst he
  refine (hh.2 ds d hd F w vs hgl hFb (by simpa using hl) (fun i x v hx hv => ?_)).mono ?_
  · have := hr i (.d x) v (by simp [hx]) hv
    cases this with | d _ _ h => exact h
  · rintro e w' ⟨v, rfl, hb, hv⟩
    exact ⟨v, rfl, hb, .d _ _ hv⟩
theorem CtxOk.of {X : Ctx} (h : ctxB X = true) (ho : ∀ g h, X.orc g = some h → OrcOk X g h) : CtxOk X := by
 simp only [ctxB, Bool.and_eq_true, List.all_eq_true, List.mem_range] at h
 have key : ∀ (g : FuncId) (fn : Func), X.P.funcs[g]? = some fn → fn.name ≠ "runtime.NumGoroutine" ∧ (match fn.body with | some c => codeDst X g fn.ntmps c | none => true) = true := by
  intro g fn hg
  have h1 := h.1.1 g (Array.getElem?_eq_some_iff.1 hg).1
  rw [hg] at h1
  simpa using h1
 refine ⟨by simpa using h.2, fun g fn hg => (key g fn hg).1, fun g fn c hg hb => ?_, h.1.2, ho⟩
 have := (key g fn hg).2
 rw [hb] at this
 exact this
theorem list_map_of {α : Type} {f : α → D} : ∀ {xs : List D}, (∀ x ∈ xs, ∃ r, x = f r) → ∃ rs : List α, xs = rs.map f
 | [], _ => ⟨[], rfl⟩
 | x :: xs, h => by
  obtain ⟨r, rfl⟩ := h x (by simp)
  obtain ⟨rs, rfl⟩ := list_map_of (xs := xs) (fun y hy => h y (by simp [hy]))
  exact ⟨r :: rs, rfl⟩
def fr0 : Fr := ⟨fun _ => False, []⟩
theorem law_calls {X : Ctx} (hX : CtxOk X) {f : FuncId} {b : Bool} {xs : List D} (hc : callT X f (xs.map .d) [] = some (.ret (.d (.bool b)), [])) {W : World} {args : Array Value} (hl : xs.length = args.size)
 (hr : ∀ (i : Nat) x v, xs[i]? = some x → args[i]? = some v → DRel W (fun _ => False) x v) (hg : GlobRel W (fun _ => False) X.gl) :
 Calls X.P f args W fun e W' => e = .returned (.bool b) ∧ Below W.heap.size W W' := by
 have h := (callT_ok hX f _ _ _ _ hc).2
 have hF : ∀ b, Fo fr0 (fun _ => none) (inM 0 []) b → False := by
  intro b hb
  rcases hb with hb | ⟨e, he, _⟩
  · exact hb
  · simp [inM] at he
 refine (h (fun _ => none) fr0 W args ⟨by simp [inM], fun k L hL => by simp at hL, fun e he => by simp [inM] at he, fun e he => by simp [inM] at he, fun b ⟨e, he, _⟩ => by simp [inM] at he, fun b hb => hb.elim⟩
  (hg.mono (fun _ _ _ => rfl) (Nat.le_refl _) (fun b _ hb => hF b hb)) (by simpa using hl) (fun i x v hx hv => ?_)).mono ?_
 · simp only [List.getElem?_map, Option.map_eq_some_iff] at hx
   obtain ⟨d, hd, rfl⟩ := hx
   exact .d d v ((hr i d v hd hv).mono (fun _ _ _ => rfl) (Nat.le_refl _) (fun b _ hb => hF b hb))
 · rintro e W' ⟨φ', m', out, ⟨rfl, rfl⟩, hm, hk, ho⟩
   refine ⟨?_, hk.os, hk.tape, hk.output, hk.size, fun k hk' => hk.old k hk' (fun ⟨e, he, _⟩ => by simp [inM] at he)⟩
   cases e with
   | returned v =>
    simp only [OutRel] at ho
    cases ho with
    | d x v h => cases h; rfl
   | _ => exact ho.elim
section
variable {H : Type} {enc : TypeId × Value → H}
end
def plainR (P : Program) (L : List TypeId) : Bool := L.all fun t => match P.underlying t with
 | some .bool | some (.int _) | some .string => P.cellsOf t == 1
 | some (.slice e) => P.cellsOf t == 1 && L.contains e && decide (1 ≤ P.cellsOf e)
 | some (.struct fs) => tiles P (fun t => L.contains t) fs.toList 0 (P.cellsOf t)
 | _ => false
theorem plainR_at {P : Program} {L : List TypeId} {t : TypeId} (h : plainR P L = true) (ht : L.contains t = true) : (match P.underlying t with
 | some .bool | some (.int _) | some .string => P.cellsOf t == 1
 | some (.slice e) => P.cellsOf t == 1 && L.contains e && decide (1 ≤ P.cellsOf e)
 | some (.struct fs) => tiles P (fun t => L.contains t) fs.toList 0 (P.cellsOf t)
 | _ => false) = true := List.all_eq_true.1 h t (by simpa using ht)
section
variable {H : Type} {enc : TypeId × Value → H} {P : Program} {w : World} {base : Nat} {sp : Nat → Bool} {held : Bool}
end
section
variable {H : Type} {enc : TypeId × Value → H}
end
mutual
def wtD : D → Nat
 | .str s => s.length + 1
 | .list xs => wtDs xs + 1
 | .agg cs => wtDs cs + 1
 | _ => 1
def wtDs : List D → Nat
 | [] => 0
 | x :: r => wtD x + wtDs r
end
mutual
def bulkW {H : Type} : DataW H → Nat
 | .lit (.string bytes) => bytes.length + 1
 | .slice elems _ => bulkWs elems + 1
 | .agg parts => bulkWs parts + 1
 | _ => 1
def bulkWs {H : Type} : List (DataW H) → Nat
 | [] => 0
 | d :: r => bulkW d + bulkWs r
end
theorem wtDs_app : ∀ l r : List D, wtDs (l ++ r) = wtDs l + wtDs r
 | [], r => by simp [wtDs]
 | x :: l, r => by simp [wtDs, wtDs_app l r, Nat.add_assoc]
theorem wtDs_cells (x : D) : wtDs x.cells ≤ wtD x := by
 cases x <;> simp [D.cells, wtDs, wtD]
theorem wt_pos (x : D) : 1 ≤ wtD x := by cases x <;> simp [wtD]
theorem wtDs_len : ∀ l : List D, l.length ≤ wtDs l
 | [] => by simp
 | x :: r => by have := wtDs_len r; have := wt_pos x; simp only [wtDs, List.length_cons]; omega
theorem wtDs_mem : ∀ {l : List D} {x : D}, x ∈ l → wtD x ≤ wtDs l
 | y :: r, x, h => by
  rcases List.mem_cons.1 h with rfl | h
  · simp only [wtDs]; omega
  · have := wtDs_mem h; simp only [wtDs]; omega
theorem wtDs_le {H : Type} : ∀ (l : List D) (ds : List (DataW H)), l.length = ds.length → (∀ (i : Nat) x d, l[i]? = some x → ds[i]? = some d → wtD x ≤ bulkW d) → wtDs l ≤ bulkWs ds
 | [], [], _, _ => Nat.le_refl _
 | x :: l, d :: ds, h, hi => by
  have h1 := hi 0 x d rfl rfl
  have h2 := wtDs_le l ds (by simpa using h) (fun i y e hy he => hi (i + 1) y e (by simpa using hy) (by simpa using he))
  simp only [wtDs, bulkWs]; omega
 | [], _ :: _, h, _ => by simp at h
 | _ :: _, [], h, _ => by simp at h
theorem reads_fieldsW {H : Type} {P : Program} {w : World} {F : Nat → Prop} {n : Nat} {cs : List Value} {ok : TypeId → Bool} : ∀ (fs : List Field) (ws : List (DataW H)) (o : Nat), tiles P ok fs o cs.length = true → ws.length = fs.length →
 (∀ (i : Nat) f e, fs[i]? = some f → ws[i]? = some e → ok f.type = true → ∃ d, typed P n f.type d ∧ Reads w F d ((cs.drop f.offset).take (P.cellsOf f.type)) ∧ d.cells.length = P.cellsOf f.type ∧ wtD d ≤ bulkW e) →
 ∃ ys : List D, ys.length = fs.length ∧ (∀ (i : Nat) (f : Field) (y : D), fs[i]? = some f → ys[i]? = some y → typed P n f.type y) ∧ o ≤ cs.length ∧ Reads w F (.agg (ys.flatMap D.cells)) (cs.drop o) ∧ wtDs (ys.flatMap D.cells) ≤ bulkWs ws
 | [], [], o, ht, _, _ => by
  simp only [tiles, beq_iff_eq] at ht
  subst ht
  exact ⟨[], rfl, fun i f y hf => by simp at hf, Nat.le_refl _, ⟨by simp [D.cells], by simp, fun i c u h1 => by simp [D.cells] at h1⟩, by simp [wtDs, bulkWs]⟩
 | f :: r, e :: ws, o, ht, hw, hf => by
  simp only [tiles, Bool.and_eq_true, beq_iff_eq] at ht
  obtain ⟨⟨rfl, hok⟩, hr⟩ := ht
  obtain ⟨ys, h1, h2, h3, h4, h5⟩ := reads_fieldsW r ws _ hr (by simpa using hw) (fun i f' e' hi he => hf (i + 1) f' e' (by simpa using hi) (by simpa using he))
  obtain ⟨d, hd, hR, hl, hwt⟩ := hf 0 f e rfl rfl hok
  refine ⟨d :: ys, by simp [h1], fun i f' y hi hy => ?_, by omega, ?_, ?_⟩
  · cases i with
    | zero => simp at hi hy; subst hi; subst hy; exact hd
    | succ i => simp at hi hy; exact h2 i f' y hi hy
  · have hsplit : cs.drop f.offset = (cs.drop f.offset).take (P.cellsOf f.type) ++ cs.drop (f.offset + P.cellsOf f.type) := by
     rw [← List.drop_drop, List.take_append_drop]
    obtain ⟨a1, a2, a3⟩ := hR
    obtain ⟨b1, b2, b3⟩ := h4
    have hcells : (D.agg ((d :: ys).flatMap D.cells)).cells = d.cells ++ (D.agg (ys.flatMap D.cells)).cells := by simp [D.cells]
    rw [hsplit]
    unfold Reads
    rw [hcells]
    refine ⟨by simp only [List.length_append, a1, b1], fun u hu => ?_, fun i c u hc hu => ?_⟩
    · rcases List.mem_append.1 hu with hu | hu
      · exact a2 u hu
      · exact b2 u hu
    · by_cases hi : i < d.cells.length
      · rw [List.getElem?_append_left hi] at hc
        rw [List.getElem?_append_left (by omega)] at hu
        exact a3 i c u hc hu
      · rw [List.getElem?_append_right (by omega)] at hc
        rw [List.getElem?_append_right (by omega)] at hu
        rw [← a1] at hu
        exact b3 _ c u hc hu
  · have hc := wtDs_cells d
    simp only [List.flatMap_cons, wtDs_app, bulkWs]
    omega
 | [], _ :: _, _, _, h, _ => by simp at h
 | _ :: _, [], _, _, h, _ => by simp at h
section
variable {H : Type} {enc : TypeId × Value → H} {P : Program} {w : World} {base : Nat} {sp : Nat → Bool} {held : Bool}
theorem read_dataW {L : List TypeId} (hL : plainR P L = true) : ∀ (m : Nat) (t : TypeId) (cs : List Value) (x : DataW H × List MemPlace), L.contains t = true → DataW.trod enc P w base sp held m t cs = some x →
 ∃ d, typed P (m + 1) t d ∧ Reads w (fun _ => False) d cs ∧ d.cells.length = P.cellsOf t ∧ wtD d ≤ bulkW x.1
 | m, t, cs, x, hp, hx => by
  have hp := plainR_at hL hp
  simp only [typed]
  cases ht : P.underlying t with
  | none => rw [ht] at hp; cases hp
  | some u =>
   rw [ht] at hp
   cases u with
   | bool =>
    obtain ⟨b, rfl, rfl⟩ := DataW.trod_bool ht hx
    exact ⟨.bool b, ⟨b, rfl⟩, Reads.one (.bool b) rfl rfl, by simp at hp; simp [D.cells, hp], by simp [wtD, bulkW]⟩
   | int k =>
    obtain ⟨z, rfl, rfl, hw⟩ := DataW.trod_int ht hx
    exact ⟨.int k z, ⟨z, rfl, hw⟩, Reads.one (.int k z) rfl rfl, by simp at hp; simp [D.cells, hp], by simp [wtD, bulkW]⟩
   | string =>
    obtain ⟨s, rfl, rfl, hw⟩ := DataW.trod_string ht hx
    exact ⟨.str s.data.toList, ⟨_, rfl, by simpa using hw⟩, Reads.one (.str s _ rfl) rfl rfl, by simp at hp; simp [D.cells, hp], by simp [wtD, bulkW]⟩
   | slice e =>
    simp only [Bool.and_eq_true, beq_iff_eq, decide_eq_true_eq] at hp
    obtain ⟨⟨h1, h2⟩, h3⟩ := hp
    rcases DataW.trod_slice ht hx with ⟨rfl, rfl⟩ | ⟨a, len, cap, elems, rest, m', rfl, rfl, rfl, hb, hlc, hcm, hel, hget, _⟩
    · exact ⟨.list [], ⟨[], rfl, by simp, by simp⟩, Reads.one (.nil none 0 (fun _ => rfl)) rfl rfl, by simp [D.cells, h1], by simp [wtD, wtDs, bulkW]⟩
    · have hq : ∀ i, ∃ p : D × Value, i < len → typed P (m' + 1) e p.1 ∧ DRel w (fun _ => False) p.1 p.2 ∧ p.1.size = P.cellsOf e ∧ a.block < w.heap.size ∧ a.spot = none ∧
       (∀ j c, p.2.cells[j]? = some c → w.cell? ⟨a.block, a.off + i * P.cellsOf e + j, none⟩ = some c) ∧ ∀ q, elems[i]? = some q → wtD p.1 ≤ bulkW q.1 := by
       intro i
       by_cases hi : i < len
       · have h4 := hget i hi
         have h5 : ∃ y, elems[i]? = some y := ⟨elems[i]'(by omega), by simp [show i < elems.length by omega]⟩
         obtain ⟨y, hy⟩ := h5
         rw [hy] at h4
         simp only [Option.bind_eq_some_iff] at h4
         obtain ⟨cs', hcs, hy'⟩ := h4
         obtain ⟨d, hd, hR, hl, hwt⟩ := read_dataW hL m' e cs' y h2 hy'
         obtain ⟨g1, g2⟩ := cells?_get hcs
         have g3 : a.block < w.heap.size ∧ a.spot = none := by
          have h0 : ∃ i0, i0 < len ∧ i0 = 0 := ⟨0, by omega, rfl⟩
          have h40 := hget 0 (by omega)
          have h50 : ∃ y, elems[0]? = some y := ⟨elems[0]'(by omega), by simp [show 0 < elems.length by omega]⟩
          obtain ⟨y0, hy0⟩ := h50
          rw [hy0] at h40
          simp only [Option.bind_eq_some_iff] at h40
          obtain ⟨cs0, hcs0, _⟩ := h40
          obtain ⟨g01, g02⟩ := cells?_get hcs0
          have h6 := g02 0 (by omega)
          have h7 : ∃ c, cs0[0]? = some c := ⟨cs0[0]'(by omega), by simp [show 0 < cs0.length by omega]⟩
          obtain ⟨c, hc⟩ := h7
          rw [hc] at h6
          have h8 := cell?_lt h6
          simpa [Addr.add] using h8
         refine ⟨⟨d, shaped d cs'⟩, fun _ => ⟨hd, hR.rel, by rw [← D.cells_length]; exact hl, g3.1, g3.2, fun j c hj => ?_, fun q hq => by rw [hy] at hq; cases hq; exact hwt⟩⟩
         have h6 := hR.shaped_cells
         have h7 : cs'[j]? = some c := by rw [← h6]; simpa using hj
         have hjl : j < P.cellsOf e := by
          have := (List.getElem?_eq_some_iff.1 h7).1
          omega
         have h8 := g2 j hjl
         obtain ⟨ab, ao, ae⟩ := a
         obtain rfl : ae = none := g3.2
         rw [add_add] at h8
         rw [h8]; exact h7
       · exact ⟨⟨.bool false, undef⟩, fun h => absurd h hi⟩
      obtain ⟨f, hf⟩ := Classical.axiomOfChoice hq
      refine ⟨.list ((List.range len).map fun i => (f i).1), ⟨_, rfl, by simp; omega, fun x hx => ?_⟩, Reads.one ?_ rfl rfl, by simp [D.cells, h1], ?_⟩
      · simp only [List.mem_map, List.mem_range] at hx
        obtain ⟨i, hi, rfl⟩ := hx
        exact (hf i hi).1
      · by_cases hl : len = 0
        · subst hl
          exact .nil (some a) cap (fun h => by cases h)
        · have h0 := hf 0 (by omega)
          obtain ⟨ab, ao, ae⟩ := a
          obtain rfl : ae = none := h0.2.2.2.2.1
          have hlen : ((List.range len).map fun i => (f i).1).length = len := by simp
          have := DRel.list (w := w) (F := fun _ => False) ((List.range len).map fun i => (f i).1) ab ao cap (P.cellsOf e) (fun i => (f i).2) (by rw [hlen]; exact hlc) h0.2.2.2.1 (fun h => h)
           (fun d hd => by
            simp only [List.mem_map, List.mem_range] at hd
            obtain ⟨i, hi, rfl⟩ := hd
            exact (hf i hi).2.2.1)
           (fun i d hd => by
            simp only [List.getElem?_map, Option.map_eq_some_iff] at hd
            obtain ⟨i', hi', rfl⟩ := hd
            have := List.getElem?_eq_some_iff.1 hi'
            obtain ⟨hi2, hi3⟩ := this
            simp at hi2 hi3
            subst hi3
            exact (hf _ hi2).2.1)
           (fun i j c hi hj => by
            rw [hlen] at hi
            exact (hf i hi).2.2.2.2.2.1 j c hj)
          rw [hlen] at this
          exact this
      · simp only [wtD, bulkW]
        refine Nat.succ_le_succ (wtDs_le _ _ (by simp; omega) fun i x d hx hd => ?_)
        simp only [List.getElem?_map, Option.map_eq_some_iff] at hx hd
        obtain ⟨j, hj, rfl⟩ := hx
        obtain ⟨q, hq, rfl⟩ := hd
        obtain ⟨hj2, hj3⟩ := List.getElem?_eq_some_iff.1 hj
        simp at hj2 hj3
        subst hj3
        exact (hf i hj2).2.2.2.2.2.2 q hq
   | struct fs =>
    obtain ⟨xs, m', rfl, rfl, hl, hxs, hget⟩ := DataW.trod_struct ht hx
    simp only at hp
    rw [← hl] at hp
    obtain ⟨ys, h1, h2, _, h4, h5⟩ := reads_fieldsW (n := m' + 1) (w := w) (F := fun _ => False) fs.toList (xs.map (·.1)) 0 hp (by simpa using hxs) (fun i f e hi he hok => by
     simp only [List.getElem?_map, Option.map_eq_some_iff] at he
     obtain ⟨y, hy, rfl⟩ := he
     have h5 := hget i f (by simpa using hi)
     rw [hy] at h5
     exact read_dataW hL m' f.type _ y hok h5)
    refine ⟨.agg (ys.flatMap D.cells), ⟨ys, rfl, by simpa using h1, fun i f y hi hy => h2 i f y (by simpa using hi) hy⟩, by simpa using h4, ?_, ?_⟩
    · have := h4.1
      rw [this]; simpa using hl
    · simp only [wtD, bulkW]; omega
   | _ => cases hp
theorem arg_relW {L : List TypeId} (hL : plainR P L = true) {t : TypeId} {v : Value} {d : DataW H} {ps : List MemPlace} {b0 : Nat} (hp : L.contains t = true) (hv : Value.okWide P w .any b0 t v) (h : DataW.Trod enc P w base sp held t v d ps) :
 ∃ n x, typed P n t x ∧ DRel w (fun _ => False) x v ∧ wtD x ≤ bulkW d := by
 obtain ⟨m, hm⟩ := h
 obtain ⟨x, hx, hR, _, hwt⟩ := read_dataW hL m t _ _ hp hm
 refine ⟨m + 1, x, hx, ?_, hwt⟩
 have h1 := hR.rel
 · have hp := plainR_at hL hp
   simp only [typed] at hx
   cases ht : P.underlying t with
   | none => rw [ht] at hp; cases hp
   | some u =>
    rw [ht] at hp hx
    cases u with
    | bool => obtain ⟨b, rfl⟩ := okWide_bool ht hv; obtain ⟨y, rfl⟩ := hx; exact h1
    | int k => obtain ⟨b, rfl⟩ := okWide_int ht hv; obtain ⟨y, rfl, _⟩ := hx; exact h1
    | string => obtain ⟨b, rfl⟩ := okWide_string ht hv; obtain ⟨y, rfl, _⟩ := hx; exact h1
    | slice e => obtain ⟨a, len, cap, rfl⟩ := okWide_slice ht hv; obtain ⟨y, rfl, _⟩ := hx; exact h1
    | struct fs =>
     simp only [Value.okWide, ht] at hv
     obtain ⟨cs, rfl, _⟩ := hv
     obtain ⟨ys, rfl, _⟩ := hx
     simpa [shaped, Value.cells] using h1
    | _ => cases hp
theorem args_relW {L : List TypeId} (hL : plainR P L = true) {b0 : Nat} : ∀ {ts : List TypeId} {vs : List Value} {ds : List (DataW H)} {ps : List MemPlace}, DataW.TrodAll enc P w base sp held ts vs ds ps → (∀ t ∈ ts, L.contains t = true) →
 (∀ (j : Nat) t v, ts[j]? = some t → vs[j]? = some v → Value.okWide P w .any b0 t v) →
 ∃ xs : List D, xs.length = vs.length ∧ xs.length = ts.length ∧ (∀ (i : Nat) t x, ts[i]? = some t → xs[i]? = some x → ∃ n, typed P n t x) ∧ (∀ (i : Nat) x v, xs[i]? = some x → vs[i]? = some v → DRel w (fun _ => False) x v) ∧ wtDs xs ≤ bulkWs ds
 | [], [], [], _, _, _, _ => ⟨[], rfl, rfl, fun i t x h => by simp at h, fun i x v h => by simp at h, by simp [wtDs, bulkWs]⟩
 | t :: ts, v :: vs, d :: ds, ps, h, hp, hv => by
  obtain ⟨p, q, h1, h2, _⟩ := h
  obtain ⟨n, x, hx, hr, hwt⟩ := arg_relW hL (hp t (by simp)) (hv 0 t v rfl rfl) h1
  obtain ⟨xs, g1, g2, g3, g4, g5⟩ := args_relW hL h2 (fun t ht => hp t (by simp [ht])) (fun j t v h3 h4 => hv (j + 1) t v (by simpa using h3) (by simpa using h4))
  refine ⟨x :: xs, by simp [g1], by simp [g2], fun i t' x' h3 h4 => ?_, fun i x' v' h3 h4 => ?_, by simp only [wtDs, bulkWs]; omega⟩
  · cases i with
    | zero => simp at h3 h4; subst h3; subst h4; exact ⟨n, hx⟩
    | succ i => simp at h3 h4; exact g3 i t' x' h3 h4
  · cases i with
    | zero => simp at h3 h4; subst h3; subst h4; exact hr
    | succ i => simp at h3 h4; exact g4 i x' v' h3 h4
 | [], _ :: _, _, _, h, _, _ => by cases h
 | [], [], _ :: _, _, h, _, _ => by cases h
 | _ :: _, [], _, _, h, _, _ => by cases h
 | _ :: _, _ :: _, [], _, h, _, _ => by cases h
end
section
variable {H : Type} {enc : TypeId × Value → H}
theorem law_contractW {X : Ctx} (hX : CtxOk X) {f : FuncId} {fn : Func} {s : ChangeSpec} {apart fresh handsOn : Bool} {L : List TypeId} {tb : TypeId} (hL : plainR X.P L = true)
 (hlaid : laidOutB X.P = true) (hts : (fn.params.toList.all fun t => X.P.readableRec t && decide (t < X.P.types.size) && L.contains t) = true)
 (hres : fn.resultTypes = #[tb]) (htb : X.P.underlying tb = some .bool) (hvars : s.vars = [])
 (hspec : ∀ ds : List (DataW H), ds.length = fn.params.size → s.fn H ds = { results := [.lit (.bool true)], args := ds })
 {W : World} {base : Nat} {args : Array Value} {ds gs : List (DataW H)} {before : List MemPlace}
 (hval : ∀ (j : Nat) t v, fn.params[j]? = some t → args[j]? = some v → Value.okWide X.P W .any base t v)
 (hW : DataW.Whole enc X.P fn.params.toList s.vars apart W args.toList ds gs before) (hg : GlobRel W (fun _ => False) X.gl)
 (hrun : ∀ xs : List D, xs.length = fn.params.size → (∀ (i : Nat) t x, fn.params[i]? = some t → xs[i]? = some x → ∃ n, typed X.P n t x) → wtDs xs ≤ bulkWs ds → callT X f (xs.map .d) [] = some (.ret (.d (.bool true)), [])) :
 Calls X.P f args W fun e W' => ∃ v, e = .returned v ∧ s.post enc X.P fn apart fresh handsOn false W args v W' := by
 have hW' := hW
 obtain ⟨p, q, hA, hV, rfl, hfz, hnd⟩ := hW
 rw [hvars] at hV
 obtain ⟨rfl, rfl⟩ : gs = [] ∧ q = [] := by
  cases gs with
  | nil => exact ⟨rfl, hV⟩
  | cons g r => exact absurd hV (by intro h; cases h)
 simp only [List.all_eq_true, Bool.and_eq_true, decide_eq_true_eq] at hts
 obtain ⟨xs, h1, h2, h3, h4, h5⟩ := args_relW hL (b0 := base) hA (fun t ht => (hts t ht).2) (fun j t v ht hv => hval j t v (by simpa using ht) (by simpa using hv))
 have hlen := trodAll_length hA
 refine (law_calls hX (hrun xs (by simpa using h2) (fun i t x ht hx => h3 i t x (by simpa using ht) hx) h5) (by simpa using h1) (fun i x v hx hv => h4 i x v hx (by simpa using hv)) hg).mono ?_
 rintro e W' ⟨rfl, hb⟩
 have hlt : ∀ x ∈ p, x.block < W.heap.size := fun x hx => by simpa using hW'.lt x (by simpa using hx)
 have hs : s.fn H (ds ++ []) = { results := [.lit (.bool true)], args := ds } := by
  rw [List.append_nil]; exact hspec ds (by simpa using hlen.2)
 refine ⟨_, rfl, ds, [], p ++ [], [], p, [], hW', ?_, ?_, ?_, hb.frame _, fun h => by cases h⟩
 · rw [hs, hres]
   exact trodAll_mk1 (shut_bool htb true)
 · rw [hs]
   exact trodAll_stays hlaid hb hA (fun t ht => (hts t ht).1) hlt
 · rw [hs, hvars]
   rfl
end
end Go.Am
end
section
namespace Go.Am
open Go
theorem exDs_len (l : List Ex) : (exDs l).length = l.length := by rw [exDs_eq]; simp
theorem wt_exC (x : Ex) : wtD (exD x) = wtDs (exC x) + 1 := by rw [exD_C]; rfl
mutual
theorem lnX_of : ∀ x : Ex, wtD (exD x) < 100000000 → lnX x
 | .mk op n name field sub line, h => by
  simp only [exD, wtD, wtDs] at h
  have h2 := wtDs_len (exDs sub)
  rw [exDs_len] at h2
  simp only [lnX]
  exact ⟨⟨by omega, by omega, by omega⟩, lnXs_of sub (by omega)⟩
theorem lnXs_of : ∀ l : List Ex, wtDs (exDs l) < 100000000 → lnXs l
 | [], _ => by simp only [lnXs]
 | x :: r, h => by
  simp only [exDs, wtDs] at h
  simp only [lnXs]
  exact ⟨lnX_of x (by omega), lnXs_of r (by omega)⟩
end
theorem wtDs_map {α : Type} (f : α → D) (l : List α) : l.length ≤ wtDs (l.map f) := by
 have := wtDs_len (l.map f)
 simpa using this
theorem wt_lb (l : List Int) : l.length ≤ wtD (lbD l) := by
 have := wtDs_map (fun n => D.int .i64 n) l
 simp only [lbD, wtD]
 omega
theorem bksD_len (l : List (List Sm)) : (bksD l).length = l.length := by rw [bksD_eq]; simp
theorem smDs_len (l : List Sm) : (smDs l).length = l.length := by rw [smDs_eq]; simp
mutual
theorem lnM_of : ∀ x : Sm, wtD (smD x) < 100000000 → lnM x ∧ ndM x ≤ wtD (smD x)
 | .mk op name to val conds labels fields blocks line, h => by
  simp only [smD, wtD, wtDs, wtDs_app] at h ⊢
  have e1 := wt_exC to
  have e2 := wt_exC val
  have h2 := wtDs_len (exDs conds)
  rw [exDs_len] at h2
  have h3 := wtDs_map lbD labels
  have h4 := wtDs_map D.str fields
  have h5 := wtDs_len (bksD blocks)
  rw [bksD_len] at h5
  have hb := lnBs_of blocks (by omega)
  simp only [lnM, ndM]
  refine ⟨⟨⟨lnX_of to (by omega), lnX_of val (by omega), ⟨by omega, lnXs_of conds (by omega)⟩, ⟨by omega, fun l hl => ?_⟩, by omega, by omega⟩, hb.1⟩, by omega⟩
  have h6 := wtDs_mem (List.mem_map_of_mem (f := lbD) hl)
  have h7 := wt_lb l
  omega
theorem lnMs_of : ∀ l : List Sm, wtDs (smDs l) < 100000000 → lnMs l ∧ ndMs l ≤ wtDs (smDs l)
 | [], _ => by simp only [lnMs, ndMs]; exact ⟨trivial, Nat.zero_le _⟩
 | x :: r, h => by
  simp only [smDs, wtDs] at h ⊢
  have h1 := lnM_of x (by omega)
  have h2 := lnMs_of r (by omega)
  simp only [lnMs, ndMs]
  exact ⟨⟨h1.1, h2.1⟩, by omega⟩
theorem lnBs_of : ∀ l : List (List Sm), wtDs (bksD l) < 100000000 → lnBs l ∧ ndBs l ≤ wtDs (bksD l)
 | [], _ => by simp only [lnBs, ndBs]; exact ⟨trivial, Nat.zero_le _⟩
 | b :: r, h => by
  simp only [bksD, wtDs, wtD] at h ⊢
  have h0 := wtDs_len (smDs b)
  rw [smDs_len] at h0
  have h1 := lnMs_of b (by omega)
  have h2 := lnBs_of r (by omega)
  simp only [lnBs, ndBs]
  exact ⟨⟨⟨by omega, h1.1⟩, h2.1⟩, by omega⟩
end
theorem pg_light {p : Pg} (h : wtD (.agg [.str p.name, .list (p.vars.map vrD), .list (p.body.map smD)]) < 50000000) : p.body.length < 100000000 ∧ lnMs p.body ∧ ndMs p.body < 50000000 := by
 simp only [wtD, wtDs] at h
 rw [← smDs_eq] at h
 have h0 := wtDs_len (smDs p.body)
 rw [smDs_len] at h0
 have h1 := lnMs_of p.body (by omega)
 exact ⟨by omega, h1.1, by omega⟩
mutual
def usX (s : Tx) : Ex → Bool
 | .mk _ _ name _ sub _ => decide (name = s) || usXs s sub
def usXs (s : Tx) : List Ex → Bool
 | [] => false
 | x :: r => usX s x || usXs s r
end
mutual
def usM (s : Tx) : Sm → Bool
 | .mk _ name to val conds _ _ blocks _ => decide (name = s) || ((usX s to || usX s val) || (usXs s conds || usBs s blocks))
def usMs (s : Tx) : List Sm → Bool
 | [] => false
 | x :: r => usM s x || usMs s r
def usBs (s : Tx) : List (List Sm) → Bool
 | [] => false
 | b :: r => usMs s b || usBs s r
end
def Rm (u : Bool) (a a' : EL) : Prop := a.1 = 0 → a'.1 = if u = true then 9 else 0
theorem Rm.or {u1 u2 : Bool} {a a' b b' : EL} (h1 : Rm u1 a a') (h2 : Rm u2 b b') : Rm (u1 || u2) (orE a b) (orE a' b') := by
 intro h
 unfold orE at h ⊢
 by_cases ha : a.1 = 0
 · rw [if_neg (fun h => h ha)] at h
   have h1 := h1 ha
   have h2 := h2 h
   cases u1 with
   | true => simp at h1; rw [if_pos (by rw [h1]; decide), h1]; simp
   | false => simp at h1; rw [if_neg (fun h => h h1)]; simpa using h2
 · rw [if_pos ha] at h
   exact absurd h ha
theorem Rm.zero : Rm false (0, 0) (0, 0) := fun _ => rfl
theorem Rm.same {u : Bool} {a a' : EL} (hu : u = false) (h : a' = a) : Rm u a a' := by
 subst hu h
 intro h; simpa using h
theorem nameF_ne {s : Tx} (h : nameF s = true) : s ≠ [] := by
 rintro rfl
 simp [nameF] at h
section
variable {vs vs' : List Vr} {nm : Tx} (hne : nm ≠ []) (hf : ∀ s, findV vs' s = if s = nm then none else findV vs s)
include hne hf
theorem ty_rm : ∀ x : Ex, fitX x = true → (tyX vs x).e = 0 → if usX nm x = true then (tyX vs' x).e = 9 else tyX vs' x = tyX vs x
 | .mk op n name field sub line, hfit, h => by
  simp only [fitX, Bool.and_eq_true, decide_eq_true_eq, Bool.not_eq_true', decide_eq_false_iff_not] at hfit
  obtain ⟨_, hlen, hname, _, hsub⟩ := hfit
  have ih := fun (y : Ex) (hy : y ∈ sub) => ty_rm y
  unfold tyX at h ⊢
  by_cases h12 : op = 1 ∨ op = 2
  · have hs : sub = [] := List.eq_nil_of_length_eq_zero (by rw [hlen]; unfold subsN; rcases h12 with h | h <;> subst h <;> decide)
    have hn : name = [] := by
     rw [if_neg (by omega)] at hname
     simpa using hname
    subst hs hn
    have : usX nm (.mk op n [] field [] line) = false := by simp [usX, usXs, Ne.symm hne]
    rw [this]
    simp [h12]
  · rw [if_neg h12] at h ⊢
    by_cases h345 : op = 3 ∨ op = 4 ∨ op = 5
    · rw [if_pos h345] at h ⊢
      by_cases hnm : name = nm
      · have hu : usX nm (.mk op n name field sub line) = true := by simp [usX, hnm]
        rw [hu, if_pos rfl, hf name, if_pos hnm]
        rfl
      · have hfe : findV vs' name = findV vs name := by rw [hf name, if_neg hnm]
        rw [hfe]
        cases hv : findV vs name with
        | none => rw [hv] at h; simp [badT] at h
        | some v =>
         rw [hv] at h
         simp only at h ⊢
         by_cases h5 : op = 5
         · have hs : sub = [] := List.eq_nil_of_length_eq_zero (by rw [hlen, h5]; rfl)
           subst hs
           have hu : usX nm (.mk op n name field [] line) = false := by simp [usX, usXs, hnm]
           rw [hu]
           simp [h5]
         · rw [if_neg h5] at h ⊢
           split at h
           · simp [badT] at h
           · rename_i hva
             by_cases h4 : op = 4
             · obtain ⟨y, rfl⟩ : ∃ y, sub = [y] := by
                have : sub.length = 1 := by rw [hlen, h4]; rfl
                match sub, this with
                | [y], _ => exact ⟨y, rfl⟩
               have hy := ih y (by simp) (by simpa [fitXs] using hsub)
               rw [if_pos h4] at h
               simp only [tyI] at h
               split at h
               · rename_i he
                 simp only [badT] at h
                 exact absurd h he
               · rename_i he
                 have he : (tyX vs y).e = 0 := by simpa using he
                 have hy := hy he
                 have hu : usX nm (.mk op n name field [y] line) = usX nm y := by simp [usX, usXs, hnm]
                 rw [hu]
                 cases huy : usX nm y with
                 | true =>
                  rw [huy] at hy
                  simp only [if_true] at hy ⊢
                  simp only [if_neg hva, if_pos h4]
                  simp [tyI, hy, badT]
                 | false =>
                  rw [huy] at hy
                  simp only [Bool.false_eq_true, if_false] at hy ⊢
                  simp only [if_neg h12, if_pos h345, if_neg h5, if_neg hva, if_pos h4]
                  simp [tyI, hy]
             · have hs : sub = [] := by
                have h3 : op = 3 := by omega
                exact List.eq_nil_of_length_eq_zero (by rw [hlen, h3]; rfl)
               subst hs
               have hu : usX nm (.mk op n name field [] line) = false := by simp [usX, usXs, hnm]
               simp only [hu, if_neg h12, if_pos h345, if_neg h5, if_neg hva, if_neg h4]
               simp
    · rw [if_neg h345] at h
      have hn : name = [] := by
       rw [if_neg h345] at hname
       simpa using hname
      have hu : usX nm (.mk op n name field sub line) = usXs nm sub := by simp [usX, hn, Ne.symm hne]
      rw [hu]
      simp only [if_neg h12, if_neg h345]
      match sub, hsub, h, ih, hlen with
      | [], _, _, _, _ => simp [usXs, tyO]
      | [x], hsub, h, ih, hlen =>
       have hx := ih x (by simp) (by simpa [fitXs] using hsub)
       simp only [tyO, opT2] at h ⊢
       split at h
       · rename_i he; exact absurd h he
       · rename_i he
         have he : (tyX vs x).e = 0 := by simpa using he
         have hx := hx he
         simp only [usXs, Bool.or_false]
         cases huy : usX nm x with
         | true =>
          rw [huy] at hx
          simp only [if_true] at hx ⊢
          simp [hx]
         | false =>
          rw [huy] at hx
          simp only [Bool.false_eq_true, if_false] at hx ⊢
          rw [hx]
      | x :: y :: r, hsub, h, ih, hlen =>
       have hr : r = [] := by
        simp only [subsN] at hlen
        split at hlen
        · simp at hlen
        · split at hlen
          · simp at hlen; exact hlen
          · simp at hlen
       subst hr
       simp only [fitXs, Bool.and_true, Bool.and_eq_true] at hsub
       have hx := ih x (by simp) hsub.1
       have hy := ih y (by simp) hsub.2
       simp only [tyO, opT2] at h ⊢
       split at h
       · rename_i he; exact absurd h he
       · rename_i he
         have he : (tyX vs x).e = 0 := by simpa using he
         have hx := hx he
         split at h
         · rename_i he2; exact absurd h he2
         · rename_i he2
           have he2 : (tyX vs y).e = 0 := by simpa using he2
           have hy := hy he2
           simp only [usXs, Bool.or_false]
           cases hux : usX nm x with
           | true =>
            rw [hux] at hx
            simp only [if_true, Bool.true_or] at hx ⊢
            simp [hx]
           | false =>
            rw [hux] at hx
            simp only [Bool.false_eq_true, if_false] at hx
            rw [hx]
            cases huy : usX nm y with
            | true =>
             rw [huy] at hy
             simp only [if_true, Bool.or_true] at hy ⊢
             simp [hy, he]
            | false =>
             rw [huy] at hy
             simp only [Bool.false_eq_true, if_false, Bool.or_self] at hy ⊢
             rw [hy]
termination_by x => SizeOf.sizeOf x
decreasing_by all_goals (simp_wf; have := List.sizeOf_lt_of_mem hy; omega)
theorem te_rm {x : Ex} (h : fitX x = true) : Rm (usX nm x) (teE (tyX vs x)) (teE (tyX vs' x)) := by
 intro he
 have := ty_rm hne hf x h he
 cases hu : usX nm x with
 | true => rw [hu] at this; simpa [teE] using this
 | false =>
  rw [hu] at this
  simp only [Bool.false_eq_true, if_false] at this ⊢
  rw [this]; exact he
theorem want_rm {x : Ex} (h : fitX x = true) (t : Int) : Rm (usX nm x) (wantX vs x t) (wantX vs' x t) := by
 intro he
 unfold wantX at he ⊢
 split at he
 · rename_i h1; exact absurd he h1
 · rename_i h1
   have h1 : (tyX vs x).e = 0 := by simpa using h1
   have := ty_rm hne hf x h h1
   cases hu : usX nm x with
   | true =>
    rw [hu] at this
    simp only [if_true] at this ⊢
    simp [this]
   | false =>
    rw [hu] at this
    simp only [Bool.false_eq_true, if_false] at this ⊢
    rw [this, if_neg (by simpa using h1)]
    exact he
theorem wants_rm (t : Int) : ∀ l : List Ex, fitXs l = true → Rm (usXs nm l) (wantsE vs t l) (wantsE vs' t l)
 | [], _ => Rm.zero
 | x :: r, h => by
  simp only [fitXs, Bool.and_eq_true] at h
  exact (want_rm hne hf h.1 t).or (wants_rm t r h.2)
theorem call_rm (k line : Int) : ∀ (fs : List Tx) (xs : List Ex) (p : List Tx), fitXs xs = true → xs.length = fs.length → Rm (usXs nm xs) (callE vs k line fs xs p) (callE vs' k line fs xs p)
 | [], [], p, _, _ => Rm.zero
 | f :: fs, x :: xs, p, h, hl => by
  simp only [fitXs, Bool.and_eq_true] at h
  have ih := call_rm k line fs xs (p ++ [f]) h.2 (by simpa using hl)
  unfold callE
  cases pinF k f with
  | none => intro he; simp at he
  | some q =>
   simp only
   split
   · intro he; simp at he
   · split
     · intro he; simp at he
     · exact (want_rm hne hf h.1 q.ty).or ih
 | [], _ :: _, _, _, hl => by simp at hl
 | _ :: _, [], _, _, hl => by simp at hl
theorem none_us {x : Ex} (h : noneX x = true) : usX nm x = false := by
 obtain ⟨op, n, name, field, sub, line⟩ := x
 simp only [noneX, exo_mk, exn_mk, exa_mk, exf_mk, exs_mk, Bool.and_eq_true, decide_eq_true_eq] at h
 obtain ⟨_, _, h3⟩ := h
 have h4 := of_decide_eq_true h3
 have h1 : name = [] := List.eq_nil_of_length_eq_zero (by omega)
 have h2 : sub = [] := List.eq_nil_of_length_eq_zero (by omega)
 subst h1 h2
 simp [usX, usXs, Ne.symm hne]
theorem as_rm {to val : Ex} {line : Int} (h1 : fitX to = true) (h2 : fitX val = true) (h3 : exo to = 3 ∨ exo to = 4) : Rm (usX nm to || usX nm val) (asE vs to val line) (asE vs' to val line) := by
 unfold asE
 rw [hf (exa to)]
 by_cases hnm : exa to = nm
 · rw [if_pos hnm]
   have hu : usX nm to = true := by obtain ⟨op, n, name, field, sub, l⟩ := to; simp only [exa_mk] at hnm; simp [usX, hnm]
   intro _
   rw [hu]
   rfl
 · rw [if_neg hnm]
   cases findV vs (exa to) with
   | none => intro he; simp at he
   | some v =>
    simp only
    split
    · intro he; simp at he
    · intro he
      have e1 := te_rm hne hf h1
      have e2 := te_rm hne hf h2
      unfold orE at he
      split at he
      · rename_i hx; exact absurd he hx
      · rename_i hx
        have hx : (teE (tyX vs to)).1 = 0 := by simpa using hx
        split at he
        · rename_i hy; exact absurd he hy
        · rename_i hy
          have hy : (teE (tyX vs val)).1 = 0 := by simpa using hy
          have q1 := ty_rm hne hf to h1 hx
          have q2 := ty_rm hne hf val h2 hy
          have e1 := e1 hx
          have e2 := e2 hy
          cases hu1 : usX nm to with
          | true =>
           rw [hu1] at e1
           simp only [if_true, Bool.true_or] at e1 ⊢
           unfold orE
           rw [if_pos (by rw [e1]; decide), e1]
          | false =>
           rw [hu1] at e1 q1
           simp only [Bool.false_eq_true, if_false, Bool.false_or] at e1 q1 ⊢
           cases hu2 : usX nm val with
           | true =>
            rw [hu2] at e2
            simp only [if_true] at e2 ⊢
            unfold orE
            rw [if_neg (by simpa using e1), if_pos (by rw [e2]; decide), e2]
           | false =>
            rw [hu2] at e2 q2
            simp only [Bool.false_eq_true, if_false] at e2 q2 ⊢
            unfold orE
            rw [if_neg (by simpa using e1), if_neg (by simpa using e2), q1, q2]
            exact he
end
section
variable {vs vs' : List Vr} {nm : Tx} (hne : nm ≠ []) (hf : ∀ s, findV vs' s = if s = nm then none else findV vs s)
include hne hf
mutual
theorem ch_rm (loops : Bool) : ∀ x : Sm, fitM x = true → Rm (usM nm x) (chM vs loops x) (chM vs' loops x)
 | .mk op name to val conds labels fields blocks line, h => by
  simp only [fitM, Bool.and_eq_true, decide_eq_true_eq] at h
  obtain ⟨hop, hname, hto, hval, hconds, hshape, _, _, hblocks⟩ := h
  have hnn : ¬ (op = 4 ∨ op = 9) → decide (name = nm) = false := by
   intro h
   rw [if_neg h] at hname
   have : name = [] := by simpa using hname
   simp [this, Ne.symm hne]
  have hnt : ¬ op = 1 → usX nm to = false := by
   intro h
   rw [if_neg h] at hto
   exact none_us hne hf hto
  have hnv : ¬ (op = 1 ∨ op = 3 ∨ op = 5 ∨ op = 6) → usX nm val = false := by
   intro h
   rw [if_neg h] at hval
   exact none_us hne hf hval
  have hvv : (op = 1 ∨ op = 3 ∨ op = 5 ∨ op = 6) → fitX val = true := by
   intro h
   rw [if_pos h] at hval
   simp only [Bool.and_eq_true] at hval
   exact hval.2
  have hb := chs_rm blocks hblocks
  unfold chM usM
  by_cases h1 : op = 1
  · subst h1
    simp only [if_true] at hto ⊢
    simp only [Bool.and_eq_true, decide_eq_true_eq] at hto
    have hs : shapeB 1 conds.length labels.length fields.length blocks.length = true := hshape
    simp [shapeB] at hs
    obtain ⟨rfl, _, _, rfl⟩ := hs
    rw [hnn (by decide)]
    simpa [usXs, usBs] using as_rm hne hf hto.2 (hvv (.inl rfl)) hto.1
  · rw [if_neg h1, if_neg h1, hnt h1]
    by_cases h2 : op = 2
    · subst h2
      rw [if_pos rfl, if_pos rfl, hnn (by decide), hnv (by decide)]
      simp only [Bool.false_or]
      have hs : shapeB 2 conds.length labels.length fields.length blocks.length = true := hshape
      simp [shapeB] at hs
      exact chc_rm loops conds blocks hconds hblocks (by omega)
    · rw [if_neg h2, if_neg h2]
      by_cases h3 : op = 3
      · subst h3
        have hs : shapeB 3 conds.length labels.length fields.length blocks.length = true := hshape
        simp [shapeB] at hs
        obtain ⟨rfl, _⟩ := hs
        rw [if_pos rfl, if_pos rfl, hnn (by decide)]
        simp only [Bool.false_or, usXs]
        exact (want_rm hne hf (hvv (.inr (.inl rfl))) 1).or (by simpa [usXs] using chc_rm loops [] blocks rfl hblocks (by simp))
      · rw [if_neg h3, if_neg h3]
        by_cases h4 : op = 4
        · subst h4
          have hs : shapeB 4 conds.length labels.length fields.length blocks.length = true := hshape
          simp [shapeB] at hs
          obtain ⟨_, _, _, hbl⟩ := hs
          rw [if_pos rfl, if_pos rfl, hnv (by decide), hf name]
          by_cases hnm : name = nm
          · rw [if_pos hnm]
            intro _
            simp [hnm]
          · rw [if_neg hnm]
            cases findV vs name with
            | none => intro he; simp at he
            | some v =>
             simp only
             split
             · intro he; simp at he
             · split
               · intro he; simp at he
               · have := (wants_rm hne hf 1 conds hconds).or (chh_rm blocks hblocks hbl)
                 simpa [hnm] using this
        · rw [if_neg h4, if_neg h4]
          by_cases h5 : op = 5
          · subst h5
            have hs : shapeB 5 conds.length labels.length fields.length blocks.length = true := hshape
            simp [shapeB] at hs
            obtain ⟨rfl, _, _, hbl⟩ := hs
            rw [if_pos rfl, if_pos rfl, hnn (by decide)]
            simp only [Bool.false_or, usXs]
            exact (want_rm hne hf (hvv (.inr (.inr (.inl rfl)))) 2).or (chh_rm blocks hblocks hbl)
          · rw [if_neg h5, if_neg h5]
            by_cases h6 : op = 6
            · subst h6
              have hs : shapeB 6 conds.length labels.length fields.length blocks.length = true := hshape
              simp [shapeB] at hs
              obtain ⟨rfl, _, _, hbl⟩ := hs
              rw [if_pos rfl, if_pos rfl, hnn (by decide)]
              simp only [Bool.false_or, usXs]
              have := (chh_rm blocks hblocks hbl).or (want_rm hne hf (hvv (.inr (.inr (.inr rfl)))) 2)
              rw [Bool.or_comm] at this
              exact this
            · rw [if_neg h6, if_neg h6, hnv (by omega)]
              by_cases h7 : op = 7
              · subst h7
                have hs : shapeB 7 conds.length labels.length fields.length blocks.length = true := hshape
                simp [shapeB] at hs
                obtain ⟨rfl, _, _, rfl⟩ := hs
                rw [if_pos rfl, if_pos rfl, hnn (by decide)]
                exact Rm.same (by simp [usXs, usBs]) rfl
              · rw [if_neg h7, if_neg h7]
                by_cases h9 : op = 9
                · subst h9
                  have hs : shapeB 9 conds.length labels.length fields.length blocks.length = true := hshape
                  simp [shapeB] at hs
                  obtain ⟨hcf, _, rfl⟩ := hs
                  rw [if_pos rfl, if_pos rfl, hf name]
                  by_cases hnm : name = nm
                  · rw [if_pos hnm]
                    intro _
                    simp [hnm]
                  · rw [if_neg hnm]
                    cases findV vs name with
                    | none => intro he; simp at he
                    | some v =>
                     simp only
                     split
                     · intro he; simp at he
                     · simpa [hnm, usBs] using call_rm hne hf v.ty line fields conds [] hconds hcf
                · rw [if_neg h9, if_neg h9]
                  have h8 : op = 8 := by omega
                  subst h8
                  have hs : shapeB 8 conds.length labels.length fields.length blocks.length = true := hshape
                  simp [shapeB] at hs
                  obtain ⟨rfl, _, _, rfl⟩ := hs
                  rw [hnn (by decide)]
                  exact Rm.same (by simp [usXs, usBs]) rfl
theorem chs_rm : ∀ l : List (List Sm), fitBs l = true → True
 | _, _ => trivial
theorem chl_rm (loops : Bool) : ∀ l : List Sm, fitMs l = true → Rm (usMs nm l) (chMs vs loops l) (chMs vs' loops l)
 | [], _ => Rm.zero
 | x :: r, h => by
  simp only [fitMs, Bool.and_eq_true] at h
  exact (ch_rm loops x h.1).or (chl_rm loops r h.2)
theorem chc_rm (loops : Bool) : ∀ (cs : List Ex) (l : List (List Sm)), fitXs cs = true → fitBs l = true → cs.length ≤ l.length → Rm (usXs nm cs || usBs nm l) (chC vs loops cs l) (chC vs' loops cs l)
 | [], [], _, _, _ => Rm.zero
 | [], b :: r, hc, h, _ => by
  simp only [fitBs, Bool.and_eq_true] at h
  have := (chl_rm loops b h.1).or (chc_rm loops [] r rfl h.2 (by simp))
  simpa [usXs, usBs, chC] using this
 | c :: cs, b :: r, hc, h, hl => by
  simp only [fitBs, Bool.and_eq_true] at h
  simp only [fitXs, Bool.and_eq_true] at hc
  have := (want_rm hne hf hc.1 2).or ((chl_rm loops b h.1).or (chc_rm loops cs r hc.2 h.2 (by simpa using hl)))
  have e : (usXs nm (c :: cs) || usBs nm (b :: r)) = (usX nm c || (usMs nm b || (usXs nm cs || usBs nm r))) := by
   simp only [usXs, usBs]
   cases usX nm c <;> cases usXs nm cs <;> cases usMs nm b <;> cases usBs nm r <;> rfl
  rw [e]
  exact this
 | _ :: _, [], _, _, hl => by simp at hl
theorem chh_rm : ∀ (l : List (List Sm)), fitBs l = true → l.length = 1 → Rm (usBs nm l) (chH vs l) (chH vs' l)
 | [b], h, _ => by
  simp only [fitBs, Bool.and_eq_true] at h
  have := chl_rm true b h.1
  simpa [usBs, chH] using this
 | [], _, hl => by simp at hl
 | _ :: _ :: _, _, hl => by simp at hl
end
end
theorem findV_app (s : Tx) : ∀ (a b : List Vr), findV (a ++ b) s = match findV a s with | some v => some v | none => findV b s
 | [], b => rfl
 | v :: a, b => by
  simp only [List.cons_append, findV]
  split
  · rfl
  · exact findV_app s a b
theorem findV_none {s : Tx} : ∀ {l : List Vr}, findV l s = none ↔ ∀ v ∈ l, v.name ≠ s
 | [] => by simp [findV]
 | v :: l => by
  simp only [findV]
  split
  · rename_i h; simp [h]
  · rename_i h
    rw [findV_none]
    simp [h]
theorem chV_less : ∀ (l p p' : List Vr) (n n' : Int), (∀ s, findV p' s = none → findV p s = none) → n ≤ n' → (chV l p' n').1 = 0 → (chV l p n).1 = 0
 | [], _, _, _, _, _, _, _ => rfl
 | v :: r, p, p', n, n', hp, hn, h => by
  unfold chV at h ⊢
  split at h
  · simp at h
  · rename_i h1
    split at h
    · simp at h
    · rename_i h2
      have h1' : findV p' v.name = none := by
       cases hq : findV p' v.name with
       | none => rfl
       | some x => rw [hq] at h1; simp at h1
      rw [if_neg (by rw [hp _ h1']; simp), if_neg (by omega)]
      refine chV_less r _ _ _ _ (fun s hs => ?_) (by omega) h
      rw [findV_app] at hs ⊢
      cases hq : findV p' s with
      | some x => rw [hq] at hs; simp at hs
      | none => rw [hq] at hs; rw [hp _ hq]; exact hs
theorem chV_out : ∀ (a p : List Vr) (v : Vr) (b : List Vr) (n : Int), 0 ≤ cellsF v → (chV (a ++ v :: b) p n).1 = 0 → (chV (a ++ b) p n).1 = 0 ∧ (∀ x ∈ a, x.name ≠ v.name) ∧ (∀ x ∈ b, x.name ≠ v.name)
 | [], p, v, b, n, hc, h => by
  simp only [List.nil_append] at h ⊢
  unfold chV at h
  split at h
  · simp at h
  · split at h
    · simp at h
    · refine ⟨chV_less b _ _ _ _ (fun s hs => ?_) (by omega) h, by simp, ?_⟩
      · rw [findV_app] at hs
        cases hq : findV p s with
        | none => rfl
        | some x => rw [hq] at hs; simp at hs
      · have key : ∀ (b p : List Vr) (n : Int), (chV b p n).1 = 0 → v ∈ p → ∀ x ∈ b, x.name ≠ v.name := by
         intro b
         induction b with
         | nil => intro p n _ _ x hx; simp at hx
         | cons y b ih =>
          intro p n h hv x hx
          unfold chV at h
          split at h
          · simp at h
          · rename_i h1
            split at h
            · simp at h
            · rcases List.mem_cons.1 hx with rfl | hx
              · intro e
                apply h1
                cases hq : findV p x.name with
                | some _ => rfl
                | none => exact absurd e.symm (findV_none.1 hq v hv)
              · exact ih _ _ h (by simp [hv]) x hx
        exact key b _ _ h (by simp)
 | y :: a, p, v, b, n, hc, h => by
  simp only [List.cons_append] at h ⊢
  unfold chV at h ⊢
  split at h
  · simp at h
  · rename_i h1
    split at h
    · simp at h
    · rename_i h2
      obtain ⟨i1, i2, i3⟩ := chV_out a (p ++ [y]) v b (n + cellsF y) hc h
      rw [if_neg h1, if_neg h2]
      refine ⟨i1, ?_, i3⟩
      intro x hx
      rcases List.mem_cons.1 hx with rfl | hx
      · have key : ∀ (a p : List Vr) (n : Int), (chV (a ++ v :: b) p n).1 = 0 → x ∈ p → x.name ≠ v.name := by
         intro a
         induction a with
         | nil =>
          intro p n h hx
          simp only [List.nil_append] at h
          unfold chV at h
          split at h
          · simp at h
          · rename_i h1
            intro e
            apply h1
            cases hq : findV p v.name with
            | some _ => rfl
            | none => exact absurd e (findV_none.1 hq x hx)
         | cons z a ih =>
          intro p n h hx
          simp only [List.cons_append] at h
          unfold chV at h
          split at h
          · simp at h
          · split at h
            · simp at h
            · exact ih _ _ h (by simp [hx])
        exact key a _ _ h (by simp)
      · exact i2 x hx
theorem cells_pos {v : Vr} (h : fitV v = true) : 0 ≤ cellsF v := by
 simp only [fitV, Bool.and_eq_true] at h
 obtain ⟨_, _, h, _⟩ := h
 unfold cellsF
 split
 · rename_i ha
   rw [if_pos ha] at h
   have := of_decide_eq_true h
   omega
 · split <;> omega
theorem names_law {p : Pg} {a b : List Vr} {v : Vr} (hv : p.vars = a ++ v :: b) (hfit : fitP p = true) (hc : (checkP p).1 = 0) :
 (checkP ⟨p.name, a ++ b, p.body⟩).1 = if usMs v.name p.body = true then 9 else 0 := by
 simp only [fitP, Bool.and_eq_true, List.all_eq_true] at hfit
 obtain ⟨_, _, hvs, hb⟩ := hfit
 have hfv := hvs v (by rw [hv]; simp)
 have hne : v.name ≠ [] := by
  simp only [fitV, Bool.and_eq_true] at hfv
  exact nameF_ne hfv.1
 unfold checkP at hc ⊢
 unfold orE at hc
 split at hc
 · rename_i h; exact absurd hc h
 · rename_i h0
   have h0 : (chV p.vars [] 0).1 = 0 := by simpa using h0
   rw [hv] at h0
   obtain ⟨i1, i2, i3⟩ := chV_out a [] v b 0 (cells_pos hfv) h0
   have hf : ∀ s, findV (a ++ b) s = if s = v.name then none else findV p.vars s := by
    intro s
    rw [hv, findV_app, findV_app]
    by_cases e : s = v.name
    · subst e
      rw [findV_none.2 i2, findV_none.2 i3, if_pos rfl]
    · rw [if_neg e]
      cases findV a s with
      | some x => rfl
      | none =>
       simp only [findV]
       rw [if_neg (fun h => e h.symm)]
   have := chl_rm (vs := p.vars) (vs' := a ++ b) hne hf false p.body hb hc
   simp only
   unfold orE
   rw [if_neg (by simpa using i1)]
   exact this
end Go.Am
end
section
namespace Go.Am
open Go Go.Proofs
variable [Inhabited Mx2]
set_option maxRecDepth 20000
def KU (nm : Tx) (l : List Ex) : Prop := callT ctx 68 [.d (.list (l.map exD)), .d (.str nm)] [] = some (.ret (.d (.bool (usXs nm l))), [])
theorem usX_A (nm : Tx) (x : Ex) : usX nm x = (decide (exa x = nm) || usXs nm (exs x)) := by
 obtain ⟨op, n, name, field, sub, line⟩ := x
 rfl
theorem ku_loop (nm : Tx) (l : List Ex) (hln : l.length < 100000000) (hK : ∀ x ∈ l, KU nm (exs x)) (k : Kt) (R1 R2 : Ans)
 (h1 : k .ret ⟨28, gl0, [(4, true, .d (.bool true))], []⟩ = R1)
 (h2 : ∀ Y : Env, k (.exit 0) ⟨28, gl0, Y, []⟩ = R2) : ∀ (rest pre : List Ex), l = pre ++ rest →
 denK ctx 68 (.loop (Code.at (codeOf Tryz.f68) [1, 0, 1, 0, 0])) ⟨28, gl0, [(0, true, .d (.list (l.map exD))), (1, true, .d (.str nm)), (5, true, .d (.int .i64 pre.length))], []⟩ k = if usXs nm rest = true then R1 else R2
 | [], pre, hd => by
  have hl0 : pre.length = l.length := by rw [hd]; simp
  rw [hl0, denK_loop]
  simp [Tryz.f68, h2, usXs]
 | x :: rest, pre, hd => by
  have hb1 : pre.length < l.length := by rw [hd]; simp
  have hb2 : l[pre.length] = x := by simp [hd]
  have hk := hK x (by rw [hd]; simp)
  have ih := ku_loop nm l hln hK k R1 R2 h1 h2 rest (pre ++ [x]) (by simp [hd])
  have w1 : IntKind.i64.wrap ((pre.length : Int) + 1) = (pre.length : Int) + 1 := wrap_id (by unfold I64; omega)
  have key : usXs nm (x :: rest) = (usX nm x || usXs nm rest) := by rw [usXs]
  rw [key, usX_A]
  unfold KU at hk
  generalize usXs nm (exs x) = N at *
  generalize usXs nm rest = M at *
  rw [denK_loop]
  by_cases he : exa x = nm
  · simp [Tryz.f68]
    simp [hb1, hb2, exD_A, he, h1]
  · simp [Tryz.f68] at ih ⊢
    simp [hb1, hb2, exD_A, he, hk]
    cases N <;> simp [h1, w1, ih]
theorem ku_r {nm : Tx} {l : List Ex} (hln : l.length < 100000000) (hK : ∀ x ∈ l, KU nm (exs x)) : KU nm l := by
 have h := fun k R1 R2 h1 h2 => ku_loop nm l hln hK k R1 R2 h1 h2 l [] rfl
 unfold KU
 rw [run68 (by simp)]
 simp [Tryz.f68] at h ⊢
 rw [h _ (some (.ret (.d (.bool true)), [])) (some (.ret (.d (.bool false)), []))]
 · cases usXs nm l <;> simp
 · simp
 · intro Y; simp
mutual
theorem ku_X {nm : Tx} : ∀ x : Ex, lnX x → KU nm (exs x)
 | .mk op nn name field sub line, h => by
  simp only [lnX] at h
  exact ku_r h.1.2.2 (fun x hx => ku_Xs sub h.2 x hx)
theorem ku_Xs {nm : Tx} : ∀ l : List Ex, lnXs l → ∀ x ∈ l, KU nm (exs x)
 | [], _, x, hx => by simp at hx
 | y :: r, h, x, hx => by
  simp only [lnXs] at h
  have h1 := ku_X (nm := nm) y h.1
  have h2 := ku_Xs (nm := nm) r h.2
  rcases List.mem_cons.1 hx with e | hx
  · rw [e]; exact h1
  · exact h2 x hx
end
theorem ku_all {nm : Tx} {l : List Ex} (hln : l.length < 100000000) (h : lnXs l) : KU nm l := ku_r hln (ku_Xs l h)
def KV (nm : Tx) (l : List Sm) : Prop := callT ctx 28 [.d (.list (l.map smD)), .d (.str nm)] [] = some (.ret (.d (.bool (usMs nm l))), [])
def usA (nm : Tx) (x : Sm) : Bool := decide (sma x = nm) || (usXs nm [smt x, smv x] || usXs nm (smc x))
theorem usM_A (nm : Tx) (x : Sm) : usM nm x = (usA nm x || usBs nm (smb x)) := by
 obtain ⟨op, name, to, val, conds, labels, fields, blocks, line⟩ := x
 simp only [usM, usA, sma, smt, smv, smc, smb, usXs]
 by_cases hn : name = nm
 · simp [hn]
 simp only [hn, decide_false, Bool.false_or]
 cases usX nm to <;> cases usX nm val <;> cases usXs nm conds <;> cases usBs nm blocks <;> rfl
noncomputable def kuC (π : List Nat) : Code := Code.at (codeOf Tryz.f28) π
section
variable {nm : Tx} {x : Sm} {v : Nat} {k : Kt} {R1 R2 : Ans} {a b : AV}
theorem kuB_loop (hl : (smb x).length < 100000000) (hK : ∀ c ∈ smb x, KV nm c) (h1 : k .ret ⟨51, gl0, [(4, true, .d (.bool true))], [⟨400, v, bxS x⟩]⟩ = R1)
 (h2 : k (.exit 2) ⟨51, gl0, [(0, true, a), (1, true, .d (.str nm)), (5, true, b), (6, true, .ptr 400 v 0), (7, true, .d (.int .i64 (smb x).length)), (41, true, .d (.bool false))], [⟨400, v, bxS x⟩]⟩ = R2) : ∀ (rest pre : List (List Sm)), smb x = pre ++ rest →
 denK ctx 28 (.loop (kuC [1, 0, 1, 0, 0, 1, 0, 0, 1, 1, 1, 0, 0])) ⟨51, gl0, [(0, true, a), (1, true, .d (.str nm)), (5, true, b), (6, true, .ptr 400 v 0), (7, true, .d (.int .i64 pre.length))], [⟨400, v, bxS x⟩]⟩ k = if usBs nm rest = true then R1 else R2
 | [], pre, hd => by
  have hl0 : pre.length = (smb x).length := by rw [hd]; simp
  simp only [bxS] at h2
  rw [hl0, denK_loop]
  simp [kuC, Tryz.f28, h2, usBs]
 | c :: rest, pre, hd => by
  have hb1 : pre.length < (smb x).length := by rw [hd]; simp
  have hb2 : (smb x)[pre.length] = c := by simp [hd]
  have ih := kuB_loop hl hK h1 h2 rest (pre ++ [c]) (by simp [hd])
  have hk := hK c (by rw [hd]; simp)
  have w1 : IntKind.i64.wrap ((pre.length : Int) + 1) = (pre.length : Int) + 1 := wrap_id (by unfold I64; omega)
  have key : usBs nm (c :: rest) = (usMs nm c || usBs nm rest) := by rw [usBs]
  rw [key]
  unfold KV at hk
  simp only [bxS] at h1
  generalize usMs nm c = N at *
  generalize usBs nm rest = M at *
  rw [denK_loop]
  cases N with
  | true =>
   simp [kuC, Tryz.f28]
   simp [hb1, hb2, bkD, hk, h1]
  | false =>
   simp [kuC, Tryz.f28] at ih ⊢
   simp [hb1, hb2, bkD, hk, w1, ih]
end
theorem ku_sloop (nm : Tx) (l : List Sm) (hln : l.length < 100000000) (hS : ∀ x ∈ l, lnS x) (hK : ∀ x ∈ l, ∀ c ∈ smb x, KV nm c) (k : Kt) (R1 R2 : Ans)
 (h1 : ∀ v X, k .ret ⟨51, gl0, [(4, true, .d (.bool true))], [⟨400, v, X⟩]⟩ = R1)
 (h2 : ∀ (Y : Env) v X, k (.exit 0) ⟨51, gl0, Y, [⟨400, v, X⟩]⟩ = R2) : ∀ (rest pre : List Sm) (v : Nat) (X : Cont), l = pre ++ rest →
 denK ctx 28 (.loop (kuC [1, 0, 1, 0, 0])) ⟨51, gl0, [(0, true, .d (.list (l.map smD))), (1, true, .d (.str nm)), (5, true, .d (.int .i64 pre.length))], [⟨400, v, X⟩]⟩ k = if usMs nm rest = true then R1 else R2
 | [], pre, v, X, hd => by
  have hl0 : pre.length = l.length := by rw [hd]; simp
  rw [hl0, denK_loop]
  simp [kuC, Tryz.f28, h2, usMs]
 | x :: rest, pre, v, X, hd => by
  have hb1 : pre.length < l.length := by rw [hd]; simp
  have hb2 : l[pre.length] = x := by simp [hd]
  have hm : x ∈ l := by rw [hd]; simp
  obtain ⟨ht, hv, ⟨hc, hcx⟩, ⟨hlb, hlbl⟩, hf, hbl⟩ := hS x hm
  have kt : KU nm [smt x, smv x] := ku_all (by simp) ⟨ht, hv, trivial⟩
  have kc : KU nm (smc x) := ku_all hc hcx
  have ih : ∀ v X, denK ctx 28 (.loop (kuC [1, 0, 1, 0, 0])) ⟨51, gl0, [(0, true, .d (.list (l.map smD))), (1, true, .d (.str nm)), (5, true, .d (.int .i64 (pre.length + 1)))], [⟨400, v, X⟩]⟩ k = if usMs nm rest = true then R1 else R2 := fun v X => by
   have := ku_sloop nm l hln hS hK k R1 R2 h1 h2 rest (pre ++ [x]) v X (by simp [hd])
   simpa using this
  have w1 : IntKind.i64.wrap ((pre.length : Int) + 1) = (pre.length : Int) + 1 := wrap_id (by unfold I64; omega)
  have key : usMs nm (x :: rest) = (usM nm x || usMs nm rest) := by rw [usMs]
  rw [key, usM_A]
  unfold usA
  unfold KU at kt kc
  simp [exD_A] at kt
  generalize usXs nm [smt x, smv x] = T at *
  generalize usXs nm (smc x) = C at *
  generalize usMs nm rest = M at *
  have hloop := fun (v : Nat) (a b : AV) (k : Kt) h1 h2 => kuB_loop (nm := nm) (x := x) (v := v) (k := k) (R1 := R1) (R2 := if M = true then R1 else R2) (a := a) (b := b) hbl (hK x hm) h1 h2 (smb x) [] rfl
  have r2 : List.range' 0 2 = [0, 1] := rfl
  rw [denK_loop]
  simp [kuC, Tryz.f28] at ih hloop ⊢
  by_cases hn : sma x = nm
  · simp [hb1, hb2, smD_A, hn, h1]
  · cases T with
    | true => simp [hb1, hb2, smD_A, hn, r2, kt, h1]
    | false =>
     cases C with
     | true => simp [hb1, hb2, smD_A, hn, r2, kt, kc, h1]
     | false =>
      simp [hb1, hb2, smD_A, hn, r2, kt, kc]
      rw [hloop]
      · cases usBs nm (smb x) <;> simp
      · simp [h1]
      · simp [w1, ih]
theorem kv_r {nm : Tx} {l : List Sm} (hln : l.length < 100000000) (hS : ∀ x ∈ l, lnS x) (hK : ∀ x ∈ l, ∀ c ∈ smb x, KV nm c) : KV nm l := by
 have h := fun k R1 R2 h1 h2 v X => ku_sloop nm l hln hS hK k R1 R2 h1 h2 l [] v X rfl
 unfold KV
 rw [run28 (by simp)]
 simp [kuC, Tryz.f28] at h ⊢
 rw [h _ (some (.ret (.d (.bool true)), [])) (some (.ret (.d (.bool false)), []))]
 · cases usMs nm l <;> simp
 · intro v X; simp
 · intro Y v X; simp
mutual
theorem kv_M {nm : Tx} : ∀ x : Sm, lnM x → lnS x ∧ ∀ c ∈ smb x, KV nm c
 | .mk op name to val conds labels fields blocks line, h => by
  have h := (lnM_A _).1 h
  exact ⟨h.1, kv_Bs blocks h.2⟩
theorem kv_Ms {nm : Tx} : ∀ l : List Sm, lnMs l → ∀ x ∈ l, lnS x ∧ ∀ c ∈ smb x, KV nm c
 | [], _, x, hx => by simp at hx
 | y :: r, h, x, hx => by
  simp only [lnMs] at h
  have h1 := kv_M (nm := nm) y h.1
  have h2 := kv_Ms (nm := nm) r h.2
  rcases List.mem_cons.1 hx with e | hx
  · rw [e]; exact h1
  · exact h2 x hx
theorem kv_Bs {nm : Tx} : ∀ l : List (List Sm), lnBs l → ∀ c ∈ l, KV nm c
 | [], _, c, hc => by simp at hc
 | b :: r, h, c, hc => by
  simp only [lnBs] at h
  have h1 := kv_Ms (nm := nm) b h.1.2
  have h2 := kv_Bs (nm := nm) r h.2
  rcases List.mem_cons.1 hc with e | hc
  · rw [e]; exact kv_r h.1.1 (fun x hx => (h1 x hx).1) (fun x hx => (h1 x hx).2)
  · exact h2 c hc
end
theorem kv_all {nm : Tx} {l : List Sm} (hln : l.length < 100000000) (h : lnMs l) : KV nm l :=
 kv_r hln (fun x hx => (kv_Ms (nm := nm) l h x hx).1) (fun x hx => (kv_Ms l h x hx).2)
@[simp] def bxEr (e : EL) : Cont := .box [.d (.int .i64 e.1), .d (.int .i64 e.2)]
@[simp] def smem (x : Sm) (e : EL) (w7 w8 w85 w9 w11 : Nat) (Y7 Y8 Y85 Y9 Y11 Y10 : Cont) (w10 : Nat) : List Ent := [⟨300, 1, bxS x⟩, ⟨400, 1, bxEr e⟩, ⟨450, 0, .dead⟩, ⟨600, 0, .dead⟩, ⟨750, w7, Y7⟩, ⟨800, w8, Y8⟩, ⟨850, w85, Y85⟩, ⟨950, w9, Y9⟩, ⟨1000, w10, Y10⟩, ⟨1150, w11, Y11⟩, ⟨1200, 0, .dead⟩, ⟨1250, 0, .dead⟩]
section
variable {vs : List Vr} {lp : Bool} {x : Sm}
end
def pgA : Pg := ⟨[112], [⟨[97], 1, 0, false, 0, 0, 0, 1⟩], [.mk 1 [] (.mk 3 0 [97] [] [] 1) (.mk 1 1 [] [] [] 1) [] [] [] [] 1, .mk 1 [] (.mk 3 0 [97] [] [] 2) (.mk 8 0 [] [] [.mk 3 0 [97] [] [] 2, .mk 2 1 [] [] [] 2] 2) [] [] [] [] 2]⟩
theorem pgA_fit : fitP pgA = true := by kernel_rfl
theorem pgA_check : checkP pgA = (10, 2) := by kernel_rfl
theorem pgA_nd : ndMs pgA.body < 50000000 := by decide
theorem pgA_kinds : callT ctx 27 [.d (.agg [.str pgA.name, .list (pgA.vars.map vrD), .list (pgA.body.map smD)])] [] = some (.ret (.tup [.d (.int .i64 10), .d (.int .i64 2)]), []) := by
 have h := kcheck_r pgA_fit pgA_nd
 rw [pgA_check] at h
 exact h
end Go.Am
end
section
namespace Go.Am
open Go
abbrev AnsT := Option (Out × List (Nat × Cont))
theorem hoistB (c : Prop) [Decidable c] (a b : Bool) (l : List (Nat × Cont)) : (if c then (some (Out.ret (.d (.bool a)), l) : AnsT) else some (Out.ret (.d (.bool b)), l)) = some (Out.ret (.d (.bool (if c then a else b))), l) := by split <;> rfl
theorem retB_iff (a b : Bool) (l : List (Nat × Cont)) : (some (Out.ret (.d (.bool a)), l) : AnsT) = some (Out.ret (.d (.bool b)), l) ↔ (a = true ↔ b = true) := by
 cases a <;> cases b <;> simp
end Go.Am
end
section
namespace Go.Am
open Go Go.Proofs
variable [Inhabited Mx2]
set_option maxRecDepth 20000
theorem wrap8_id {n : Int} (h1 : 0 ≤ n) (h2 : n ≤ 255) : IntKind.u8.wrap n = n := by
 simp [IntKind.wrap, IntKind.bits, IntKind.signed]
 omega
theorem letter_run (c : UInt8) : callT ctx 202 [.d (.int .u8 c.toNat)] [] = some (.ret (.d (.bool (letterB c))), []) := by
 rw [run202 (by simp)]
 simp [Tryz.f202, drwK_end]
 grind [letterB]
theorem digit_run (c : UInt8) : callT ctx 206 [.d (.int .u8 c.toNat)] [] = some (.ret (.d (.bool (digitB c))), []) := by
 rw [run206 (by simp)]
 simp [Tryz.f206, drwK_end]
 grind [digitB]
theorem inner_run (c : UInt8) : callT ctx 204 [.d (.int .u8 c.toNat)] [] = some (.ret (.d (.bool (innerB c))), []) := by
 rw [run204 (by simp)]
 simp [Tryz.f204, drwK_end, letter_run, digit_run]
 simp only [hoistB, retB_iff]
 grind [innerB]
theorem value_run (c : UInt8) : callT ctx 249 [.d (.int .u8 c.toNat)] [] = some (.ret (.d (.int .i64 (valB c))), []) := by
 rw [run249 (by simp)]
 simp [Tryz.f249, drwK_end, digit_run]
 have hc : c.toNat < 256 := c.toNat_lt
 have w : ∀ y : Int, -9223372036854775808 ≤ y → y ≤ 9223372036854775807 → IntKind.i64.wrap y = y := fun y h1 h2 => wrap_id ⟨h1, h2⟩
 have w8 : ∀ y : Int, 0 ≤ y → y ≤ 255 → IntKind.u8.wrap y = y := fun y h1 h2 => wrap8_id h1 h2
 grind [valB, digitB]
theorem strAt_eq {s : Tx} {i : Nat} (h : i < s.length) : strAt s i = s[i] := by simp [strAt, h]
theorem u8_eq (c : UInt8) (n : Nat) (hn : n < 256) : ((c.toNat : Int) = n) ↔ c = UInt8.ofNat n := by
 constructor
 · intro h
   have h : c.toNat = n := by omega
   rw [← h]; simp
 · rintro rfl
   simp; omega
@[simp] def rBox (s : Tx) (i : Nat) : Cont := .box [.d (.str s), .d (.int .i64 i), .d (.int .i64 (plOf (s.take i)).1), .d (.int .i64 (plOf (s.take i)).2)]
theorem rest_run (s : Tx) (i : Nat) (h : i ≤ s.length) : callT ctx 143 [.ptr 0 0 0] [rBox s i] = some (.ret (.d (.str (s.drop i))), [(0, rBox s i)]) := by
 rw [run143 (by simp)]
 simp [Tryz.f143, drwK_end, h]
theorem skip_loop (s : Tx) (i n : Nat) (h : i + n ≤ s.length) (hs : s.length ≤ 100000) (k : Kt) : ∀ (r j : Nat), j + r = n →
 denK ctx 145 (.loop (Code.at (codeOf Tryz.f145) [1, 0, 0])) ⟨42, gl0, [(0, true, .ptr 0 0 0), (4, true, .d (.int .i64 n)), (5, true, .d (.int .i64 j))], [⟨0, 0, rBox s (i + j)⟩]⟩ k =
  k (.exit 0) ⟨42, gl0, [(0, true, .ptr 0 0 0), (4, true, .d (.int .i64 n)), (5, true, .d (.int .i64 n)), (6, true, .d (.bool false))], [⟨0, 0, rBox s (i + n)⟩]⟩
 | 0, j, hj => by
  have hj : j = n := by omega
  subst hj
  rw [denK_loop]
  simp [Tryz.f145]
 | r + 1, j, hj => by
  have ih := skip_loop s i n h hs k r (j + 1) (by omega)
  have hlt : i + j < s.length := by omega
  have hb := plOf_take (s := s) (i := i + j)
  have hsu := plOf_succ hlt
  rw [show i + (j + 1) = i + j + 1 by omega] at ih
  generalize hp : plOf (s.take (i + j)) = p at *
  generalize hq : plOf (s.take (i + j + 1)) = q at *
  obtain ⟨l, c⟩ := p
  obtain ⟨l2, c2⟩ := q
  simp only at hb
  have w1 : IntKind.i64.wrap (c + 1) = c + 1 := wrap_id (by unfold I64; omega)
  have w2 : IntKind.i64.wrap (l + 1) = l + 1 := wrap_id (by unfold I64; omega)
  have w3 : IntKind.i64.wrap ((i : Int) + j + 1) = (i : Int) + j + 1 := wrap_id (by unfold I64; omega)
  have w4 : IntKind.i64.wrap ((j : Int) + 1) = (j : Int) + 1 := wrap_id (by unfold I64; omega)
  have hjn : j < n := by omega
  rw [denK_loop]
  simp [Tryz.f145, hp, hq] at ih ⊢
  have h0 : (0 : Int) ≤ (i : Int) + j := by omega
  have ht : ((i : Int) + j).toNat = i + j := by omega
  have hst := strAt_eq hlt
  have h10 := u8_eq s[i + j] 10 (by omega)
  simp at h10
  unfold plStep at hsu
  by_cases hc : s[i + j] = 10
  · rw [if_pos hc] at hsu
    cases hsu
    simp [hjn, w1, w2, w3, w4, hlt, drwK_end, h0, ht, hst, hc, ih]
  · rw [if_neg hc] at hsu
    cases hsu
    simp [hjn, w1, w2, w3, w4, hlt, drwK_end, h0, ht, hst, h10, hc, ih]
theorem skip_run (s : Tx) (i n : Nat) (h : i + n ≤ s.length) (hs : s.length ≤ 100000) : callT ctx 145 [.ptr 0 0 0, .d (.int .i64 n)] [rBox s i] = some (.ret (.tup []), [(0, rBox s (i + n))]) := by
 have hl := fun k => skip_loop s i n h hs k n 0 (by omega)
 rw [run145 (by simp)]
 simp [Tryz.f145] at hl ⊢
 simp [hl]
theorem indexByte_run (t : Tx) (c : UInt8) : callT ctx 200 [.d (.str t), .d (.int .u8 c.toNat)] [] = some (.ret (.d (.int .i64 (Go.Lib.indexByte t c))), []) := by
 rw [run200 (by simp)]
 simp [Tryz.f200, drwK_end]
set_option maxHeartbeats 1000000 in
theorem gap_loop (s : Tx) (hs : s.length ≤ 100000) (k : Kt) (R : Ans) : ∀ (f i : Nat), i ≤ s.length → s.length - i < f →
 (k .ret ⟨51, gl0, [(2, true, .d (.bool (gapC f (s.drop i)).2))], [⟨0, 0, rBox s (i + (gapC f (s.drop i)).1)⟩]⟩ = R) →
 denK ctx 142 (.loop (Code.at (codeOf Tryz.f142) [1, 0, 0])) ⟨51, gl0, [(0, true, .ptr 0 0 0)], [⟨0, 0, rBox s i⟩]⟩ k = R
 | 0, i, hi, hf, hk => by omega
 | f + 1, i, hi, hf, hk => by
  have hr := rest_run s i hi
  cases ht : s.drop i with
  | nil =>
   rw [ht] at hr hk
   simp [gapC] at hr hk
   rw [denK_loop]
   simp [Tryz.f142, hr, hk, drwK_end]
  | cons c r =>
   have hlen : i + (r.length + 1) = s.length := by have := congrArg List.length ht; simp at this; omega
   have hb1 := indexByte_run (c :: r) 10
   rw [indexByte_line] at hb1
   rw [ht] at hr hk
   unfold gapC at hk
   have hst : strAt (c :: r) 0 = c := rfl
   have hlb := lineN_le (c :: r)
   by_cases h1 : blankB c = true
   · rw [if_pos h1] at hk
     have hsk := skip_run s i 1 (by omega) hs
     have hd : s.drop (i + 1) = r := by rw [← List.tail_drop, ht]; rfl
     have ih := gap_loop s hs k R f (i + 1) (by omega) (by omega) (by rw [hd, show i + 1 + (gapC f r).1 = i + (1 + (gapC f r).1) by omega]; exact hk)
     simp [blankB] at h1
     rw [denK_loop]
     simp [Tryz.f142] at hr hsk ih ⊢
     rcases h1 with (h1 | h1) | h1 <;> simp [hr, hst, h1, hsk, ih, drwK_end]
   rw [if_neg h1] at hk
   have n1 : ¬ (c.toNat : Int) = 32 := fun h => h1 (by simp [blankB]; omega)
   have n2 : ¬ (c.toNat : Int) = 10 := fun h => h1 (by simp [blankB]; omega)
   have n3 : ¬ (c.toNat : Int) = 9 := fun h => h1 (by simp [blankB]; omega)
   have p1 := hasPrefix2 47 47 c r
   have p2 := hasPrefix2 40 42 c r
   by_cases h2 : c = 47 ∧ r.head? = some 47
   · rw [if_pos h2] at hk
     have p1 : Go.Lib.hasPrefix (c :: r) [47, 47] = true := by rw [p1]; simp [h2]
     have hsk := skip_run s i (lineN (c :: r)) (by simp at hlb; omega) hs
     have hd : s.drop (i + lineN (c :: r)) = (c :: r).drop (lineN (c :: r)) := by rw [← List.drop_drop, ht]
     have hpos : 0 < lineN (c :: r) := by simp [lineN, h2.1]
     have ih := gap_loop s hs k R f (i + lineN (c :: r)) (by simp at hlb; omega) (by omega) (by rw [hd, Nat.add_assoc]; exact hk)
     generalize lineN (c :: r) = n at *
     rw [denK_loop]
     by_cases hl : n < (c :: r).length
     · rw [if_pos hl] at hb1
       have hnn : ¬ ((n : Int) < 0) := by omega
       simp [Tryz.f142] at hr hsk ih hb1 ⊢
       simp [hr, hst, n1, n2, n3, p1, hb1, hnn, hsk, ih, drwK_end]
     · rw [if_neg hl] at hb1
       have hn : n = r.length + 1 := by simp at hl hlb; omega
       subst hn
       simp [Tryz.f142] at hr hsk ih hb1 ⊢
       simp [hr, hst, n1, n2, n3, p1, hb1, hsk, ih, drwK_end]
   rw [if_neg h2] at hk
   have p1 : Go.Lib.hasPrefix (c :: r) [47, 47] = false := by rw [p1]; simpa using h2
   by_cases h3 : c = 40 ∧ r.head? = some 42
   · rw [if_pos h3] at hk
     have p2 : Go.Lib.hasPrefix (c :: r) [40, 42] = true := by rw [p2]; simp [h3]
     have hi2 := index_end r.tail
     have h2l : (2 : Int) ≤ (r.length : Int) + 1 := by cases r with | nil => simp at h3 | cons d r => simp; omega
     have hb : r.length - 1 < 4294967281 := by omega
     cases hf2 : findEnd r.tail with
     | none =>
      rw [hf2] at hk hi2
      simp at hk hi2 hr
      rw [denK_loop]
      simp [Tryz.f142]
      simp [hr, hst, n1, n2, n3, p1, p2, h2l, hb, hi2, hk, drwK_end]
     | some m =>
      rw [hf2] at hk hi2
      have hm := findEnd_le hf2
      have hmt : r.tail.length = r.length - 1 := by simp
      have hsk := skip_run s i (m + 4) (by omega) hs
      have hd : s.drop (i + (m + 4)) = (c :: r).drop (m + 4) := by rw [← List.drop_drop, ht]
      have ih := gap_loop s hs k R f (i + (m + 4)) (by omega) (by omega) (by rw [hd, Nat.add_assoc]; exact hk)
      have hnn : ¬ ((m : Int) < 0) := by omega
      have w1 : IntKind.i64.wrap ((m : Int) + 4) = m + 4 := wrap_id (by unfold I64; omega)
      rw [denK_loop]
      simp [Tryz.f142] at hr hsk ih hi2 ⊢
      simp [hr, hst, n1, n2, n3, p1, p2, h2l, hb, hi2, hnn, w1, hsk, ih, drwK_end]
   rw [if_neg h3] at hk
   have p2 : Go.Lib.hasPrefix (c :: r) [40, 42] = false := by rw [p2]; simpa using h3
   simp at hk hr
   rw [denK_loop]
   simp [Tryz.f142]
   simp [hr, hst, n1, n2, n3, p1, p2, hk, drwK_end]
theorem gap_run (s : Tx) (i : Nat) (hi : i ≤ s.length) (hs : s.length ≤ 100000) (f : Nat) (hf : s.length - i < f) :
 callT ctx 142 [.ptr 0 0 0] [rBox s i] = some (.ret (.d (.bool (gapC f (s.drop i)).2)), [(0, rBox s (i + (gapC f (s.drop i)).1))]) := by
 have hl := fun k R => gap_loop s hs k R f i hi hf
 rw [run142 (by simp)]
 simp [Tryz.f142] at hl ⊢
 rw [hl]
 simp
theorem number1_run (c : UInt8) (b : Int) : callT ctx 248 [.d (.int .u8 c.toNat), .ptr 0 0 0] [.box [.d (.int .i64 b)]] = some (.ret (.d (.bool (decide ((valB c : Int) < b)))), [(0, .box [.d (.int .i64 b)])]) := by
 rw [run248 (by simp)]
 simp [Tryz.f248, drwK_end, value_run]
theorem whileA_loop (s : Tx) (hs : s.length ≤ 100000) (k : Kt) : ∀ (r n : Nat), n + r = s.length →
 denK ctx 203 (.loop (Code.at (codeOf Tryz.f203) [1, 1, 0, 0, 0])) ⟨20, gl0, [(0, true, .d (.str s)), (1, true, .fn 204 []), (5, true, .d (.int .i64 n))], []⟩ k =
  k (.exit 0) ⟨20, gl0, [(0, true, .d (.str s)), (1, true, .fn 204 []), (5, true, .d (.int .i64 (n + ((s.drop n).takeWhile innerB).length : Nat))), (16, true, .d (.bool false))], []⟩
 | 0, n, hn => by
  have hn : n = s.length := by omega
  subst hn
  rw [denK_loop]
  simp [Tryz.f203]
 | r + 1, n, hn => by
  have hlt : n < s.length := by omega
  have ih := whileA_loop s hs k r (n + 1) (by omega)
  have w1 : IntKind.i64.wrap ((n : Int) + 1) = (n : Int) + 1 := wrap_id (by unfold I64; omega)
  have hst := strAt_eq hlt
  have hin := inner_run s[n]
  have hd : s.drop n = s[n] :: s.drop (n + 1) := List.drop_eq_getElem_cons hlt
  rw [hd, List.takeWhile_cons]
  rw [denK_loop]
  cases hq : innerB s[n] with
  | true =>
   rw [hq] at hin
   have e : n + 1 + (List.takeWhile innerB (s.drop (n + 1))).length = n + ((List.takeWhile innerB (s.drop (n + 1))).length + 1) := by omega
   rw [e] at ih
   simp [Tryz.f203] at ih hin ⊢
   simp [hlt, hst, hin, w1, ih]
  | false =>
   rw [hq] at hin
   simp [Tryz.f203] at hin ⊢
   simp [hlt, hst, hin]
theorem whileA_run (s : Tx) (hs : s.length ≤ 100000) : callT ctx 203 [.d (.str s), .fn 204 []] [] = some (.ret (.d (.int .i64 (s.takeWhile innerB).length)), []) := by
 have hl := fun k => whileA_loop s hs k s.length 0 (by omega)
 rw [run203 (by simp)]
 simp [Tryz.f203] at hl ⊢
 simp [hl]
theorem whileB_loop (s : Tx) (hs : s.length ≤ 100000) (b : Nat) (k : Kt) : ∀ (r n : Nat), n + r = s.length →
 denK ctx 203 (.loop (Code.at (codeOf Tryz.f203) [1, 1, 0, 0, 0])) ⟨20, gl0, [(0, true, .d (.str s)), (1, true, .fn 248 [.ptr 0 0 0]), (5, true, .d (.int .i64 n))], [⟨0, 0, .box [.d (.int .i64 b)]⟩]⟩ k =
  k (.exit 0) ⟨20, gl0, [(0, true, .d (.str s)), (1, true, .fn 248 [.ptr 0 0 0]), (5, true, .d (.int .i64 (n + ((s.drop n).takeWhile (fun c => decide (valB c < b))).length : Nat))), (16, true, .d (.bool false))], [⟨0, 0, .box [.d (.int .i64 b)]⟩]⟩
 | 0, n, hn => by
  have hn : n = s.length := by omega
  subst hn
  rw [denK_loop]
  simp [Tryz.f203]
 | r + 1, n, hn => by
  have hlt : n < s.length := by omega
  have ih := whileB_loop s hs b k r (n + 1) (by omega)
  have w1 : IntKind.i64.wrap ((n : Int) + 1) = (n : Int) + 1 := wrap_id (by unfold I64; omega)
  have hst := strAt_eq hlt
  have hin := number1_run s[n] b
  have hd : s.drop n = s[n] :: s.drop (n + 1) := List.drop_eq_getElem_cons hlt
  rw [hd, List.takeWhile_cons]
  rw [denK_loop]
  by_cases hq : valB s[n] < b
  · have e : n + 1 + (List.takeWhile (fun c => decide (valB c < b)) (s.drop (n + 1))).length = n + ((List.takeWhile (fun c => decide (valB c < b)) (s.drop (n + 1))).length + 1) := by omega
    rw [e] at ih
    simp [Tryz.f203, hq] at ih hin ⊢
    simp [hlt, hst, hin, w1, ih]
  · simp [Tryz.f203, hq] at hin ⊢
    simp [hlt, hst, hin]
theorem whileB_run (s : Tx) (hs : s.length ≤ 100000) (b : Nat) : callT ctx 203 [.d (.str s), .fn 248 [.ptr 0 0 0]] [.box [.d (.int .i64 b)]] =
 some (.ret (.d (.int .i64 (s.takeWhile (fun c => decide (valB c < b))).length)), [(0, .box [.d (.int .i64 b)])]) := by
 have hl := fun k => whileB_loop s hs b k s.length 0 (by omega)
 rw [run203 (by simp)]
 simp [Tryz.f203] at hl ⊢
 simp [hl]
theorem valB_le (c : UInt8) : valB c ≤ 99 := by
 unfold valB digitB
 split
 · rename_i h; simp at h; omega
 · split <;> omega
set_option maxHeartbeats 1000000 in
theorem num_loop (s : Tx) (hs : s.length ≤ 100000) (b : Nat) (hb : 2 ≤ b ∧ b ≤ 16) (n v : Nat) (ct : Cont) (hn : n ≤ s.length) (k : Kt) (R : Ans) : ∀ (rest : Tx) (i x : Nat), (s.drop i).take rest.length = rest → i + rest.length = n → x ≤ 9223372036854775807 →
 (match valN b x rest with
  | none => k .ret ⟨83, gl0, [(2, true, .d (.int .i64 0)), (3, true, .d (.int .i64 0)), (4, true, .d (.int .i64 2))], [⟨350, 1, .box [.d (.int .i64 b)]⟩, ⟨500, v, ct⟩]⟩
  | some y => k (.exit 2) ⟨83, gl0, [(0, true, .d (.str s)), (5, true, .ptr 350 1 0), (9, true, .d (.int .i64 n)), (10, true, .d (.int .i64 y)), (11, true, .d (.int .i64 n)), (63, true, .d (.bool false))], [⟨350, 1, .box [.d (.int .i64 b)]⟩, ⟨500, v, ct⟩]⟩) = R →
 denK ctx 207 (.loop (Code.at (codeOf Tryz.f207) [1, 1, 1, 1, 1, 1, 0, 1, 0, 0])) ⟨83, gl0, [(0, true, .d (.str s)), (5, true, .ptr 350 1 0), (9, true, .d (.int .i64 n)), (10, true, .d (.int .i64 x)), (11, true, .d (.int .i64 i))], [⟨350, 1, .box [.d (.int .i64 b)]⟩, ⟨500, v, ct⟩]⟩ k = R
 | [], i, x, ht, hi, hx, hR => by
  have hi : i = n := by simpa using hi
  subst hi
  simp [valN] at hR
  rw [denK_loop]
  simp [Tryz.f207, hR]
 | c :: rest, i, x, ht, hi, hx, hR => by
  simp only [List.length_cons] at hi ht
  have hlt : i < s.length := by omega
  have hin : i < n := by omega
  have hd : s.drop i = s[i] :: s.drop (i + 1) := List.drop_eq_getElem_cons hlt
  rw [hd, List.take_succ_cons] at ht
  have hc : s[i] = c := (List.cons.inj ht).1
  have ht2 := (List.cons.inj ht).2
  have hst := strAt_eq hlt
  have hv := value_run c
  have hvl := valB_le c
  have w1 : IntKind.i64.wrap ((i : Int) + 1) = (i : Int) + 1 := wrap_id (by unfold I64; omega)
  have w2 : IntKind.i64.wrap (9223372036854775807 - (valB c : Int)) = ((9223372036854775807 - valB c : Nat) : Int) := by rw [wrap_id (by unfold I64; omega)]; omega
  have hqb : (9223372036854775807 - valB c) / b ≤ 9223372036854775807 := Nat.le_trans (Nat.div_le_self _ _) (Nat.sub_le _ _)
  have w3 : IntKind.i64.wrap (((9223372036854775807 - valB c : Nat) : Int) / (b : Int)) = (((9223372036854775807 - valB c) / b : Nat) : Int) := by
   rw [← Int.natCast_ediv]
   generalize (9223372036854775807 - valB c) / b = z at hqb
   exact wrap_id (by unfold I64; omega)
  have hb0 : b ≠ 0 := by omega
  unfold valN at hR
  rw [denK_loop]
  by_cases ho : (9223372036854775807 - valB c) / b < x
  · have ho' : ((9223372036854775807 - valB c : Nat) : Int) / (b : Int) < x := by rw [← Int.natCast_ediv]; exact Int.ofNat_lt.2 ho
    rw [if_pos ho] at hR
    simp at hR hv
    simp [Tryz.f207]
    simp [hin, hlt, hst, hc, hv, w2, w3, hb0, ho', hR]
  · have ho' : ¬ (((9223372036854775807 - valB c : Nat) : Int) / (b : Int) < x) := by rw [← Int.natCast_ediv]; exact fun h => ho (Int.ofNat_lt.1 h)
    rw [if_neg ho] at hR
    have hm : x * b ≤ 9223372036854775807 - valB c := by
     have h1 : x ≤ (9223372036854775807 - valB c) / b := by omega
     have := Nat.mul_le_mul_right b h1
     have h2 := Nat.div_mul_le_self (9223372036854775807 - valB c) b
     omega
    have hm2 : (x : Int) * (b : Int) = ((x * b : Nat) : Int) := by simp
    have w4 : IntKind.i64.wrap ((x : Int) * b) = ((x * b : Nat) : Int) := by rw [hm2]; exact wrap_id (by unfold I64; omega)
    have w5 : IntKind.i64.wrap (((x * b : Nat) : Int) + valB c) = ((x * b + valB c : Nat) : Int) := by rw [wrap_id (by unfold I64; omega)]; simp
    have ih := num_loop s hs b hb n v ct hn k R rest (i + 1) (x * b + valB c) ht2 (by omega) (by omega) hR
    generalize hxb : x * b + valB c = xb at *
    generalize x * b = xm at *
    simp [Tryz.f207] at ih ⊢
    simp [hin, hlt, hst, hc, hv, w1, w2, w3, w4, w5, hb0, ho', ih]
theorem pre_head {a : UInt8} {p s : Tx} (h : (a :: p).isPrefixOf s = true) : s.head? = some a ∧ p.length + 1 ≤ s.length := by
 have h' := List.isPrefixOf_iff_prefix.1 h
 refine ⟨?_, by simpa using h'.length_le⟩
 obtain ⟨t, rfl⟩ := h'
 rfl
theorem head_cases (s : Tx) : (Go.Lib.hasPrefix s [50, 35] = true ∧ Go.Lib.hasPrefix s [56, 35] = false ∧ Go.Lib.hasPrefix s [49, 54, 35] = false ∧ headN s = (2, 2) ∧ 2 ≤ s.length) ∨
 (Go.Lib.hasPrefix s [50, 35] = false ∧ Go.Lib.hasPrefix s [56, 35] = true ∧ Go.Lib.hasPrefix s [49, 54, 35] = false ∧ headN s = (8, 2) ∧ 2 ≤ s.length) ∨
 (Go.Lib.hasPrefix s [50, 35] = false ∧ Go.Lib.hasPrefix s [56, 35] = false ∧ Go.Lib.hasPrefix s [49, 54, 35] = true ∧ headN s = (16, 3) ∧ 3 ≤ s.length) ∨
 (Go.Lib.hasPrefix s [50, 35] = false ∧ Go.Lib.hasPrefix s [56, 35] = false ∧ Go.Lib.hasPrefix s [49, 54, 35] = false ∧ headN s = (10, 0) ∧ 0 ≤ s.length) := by
 unfold Go.Lib.hasPrefix headN
 have x1 : ([50, 35] : Tx).isPrefixOf s = true → ([56, 35] : Tx).isPrefixOf s = true → False := fun h g => by
  have h := (pre_head h).1; have g := (pre_head g).1; rw [h] at g; revert g; decide
 have x2 : ([50, 35] : Tx).isPrefixOf s = true → ([49, 54, 35] : Tx).isPrefixOf s = true → False := fun h g => by
  have h := (pre_head h).1; have g := (pre_head g).1; rw [h] at g; revert g; decide
 have x3 : ([56, 35] : Tx).isPrefixOf s = true → ([49, 54, 35] : Tx).isPrefixOf s = true → False := fun h g => by
  have h := (pre_head h).1; have g := (pre_head g).1; rw [h] at g; revert g; decide
 have l1 : ([50, 35] : Tx).isPrefixOf s = true → 2 ≤ s.length := fun h => (pre_head h).2
 have l2 : ([56, 35] : Tx).isPrefixOf s = true → 2 ≤ s.length := fun h => (pre_head h).2
 have l3 : ([49, 54, 35] : Tx).isPrefixOf s = true → 3 ≤ s.length := fun h => (pre_head h).2
 cases h2 : ([50, 35] : Tx).isPrefixOf s <;> cases h8 : ([56, 35] : Tx).isPrefixOf s <;> cases h16 : ([49, 54, 35] : Tx).isPrefixOf s <;> simp_all
set_option maxHeartbeats 2000000 in
theorem number_run (s : Tx) (hs : s.length ≤ 100000) : callT ctx 207 [.d (.str s)] [] = some (.ret (.tup [.d (.int .i64 (numF s).1), .d (.int .i64 (numF s).2.1), .d (.int .i64 (numF s).2.2)]), []) := by
 obtain ⟨b, h, hbh, hb, hhl⟩ : ∃ b h, headN s = (b, h) ∧ (2 ≤ b ∧ b ≤ 16) ∧ h ≤ s.length := by
  rcases head_cases s with ⟨_, _, _, e, hl⟩ | ⟨_, _, _, e, hl⟩ | ⟨_, _, _, e, hl⟩ | ⟨_, _, _, e, hl⟩ <;> exact ⟨_, _, e, by omega, by omega⟩
 have hw := whileB_run (s.drop h) (by simp; omega) b
 obtain ⟨ds, hds⟩ : ∃ ds, ds = (s.drop h).takeWhile (fun c => decide (valB c < b)) := ⟨_, rfl⟩
 rw [← hds] at hw
 have hdl : ds.length ≤ s.length - h := by
  have := (List.takeWhile_prefix (fun c => decide (valB c < b)) (l := s.drop h)).length_le
  rw [← hds] at this; simpa using this
 have hdt : (s.drop h).take ds.length = ds := by
  rw [hds]; exact List.prefix_iff_eq_take.1 (List.takeWhile_prefix _) |>.symm
 obtain ⟨n, hn⟩ : ∃ n, n = h + ds.length := ⟨_, rfl⟩
 have hns : n ≤ s.length := by omega
 have hloop := fun v ct k R => num_loop s hs b hb n v ct hns k R ds h 0 hdt hn.symm (by omega)
 have wn : IntKind.i64.wrap ((h : Int) + ds.length) = (n : Int) := by rw [wrap_id (by unfold I64; omega)]; omega
 have hn0 : ¬ ((n : Int) < 0) := by omega
 have hn1 : (0 : Int) ≤ n := by omega
 obtain ⟨F, hF⟩ : ∃ F : Nat × Nat × Nat, F = numG s b h ds := ⟨_, rfl⟩
 have hFF : numF s = F := by unfold numF; rw [hF, hbh]; simp only [← hds]
 rw [hFF]
 have c1 : IntKind.i64.wrap 1 = 1 := wrap_id (by unfold I64; omega)
 have c2 : IntKind.i64.wrap 2 = 2 := wrap_id (by unfold I64; omega)
 have c3 : IntKind.i64.wrap 3 = 3 := wrap_id (by unfold I64; omega)
 have r3 : List.range' 0 3 = [0, 1, 2] := rfl
 have key : ∀ (v : Nat) (ct : Cont) (k : Kt), n ≠ h → (n < s.length → innerB (strAt s n) = false ∧ strAt s n ≠ 35) →
  (∀ x, k (.exit 2) ⟨83, gl0, [(0, true, .d (.str s)), (5, true, .ptr 350 1 0), (9, true, .d (.int .i64 n)), (10, true, .d (.int .i64 x)), (11, true, .d (.int .i64 n)), (63, true, .d (.bool false))], [⟨350, 1, .box [.d (.int .i64 b)]⟩, ⟨500, v, ct⟩]⟩ = some (.ret (.tup [.d (.int .i64 n), .d (.int .i64 x), .d (.int .i64 0)]), [])) →
  (k .ret ⟨83, gl0, [(2, true, .d (.int .i64 0)), (3, true, .d (.int .i64 0)), (4, true, .d (.int .i64 2))], [⟨350, 1, .box [.d (.int .i64 b)]⟩, ⟨500, v, ct⟩]⟩ = some (.ret (.tup [.d (.int .i64 0), .d (.int .i64 0), .d (.int .i64 2)]), [])) →
  denK ctx 207 (.loop (Code.at (codeOf Tryz.f207) [1, 1, 1, 1, 1, 1, 0, 1, 0, 0])) ⟨83, gl0, [(0, true, .d (.str s)), (5, true, .ptr 350 1 0), (9, true, .d (.int .i64 n)), (10, true, .d (.int .i64 (0 : Nat))), (11, true, .d (.int .i64 h))], [⟨350, 1, .box [.d (.int .i64 b)]⟩, ⟨500, v, ct⟩]⟩ k =
   some (.ret (.tup [.d (.int .i64 F.1), .d (.int .i64 F.2.1), .d (.int .i64 F.2.2)]), []) := by
  intro v ct k h1 h2 h3 h4
  have hne : ¬ (ds = [] ∨ ∃ c, s[h + ds.length]? = some c ∧ (innerB c = true ∨ c = 35)) := by
   rintro (hc | ⟨c, hc, hc2⟩)
   · exact h1 (by rw [hn, hc]; rfl)
   · rw [← hn] at hc
     obtain ⟨hlt, hcc⟩ := List.getElem?_eq_some_iff.1 hc
     have h5 := h2 hlt
     rw [strAt_eq hlt, hcc] at h5
     rcases hc2 with hc2 | hc2
     · rw [h5.1] at hc2; cases hc2
     · exact h5.2 hc2
  unfold numG at hF
  rw [if_neg hne, ← hn] at hF
  refine hloop v ct k _ ?_
  cases hv : valN b 0 ds with
  | none => rw [hv] at hF; rw [hF]; exact h4
  | some x => rw [hv] at hF; rw [hF]; exact h3 x
 have err : ∀ c, n < s.length → strAt s n = c → (innerB c = true ∨ c = 35) → F = (0, 0, 5) := by
  intro c hlt hc hc2
  unfold numG at hF
  rw [hF, if_pos (.inr ⟨c, by rw [← hn, List.getElem?_eq_getElem hlt, ← strAt_eq hlt, hc], hc2⟩)]
 have err2 : n = h → F = (0, 0, 5) := by
  intro he
  unfold numG at hF
  rw [hF, if_pos (.inl (List.length_eq_zero_iff.1 (by omega)))]
 have hinr := inner_run (strAt s n)
 have h35 := u8_eq (strAt s n) 35 (by omega)
 simp at h35
 clear hF hloop
 rw [run207 (by simp)]
 rcases head_cases s with ⟨p1, p2, p3, e, hl⟩ | ⟨p1, p2, p3, e, hl⟩ | ⟨p1, p2, p3, e, hl⟩ | ⟨p1, p2, p3, e, hl⟩
 all_goals
  obtain ⟨h', hh'⟩ : ∃ h' : Nat, h' = h := ⟨_, rfl⟩
  rw [hbh] at e
  cases e
  have hlI := Int.ofNat_le.2 hl
  simp [Tryz.f207] at hw wn hlI key err2
  simp [Tryz.f207, r3]
  iterate 4 (rw [denK_loop]; simp [p1, p2, p3, c1, c2, c3, drwK_end])
  simp [hl, hlI, hw, wn]
  by_cases hnh : n = h'
  · have hFe := err2 (hnh.trans hh')
    rw [hh'] at hnh
    simp [hnh, hFe]
  · have hnI : ¬ ((n : Int) = (h' : Int)) := by omega
    rw [hh'] at hnI hnh
    simp at hnI
    by_cases hlt : n < s.length
    · cases hin : innerB (strAt s n)
      · rw [hin] at hinr
        by_cases h35' : strAt s n = 35
        · have hFe := err _ hlt h35' (.inr rfl)
          rw [h35'] at hinr
          simp at hinr
          simp [hnI, hlt, hinr, h35', hFe]
        · have h35n : ¬ ((strAt s n).toNat : Int) = 35 := fun h => h35' (h35.1 h)
          simp [hnI, hlt, hinr, h35n]
          exact key _ _ _ hnh (fun _ => ⟨hin, h35'⟩) (fun x => by simp) (by simp)
      · have hFe := err _ hlt rfl (.inl hin)
        rw [hin] at hinr
        simp [hnI, hlt, hinr, hFe]
    · simp [hnI, hlt]
      exact key _ _ _ hnh (fun h => absurd h hlt) (fun x => by simp) (by simp)
def idxR (s : Tx) : Nat → List Tx → Int
 | _, [] => -1
 | i, x :: r => if s = x then (i : Int) else idxR s (i + 1) r
theorem idxR_mem (s : Tx) : ∀ (l : List Tx) (i : Nat), decide (0 ≤ idxR s i l) = decide (s ∈ l)
 | [], i => by simp [idxR]
 | x :: r, i => by
  have := idxR_mem s r (i + 1)
  unfold idxR
  by_cases h : s = x
  · simp [h]
  · simp only [if_neg h, this]; simp [h]
theorem strIdx_loop (l : List Tx) (hl : l.length ≤ 1000) (s : Tx) (k : Kt) (R : Ans) : ∀ (rest : List Tx) (i : Nat), l.drop i = rest → i + rest.length = l.length →
 ((if 0 ≤ idxR s i rest then k .ret ⟨19, gl0, [(4, true, .d (.int .i64 (idxR s i rest)))], []⟩ else k (.exit 0) ⟨19, gl0, [(0, true, .d (.list (l.map .str))), (1, true, .d (.str s)), (7, true, .d (.int .i64 l.length)), (8, true, .d (.int .i64 l.length)), (9, true, .d (.bool false))], []⟩) = R) →
 denK ctx 261 (.loop (Code.at (codeOf Tryz.f261) [1, 0, 1, 0, 0])) ⟨19, gl0, [(0, true, .d (.list (l.map .str))), (1, true, .d (.str s)), (7, true, .d (.int .i64 l.length)), (8, true, .d (.int .i64 i))], []⟩ k = R
 | [], i, hd, hi, h => by
  have hi : i = l.length := by simpa using hi
  subst hi
  rw [denK_loop]
  simp [idxR] at h
  simp [Tryz.f261, h]
 | x :: rest, i, hd, hi, h => by
  have hlt : i < l.length := by simp at hi; omega
  have hx : l[i] = x := by
   have := congrArg (·[0]?) hd
   simp at this
   simpa [hlt] using this
  have w1 : IntKind.i64.wrap ((i : Int) + 1) = (i : Int) + 1 := wrap_id (by unfold I64; omega)
  unfold idxR at h
  rw [denK_loop]
  by_cases hs : s = x
  · simp [hs] at h
    simp [Tryz.f261]
    simp [hlt, hx, hs, h]
  · rw [if_neg hs] at h
    have ih := strIdx_loop l hl s k R rest (i + 1) (by rw [← List.tail_drop, hd]; rfl) (by simp at hi; omega) h
    simp [Tryz.f261] at ih ⊢
    simp [hlt, hx, hs, w1, ih]
theorem idxR_neg (s : Tx) : ∀ (l : List Tx) (i : Nat), ¬ 0 ≤ idxR s i l → idxR s i l = -1
 | [], i, _ => rfl
 | x :: r, i, h => by
  unfold idxR at h ⊢
  split
  · rename_i hs; rw [if_pos hs] at h; omega
  · rename_i hs; rw [if_neg hs] at h; exact idxR_neg s r (i + 1) h
theorem strIdx_run (l : List Tx) (hl : l.length ≤ 1000) (s : Tx) : callT ctx 261 [.d (.list (l.map .str)), .d (.str s)] [] = some (.ret (.d (.int .i64 (idxR s 0 l))), []) := by
 have hlo := fun k R h => strIdx_loop l hl s k R l 0 rfl (by simp) h
 rw [run261 (by simp)]
 simp [Tryz.f261] at hlo ⊢
 rw [hlo]
 split
 · simp
 · rename_i h; simp [idxR_neg s l 0 h]
theorem contains_run (l : List Tx) (hl : l.length ≤ 1000) (s : Tx) : callT ctx 222 [.d (.list (l.map .str)), .d (.str s)] [] = some (.ret (.d (.bool (decide (s ∈ l)))), []) := by
 have h := strIdx_run l hl s
 rw [run222 (by simp)]
 simp [Tryz.f222, h, ← idxR_mem s l 0]
theorem fields_run : callT ctx 166 [.d (.str wordsT)] [] = some (.ret (.d (.list (wordsL.map .str))), []) := callT_of 300 (by kernel_rfl)
theorem word_run (s : Tx) : callT ctx 205 [.d (.str s)] [] = some (.ret (.d (.bool (wordB s))), []) := by
 have hf := fields_run
 have hc := contains_run wordsL (by decide) s
 unfold wordsT at hf
 generalize wordsL.map D.str = W at hf hc
 rw [run205 (by simp)]
 simp [Tryz.f205, hf, hc, wordB]
theorem indexByte_mem (c : UInt8) : ∀ (l : Tx), 0 ≤ Go.Lib.indexByte l c ↔ c ∈ l
 | [] => by simp [Go.Lib.indexByte]
 | b :: r => by
  have ih := indexByte_mem c r
  have hg := Go.Lib.indexByte_ge r c
  unfold Go.Lib.indexByte
  by_cases h : b = c
  · simp [h]
  · have h' : ¬ c = b := fun e => h e.symm
    simp only [beq_iff_eq, h, if_false, List.mem_cons, h', false_or, ← ih]
    split <;> omega
theorem signF_eq (c : UInt8) (r : Tx) : signF (c :: r) = if Go.Lib.hasPrefix (c :: r) [58, 61] = true then 2 else if Go.Lib.hasPrefix (c :: r) [60, 61] = true then 2 else if Go.Lib.hasPrefix (c :: r) [62, 61] = true then 2 else if Go.Lib.hasPrefix (c :: r) [60, 62] = true then 2 else if Go.Lib.hasPrefix (c :: r) [46, 46] = true then 2 else if 0 ≤ Go.Lib.indexByte signs1 c then 1 else 0 := by
 have hm := indexByte_mem c signs1
 unfold signF signs2 Go.Lib.hasPrefix
 simp only [List.any_cons, List.any_nil, Bool.or_false, Bool.or_eq_true, hm]
 grind
theorem sign_run (c : UInt8) (r : Tx) : callT ctx 208 [.d (.str (c :: r))] [] = some (.ret (.d (.int .i64 (signF (c :: r)))), []) := by
 have r5 : List.range' 0 5 = [0, 1, 2, 3, 4] := rfl
 have c1 : IntKind.i64.wrap 1 = 1 := wrap_id (by unfold I64; omega)
 have c2 : IntKind.i64.wrap 2 = 2 := wrap_id (by unfold I64; omega)
 have c3 : IntKind.i64.wrap 3 = 3 := wrap_id (by unfold I64; omega)
 have c4 : IntKind.i64.wrap 4 = 4 := wrap_id (by unfold I64; omega)
 have c5 : IntKind.i64.wrap 5 = 5 := wrap_id (by unfold I64; omega)
 have hb := indexByte_run signs1 c
 rw [run208 (by simp)]
 simp [Tryz.f208, r5]
 iterate 6 (try (rw [denK_loop]; simp [c1, c2, c3, c4, c5, drwK_end]))
 have hst : strAt (c :: r) 0 = c := rfl
 rw [signF_eq]
 unfold signs1 at hb ⊢
 simp [hst, hb]
 grind
theorem numF_le (s : Tx) : (numF s).1 ≤ s.length := by
 unfold numF numG
 rcases head_cases s with ⟨_, _, _, e, hl⟩ | ⟨_, _, _, e, hl⟩ | ⟨_, _, _, e, hl⟩ | ⟨_, _, _, e, hl⟩
 all_goals
  rw [e]
  simp only
  split
  · simp
  · split
    · simp
    · rename_i x _
      simp only
      have := (List.takeWhile_prefix (fun c => decide (valB c < (headN s).1)) (l := s.drop (headN s).2)).length_le
      rw [e] at this
      simp only [List.length_drop] at this
      omega
theorem signF_le (c : UInt8) (r : Tx) : signF (c :: r) ≤ (c :: r).length := by
 unfold signF
 split
 · rename_i h
   simp only [signs2, List.any_cons, List.any_nil, Bool.or_false, Bool.or_eq_true] at h
   rcases h with h | h | h | h | h <;> exact (pre_head h).2
 · simp only
   split <;> simp
set_option maxHeartbeats 1000000 in
theorem next_run (c : UInt8) (r : Tx) (hs : (c :: r).length ≤ 100000) (line col : Int) : callT ctx 144 [.d (.str (c :: r)), .d (sgnD ⟨0, [], 0, line, col⟩)] [] =
 some (.ret (.tup [.d (sgnD ⟨(nextF (c :: r)).2.1, (c :: r).take (nextF (c :: r)).2.2.1, (nextF (c :: r)).2.2.2, line, col⟩), .d (.int .i64 (nextF (c :: r)).1)]), []) := by
 have hst : strAt (c :: r) 0 = c := rfl
 have hl := letter_run c
 have hd := digit_run c
 have hw := whileA_run (c :: r) hs
 have hnr := number_run (c :: r) hs
 have hsg := sign_run c r
 have hwle : ((c :: r).takeWhile innerB).length ≤ (c :: r).length := (List.takeWhile_prefix _).length_le
 have hnle := numF_le (c :: r)
 have hsle := signF_le c r
 have hwd := word_run ((c :: r).take ((c :: r).takeWhile innerB).length)
 unfold nextF
 generalize hn1 : ((c :: r).takeWhile innerB).length = n1 at *
 generalize hn2 : signF (c :: r) = n2 at *
 generalize hF : numF (c :: r) = F at *
 obtain ⟨n, x, e⟩ := F
 simp only at hnr hnle
 rw [run144 (by simp)]
 simp only [List.length_cons] at hwle hnle hsle
 cases h1 : letterB c with
 | true =>
  rw [h1] at hl
  cases h2 : wordB ((c :: r).take n1) with
  | true =>
   rw [h2] at hwd
   simp [Tryz.f144, drwK_end, hst, hl, hw, hwle, hwd, h1, h2]
  | false =>
   rw [h2] at hwd
   by_cases h3 : 16 < n1
   · simp [Tryz.f144, drwK_end, hst, hl, hw, hwle, hwd, h1, h2, h3]
     omega
   · simp [Tryz.f144, drwK_end, hst, hl, hw, hwle, hwd, h1, h2, h3]
     omega
 | false =>
  rw [h1] at hl
  cases h2 : digitB c with
  | true =>
   rw [h2] at hd
   by_cases h3 : e = 0
   · simp [Tryz.f144, drwK_end, hst, hl, hd, hnr, hnle, h1, h2, h3]
   · simp [Tryz.f144, drwK_end, hst, hl, hd, hnr, hnle, h1, h2, h3]
  | false =>
   rw [h2] at hd
   by_cases h3 : n2 = 0
   · simp [Tryz.f144, drwK_end, hst, hl, hd, hsg, hsle, h1, h2, h3]
   · simp [Tryz.f144, drwK_end, hst, hl, hd, hsg, hsle, h1, h2, h3]
theorem numF_pos {s : Tx} (h : (numF s).2.2 = 0) : 1 ≤ (numF s).1 := by
 unfold numF numG at h ⊢
 split
 · rename_i hc; rw [if_pos hc] at h; simp at h
 · rename_i hc
   rw [if_neg hc] at h
   split
   · rename_i hv; rw [hv] at h; simp at h
   · simp only
     simp only [not_or] at hc
     have := List.length_pos_iff.2 hc.1
     omega
theorem nextF_ok {c : UInt8} {r : Tx} (h : (nextF (c :: r)).1 = 0) : 1 ≤ (nextF (c :: r)).2.2.1 ∧ (nextF (c :: r)).2.2.1 ≤ (c :: r).length := by
 have hwle : ((c :: r).takeWhile innerB).length ≤ (c :: r).length := (List.takeWhile_prefix _).length_le
 have hnle := numF_le (c :: r)
 have hsle := signF_le c r
 have hlp : letterB c = true → 1 ≤ ((c :: r).takeWhile innerB).length := by
  intro hl
  have : innerB c = true := by unfold innerB; rw [hl]; rfl
  simp [this]
 have hnp := numF_pos (s := c :: r)
 unfold nextF at h ⊢
 simp only at h ⊢
 generalize ((c :: r).takeWhile innerB).length = n1 at *
 generalize signF (c :: r) = n2 at *
 generalize numF (c :: r) = F at *
 by_cases h1 : letterB c = true
 · simp only [if_pos h1] at h ⊢
   have := hlp h1
   split at h
   · rename_i hw; rw [if_pos hw]; exact ⟨this, hwle⟩
   · rename_i hw
     rw [if_neg hw]
     split at h
     · simp at h
     · rename_i h16; rw [if_neg h16]; exact ⟨this, hwle⟩
 · simp only [if_neg h1] at h ⊢
   by_cases h2 : digitB c = true
   · simp only [if_pos h2] at h ⊢
     split at h
     · rename_i he; rw [if_pos he]; exact ⟨hnp he, hnle⟩
     · rename_i he; exact absurd h he
   · simp only [if_neg h2] at h ⊢
     split at h
     · simp at h
     · rename_i he; rw [if_neg he]; exact ⟨by simp only; omega, hsle⟩
set_option maxHeartbeats 1000000 in
theorem lex_loop (s : Tx) (hs : s.length ≤ 16384) : ∀ (f i : Nat) (out : List Sgn) (v4 v5 v55 : Nat) (c5 c55 : Cont), i ≤ s.length → s.length - i < f → out.length ≤ i →
 denK ctx 98 (.loop (Code.at (codeOf Tryz.f98) [1, 1, 1, 1, 0, 0])) ⟨62, gl0, [(4, true, .ptr 300 1 0), (5, true, .ptr 950 1 0), (6, true, .vec 400 v4 0 out.length)],
  [⟨200, 1, .vec 5 []⟩, ⟨300, 1, .box [.d (.int .i64 0), .d (.str []), .d (.int .i64 0), .d (.int .i64 0), .d (.int .i64 0)]⟩, ⟨400, v4, .vec 5 (out.map sgnD)⟩, ⟨500, v5, c5⟩, ⟨550, v55, c55⟩, ⟨950, 1, rBox s i⟩]⟩
  (blkK 0 (finK Tryz.prog fp98 0 [.tmp 2, .tmp 3, .cell 4 104])) = some (.ret (.tup [.d (.list ((lexF s f i out).1.map sgnD)), .d (.int .i64 (lexF s f i out).2.1), .d (sgnD (lexF s f i out).2.2)]), [])
 | 0, i, out, v4, v5, v55, c5, c55, hi, hf, ho => by omega
 | f + 1, i, out, v4, v5, v55, c5, c55, hi, hf, ho => by
  have hg := gap_run s i hi (by omega) (s.length + 1) (by omega)
  have hgl := gapC_le (s.length + 1) (s.drop i)
  unfold lexF
  generalize gapC (s.length + 1) (s.drop i) = g at *
  obtain ⟨n, ok⟩ := g
  simp only [List.length_drop] at hgl
  simp only at hg ⊢
  obtain ⟨j, hj⟩ : ∃ j, j = i + n := ⟨_, rfl⟩
  have hjl : j ≤ s.length := by omega
  have hcast : ((i + n : Nat) : Int) = (i : Int) + n := by omega
  rw [← hj] at hg ⊢
  have hr := rest_run s j hjl
  generalize hp : plOf (s.take j) = p at *
  obtain ⟨l, c⟩ := p
  rw [denK_loop]
  cases ok with
  | false =>
   simp [hp] at hg
   simp [Tryz.f98, drwK_end, hg, here]
  | true =>
   simp only [Bool.true_eq_false, if_false]
   cases ht : s.drop j with
   | nil =>
    rw [ht] at hr
    simp [hp] at hg hr
    have g1 : (out.length + 1) * 48 ≤ 140737488355328 ∧ out.length ≤ 4611686018427387903 := by omega
    simp [Tryz.f98, drwK_end, hg, hr, here, g1]
   | cons a r =>
    rw [ht] at hr
    have hlen : j + (r.length + 1) = s.length := by have := congrArg List.length ht; simp at this; omega
    have hn := next_run a r (by simp; omega) l c
    have hok := nextF_ok (c := a) (r := r)
    have hne : ¬ (a :: r = []) := by simp
    simp only [if_neg hne]
    generalize nextF (a :: r) = F at *
    obtain ⟨e, kd, m, x⟩ := F
    simp only at hn hok ⊢
    simp [hp] at hg hr
    have g1 : (out.length + 1) * 48 ≤ 140737488355328 ∧ out.length ≤ 4611686018427387903 := by omega
    by_cases he : e = 0
    · subst he
      obtain ⟨hm1, hm2⟩ := hok rfl
      simp only [List.length_cons] at hm2
      have hsk := skip_run s j m (by omega) (by omega)
      have ih := fun v4 v5 v55 c5 c55 => lex_loop s hs f (j + m) (out ++ [⟨kd, (a :: r).take m, x, l, c⟩]) v4 v5 v55 c5 c55 (by omega) (by omega) (by simp; omega)
      have hmin : min m (r.length + 1) = m := by omega
      have hminI : ((min m (r.length + 1) : Nat) : Int) = m := by rw [hmin]
      simp at hn
      simp [Tryz.f98, hp] at ih hsk ⊢
      simp [drwK_end, hg, hr, hn, g1, hmin, hsk, ih]
    · simp at hn
      have heI : ¬ ((e : Int) = 0) := by omega
      simp [Tryz.f98, drwK_end, hg, hr, hn, he, heI, here]
theorem lex_run (s : Tx) : callT ctx 98 [.d (.str s)] [] = some (.ret (.tup [.d (.list ((lexP s).1.map sgnD)), .d (.int .i64 (lexP s).2.1), .d (sgnD (lexP s).2.2)]), []) := by
 rw [run98 (by simp)]
 unfold lexP
 by_cases h : 16384 < s.length
 · have hI : (16384 : Int) < s.length := by omega
   simp [Tryz.f98, drwK_end, h, hI]
 · have hI : ¬ ((16384 : Int) < s.length) := by omega
   have hl := fun v4 v5 v55 c5 c55 => lex_loop s (by omega) (s.length + 1) 0 [] v4 v5 v55 c5 c55 (by omega) (by omega) (by simp)
   rw [if_neg h]
   generalize lexF s (s.length + 1) 0 [] = L at *
   have hp : plOf [] = (1, 1) := rfl
   simp [Tryz.f98, hp] at hl
   simp [Tryz.f98, drwK_end, h, hI]
   exact hl _ _ _ _ _
end Go.Am
end
section
namespace Go.Am
open Go Go.Proofs
variable [Inhabited Mx2]
set_option maxRecDepth 100000
theorem recq_ok (x y b1 c1 c2 c3 c4 c5 : D) (rows : List D) : recT ctx 99 [.ptr 0 0 0, .ptr 1 0 0, .ptr 2 0 0, .lit .nilIface] [.box [.d x, .vec 3 0 0 rows.length, .d y], .box [.d b1], .box [.d c1, .d c2, .d c3, .d c4, .d c5], .vec 8 rows] =
 some (.ret (.tup []), [(0, .box [.d x, .vec 3 1 0 rows.length, .d y]), (0, .box [.d b1]), (0, .box [.d c1, .d c2, .d c3, .d c4, .d c5]), (1, .vec 8 rows)]) := by
 rw [run99 (by rfl) (by rfl) (by simp)]
 simp [Tryz.f99]
 erw [denRK_reg rfl]
 simp
def awTx : Tx := [80, 82, 79, 71, 82, 65, 77, 32, 112, 32, 86, 65, 82, 32, 97, 32, 58, 32, 73, 78, 84, 59, 32, 69, 78, 68, 95, 86, 65, 82, 32, 97, 32, 58, 61, 32, 49, 59] ++ [10] ++ [97, 32, 58, 61, 32, 97, 32, 43, 32, 84, 82, 85, 69, 59, 32, 69, 78, 68, 95, 80, 82, 79, 71, 82, 65, 77]
def awTk : List Sgn := [⟨2, [80, 82, 79, 71, 82, 65, 77], 0, 1, 1⟩, ⟨1, [112], 0, 1, 9⟩, ⟨2, [86, 65, 82], 0, 1, 11⟩, ⟨1, [97], 0, 1, 15⟩, ⟨4, [58], 0, 1, 17⟩, ⟨2, [73, 78, 84], 0, 1, 19⟩, ⟨4, [59], 0, 1, 22⟩, ⟨2, [69, 78, 68, 95, 86, 65, 82], 0, 1, 24⟩,
 ⟨1, [97], 0, 1, 32⟩, ⟨4, [58, 61], 0, 1, 34⟩, ⟨3, [49], 1, 1, 37⟩, ⟨4, [59], 0, 1, 38⟩, ⟨1, [97], 0, 2, 1⟩, ⟨4, [58, 61], 0, 2, 3⟩, ⟨1, [97], 0, 2, 6⟩, ⟨4, [43], 0, 2, 8⟩, ⟨2, [84, 82, 85, 69], 0, 2, 10⟩, ⟨4, [59], 0, 2, 14⟩, ⟨2, [69, 78, 68, 95, 80, 82, 79, 71, 82, 65, 77], 0, 2, 16⟩, ⟨0, [], 0, 2, 27⟩]
theorem awTx_lex : lexP awTx = (awTk, 0, ⟨0, [], 0, 0, 0⟩) := by kernel_rfl
theorem aw_prog : callT ctx 100 [.ptr 0 0 0] [.box [.d (.list (awTk.map sgnD)), .d (.int .i64 0), .d (.int .i64 0), .vec 1 0 0 0], .vec 8 []] =
 some (.ret (.agg [.d (.str pgA.name), .vec 1 1 0 1, .d (.list (pgA.body.map smD))]), [(0, .box [.d (.list (awTk.map sgnD)), .d (.int .i64 19), .d (.int .i64 0), .vec 1 1 0 1]), (1, .vec 8 (pgA.vars.map vrD))]) := callT_of 300 (by kernel_rfl)
theorem aw20_r : callT ctx 26 [] [] = some (.ret (.d (.bool true)), []) := by
 have hl := lex_run awTx
 rw [awTx_lex] at hl
 have hp := aw_prog
 have hr := fun x y b1 c1 c2 c3 c4 c5 => recq_ok x y b1 c1 c2 c3 c4 c5 (pgA.vars.map vrD)
 have hk := pgA_kinds
 have e1 : (pgA.vars.map vrD).length = 1 := rfl
 have e2 : ∃ R, pgA.vars.map vrD = R ∧ R.length = 1 := ⟨_, rfl, rfl⟩
 obtain ⟨R, hR, hRl⟩ := e2
 rw [hR] at hp hr hk
 rw [hRl] at hr
 generalize pgA.name = a at *
 generalize pgA.body.map smD = c at *
 simp only at hl
 generalize awTk.map sgnD = T at *
 have e3 : List.take 1 R = R := by rw [← hRl]; exact List.take_length
 have hP : callT ctx 64 [.d (.str awTx)] [] = some (.ret (.tup [.d (.agg [.str a, .list R, .list c]), .d (.int .i64 0), .d (.agg [.int .i64 0, .str [], .int .i64 0, .int .i64 0, .int .i64 0])]), []) := by
  rw [run64 (by simp)]
  simp at hl hr hp
  simp [Tryz.f64, hasDef, isDefer, deferOf, dfv, hl, drwK_end, hp, hr, hRl, e3]
 rw [run26 (by simp)]
 simp [awTx] at hP
 simp [Tryz.f26, hP, hk]
end Go.Am
end
section
namespace Go.Am
open Go Go.Proofs
variable [Inhabited Mx2]
set_option maxRecDepth 20000
theorem fitP_out {nm : Tx} {a b : List Vr} {v : Vr} {body : List Sm} (h : fitP ⟨nm, a ++ v :: b, body⟩ = true) : fitP ⟨nm, a ++ b, body⟩ = true := by
 simp only [fitP, Bool.and_eq_true, decide_eq_true_eq, List.all_append, List.all_cons, List.length_append, List.length_cons] at h ⊢
 exact ⟨h.1, by omega, ⟨h.2.2.1.1, h.2.2.1.2.2⟩, h.2.2.2⟩
theorem kindsNames_go {p : Pg} {kk : Int} (hb : p.body.length < 100000000) (hl : lnMs p.body) (hn : ndMs p.body < 50000000) (hk : I64 kk) : callT ctx 6 [.d (.agg [.str p.name, .list (p.vars.map vrD), .list (p.body.map smD)]), .d (.int .i64 kk)] [] = some (.ret (.d (.bool true)), []) := by
 obtain ⟨B, hsh⟩ := short_r hb hl
 have hfi := fits_r hb hl
 have haw := aw20_r
 rw [run6 (by simp)]
 cases B with
 | false => simp [Tryz.f6, haw, hsh]
 | true =>
  cases hf : fitP p with
  | false =>
   rw [hf] at hfi
   simp [Tryz.f6, haw, hsh, hfi]
  | true =>
   rw [hf] at hfi
   by_cases h0 : kk < 0
   · simp [Tryz.f6, haw, hsh, hfi, h0]
   · by_cases h1 : (p.vars.length : Int) ≤ kk
     · simp [Tryz.f6, haw, hsh, hfi, h0, h1]
     · obtain ⟨j, rfl⟩ : ∃ j : Nat, kk = j := ⟨kk.toNat, by omega⟩
       have hj : j < p.vars.length := by omega
       have hkc := kcheck_r hf hn
       by_cases hc : (checkP p).1 = 0
       · have hsplit : p.vars = p.vars.take j ++ p.vars[j] :: p.vars.drop (j + 1) := by simp
         have hl2 := names_law hsplit hf hc
         have hfo : fitP ⟨p.name, p.vars.take j ++ p.vars.drop (j + 1), p.body⟩ = true := by
          refine fitP_out (v := p.vars[j]) ?_
          rw [← hsplit]; exact hf
         have hk2 := kcheck_r hfo hn
         have hu := kv_all (nm := p.vars[j].name) hb hl
         unfold KV at hu
         have hl64 : p.vars.length ≤ 64 := by
          simp only [fitP, Bool.and_eq_true, decide_eq_true_eq] at hf
          exact hf.2.1
         have w1 : IntKind.i64.wrap ((j : Int) + 1) = (j : Int) + 1 := wrap_id (by unfold I64; omega)
         simp only [ckR] at hkc hk2
         simp [hc] at hkc
         generalize checkP ⟨p.name, p.vars.take j ++ p.vars.drop (j + 1), p.body⟩ = E at *
         have hv : vrD p.vars[j] = .agg [.str p.vars[j].name, .int .i64 p.vars[j].ty, .int .i64 p.vars[j].sec, .bool p.vars[j].arr, .int .i64 p.vars[j].lo, .int .i64 p.vars[j].hi, .int .i64 p.vars[j].init, .int .i64 p.vars[j].line] := rfl
         have hmin : min j p.vars.length = j := by omega
         have hsz : ∀ a : Vr, (vrD a).size = 8 := fun a => rfl
         have hT : ∀ d ∈ List.take j (List.map vrD p.vars), d.size = 8 := fun d hd => by
          obtain ⟨a, _, rfl⟩ := List.mem_map.1 (List.mem_of_mem_take hd)
          rfl
         have hD : ∀ d ∈ List.drop (j + 1) (List.map vrD p.vars), d.size = 8 := fun d hd => by
          obtain ⟨a, _, rfl⟩ := List.mem_map.1 (List.mem_of_mem_drop hd)
          rfl
         have g1 : j ≤ p.vars.length := by omega
         have g2 : j * 72 ≤ 140737488355328 := by omega
         have g3 : j ≤ 4611686018427387904 := by omega
         have g4 : (0 : Int) ≤ (j : Int) + 1 := by omega
         have g5 : (j : Int) + 1 ≤ p.vars.length := by omega
         have g6 : (j + (p.vars.length - (j + 1))) * 72 ≤ 140737488355328 := by omega
         have g7 : j + (p.vars.length - (j + 1)) ≤ 4611686018427387904 := by omega
         have g8 : p.vars.length - 1 = j + (p.vars.length - (j + 1)) := by omega
         simp only [List.map_append, List.map_take, List.map_drop] at hk2
         have hlen : (List.take j (List.map vrD p.vars) ++ List.drop (j + 1) (List.map vrD p.vars)).length = j + (p.vars.length - (j + 1)) := by simp; omega
         have htk : List.take (j + (p.vars.length - (j + 1))) (List.take j (List.map vrD p.vars) ++ List.drop (j + 1) (List.map vrD p.vars)) = List.take j (List.map vrD p.vars) ++ List.drop (j + 1) (List.map vrD p.vars) := by rw [← hlen]; exact List.take_length
         have hget : p.vars[j]? = some p.vars[j] := by simp [hj]
         simp [Tryz.f6, haw, hsh, hfi, h0, h1, hkc, drwK_end, w1, hmin, hsz, g1, g2, g3, g4, g5, g6, g7, hk2, htk, hj, hget, hv, hu]
         refine ⟨hT, hD, ?_⟩
         clear hsplit hfo hk2 hkc hu
         generalize usMs p.vars[j].name p.body = U at *
         cases U <;> simp at hl2 <;> simp [hl2]
       · have hz : (ckR (checkP p)).1 ≠ 0 := by unfold ckR; rw [if_neg hc]; exact hc
         generalize ckR (checkP p) = E at *
         simp [Tryz.f6, haw, hsh, hfi, h0, h1, hkc, hz]
end Go.Am
end
section
namespace Go.Am
open Go
mutual
def litX : Ex → Bool
 | .mk _ n _ _ sub _ => decide (-9223372036854775808 ≤ n ∧ n ≤ 9223372036854775807) && litXs sub
def litXs : List Ex → Bool
 | [] => true
 | x :: r => litX x && litXs r
end
def i64B (n : Int) : Bool := decide (-9223372036854775808 ≤ n ∧ n ≤ 9223372036854775807)
mutual
def litM : Sm → Bool
 | .mk _ _ to val conds labels _ blocks _ => litX to && (litX val && (litXs conds && (labels.all (fun l => l.all i64B) && litBs blocks)))
def litMs : List Sm → Bool
 | [] => true
 | x :: r => litM x && litMs r
def litBs : List (List Sm) → Bool
 | [] => true
 | b :: r => litMs b && litBs r
end
end Go.Am
end
section
namespace Go.Am
open Go Go.Proofs
variable [Inhabited Mx2]
set_option maxRecDepth 20000
theorem typed_pos {P : Program} {n : Nat} {t : TypeId} {d : D} (h : typed P n t d) : ∃ m, n = m + 1 := by
 cases n with
 | zero => exact h.elim
 | succ m => exact ⟨m, rfl⟩
theorem tq_int {P : Program} {n : Nat} {t : TypeId} {d : D} (ht : P.underlying t = some (.int .i64)) (h : typed P n t d) : ∃ z, d = .int .i64 z ∧ i64B z = true := by
 obtain ⟨m, rfl⟩ := typed_pos h
 obtain ⟨z, rfl, hw⟩ := typed_int ht h
 refine ⟨z, rfl, ?_⟩
 have h2 : I64 z := by
  simp [Lit.wf] at hw
  unfold I64
  have e1 : IntKind.i64.min = -9223372036854775808 := by decide
  have e2 : IntKind.i64.max = 9223372036854775807 := by decide
  simp only [e1, e2] at hw
  omega
 unfold I64 at h2
 unfold i64B
 simp only [decide_eq_true_eq]
 exact h2
theorem tq_bool {P : Program} {n : Nat} {t : TypeId} {d : D} (ht : P.underlying t = some .bool) (h : typed P n t d) : ∃ b, d = .bool b := by
 obtain ⟨m, rfl⟩ := typed_pos h
 exact typed_bool ht h
theorem tq_string {P : Program} {n : Nat} {t : TypeId} {d : D} (ht : P.underlying t = some .string) (h : typed P n t d) : ∃ s, d = .str s := by
 obtain ⟨m, rfl⟩ := typed_pos h
 obtain ⟨s, rfl, _⟩ := typed_string ht h
 exact ⟨s, rfl⟩
theorem tq_slice {P : Program} {n : Nat} {t e : TypeId} {d : D} (ht : P.underlying t = some (.slice e)) (h : typed P n t d) : ∃ xs m, m < n ∧ d = .list xs ∧ ∀ x ∈ xs, typed P m e x := by
 obtain ⟨m, rfl⟩ := typed_pos h
 obtain ⟨xs, rfl, _, hx⟩ := typed_slice ht h
 exact ⟨xs, m, by omega, rfl, hx⟩
theorem tq_struct {P : Program} {n : Nat} {t : TypeId} {d : D} {fs : Array Field} (ht : P.underlying t = some (.struct fs)) (h : typed P n t d) : ∃ ds m, m < n ∧ d = .agg ds ∧ fieldsT P m fs.toList ds := by
 obtain ⟨m, rfl⟩ := typed_pos h
 obtain ⟨ds, rfl, hf⟩ := typed_struct ht h
 exact ⟨ds, m, by omega, rfl, hf⟩
theorem list_map_of2 {α : Type} {f : α → D} {Q : α → Prop} : ∀ {xs : List D}, (∀ x ∈ xs, ∃ r, x = f r ∧ Q r) → ∃ rs : List α, xs = rs.map f ∧ ∀ r ∈ rs, Q r
 | [], _ => ⟨[], rfl, fun r h => by cases h⟩
 | x :: xs, h => by
  obtain ⟨r, rfl, hr⟩ := h x (by simp)
  obtain ⟨rs, rfl, hrs⟩ := list_map_of2 (xs := xs) (fun y hy => h y (by simp [hy]))
  exact ⟨r :: rs, rfl, fun y hy => by
   rcases List.mem_cons.1 hy with rfl | hy
   · exact hr
   · exact hrs y hy⟩
theorem litXs_of : ∀ {l : List Ex}, (∀ x ∈ l, litX x = true) → litXs l = true
 | [], _ => by simp [litXs]
 | x :: r, h => by simp only [litXs, Bool.and_eq_true]; exact ⟨h x (by simp), litXs_of fun y hy => h y (by simp [hy])⟩
theorem litMs_of : ∀ {l : List Sm}, (∀ x ∈ l, litM x = true) → litMs l = true
 | [], _ => by simp [litMs]
 | x :: r, h => by simp only [litMs, Bool.and_eq_true]; exact ⟨h x (by simp), litMs_of fun y hy => h y (by simp [hy])⟩
theorem litBs_of : ∀ {l : List (List Sm)}, (∀ x ∈ l, litMs x = true) → litBs l = true
 | [], _ => by simp [litBs]
 | x :: r, h => by simp only [litBs, Bool.and_eq_true]; exact ⟨h x (by simp), litBs_of fun y hy => h y (by simp [hy])⟩
theorem ex_typed : ∀ (n : Nat) (x : D), typed Tryz.prog n 116 x → ∃ e : Ex, x = exD e ∧ litX e = true := by
 intro n
 induction n using Nat.strongRecOn with
 | ind n ih =>
 intro x h
 obtain ⟨ds, m, hm, rfl, y0, d0, h0, ⟨y1, d1, h1, ⟨y2, d2, h2, ⟨y3, d3, h3, ⟨y4, d4, h4, ⟨y5, d5, h5, rfl, rfl⟩, rfl⟩, rfl⟩, rfl⟩, rfl⟩, rfl⟩ := tq_struct Tryz.underlying116 h
 obtain ⟨op, rfl, _⟩ := tq_int Tryz.underlying3 h0
 obtain ⟨k, rfl, hk⟩ := tq_int Tryz.underlying2 h1
 obtain ⟨name, rfl⟩ := tq_string Tryz.underlying9 h2
 obtain ⟨field, rfl⟩ := tq_string Tryz.underlying9 h3
 obtain ⟨xs, q, hq, rfl, hxs⟩ := tq_slice Tryz.underlying114 h4
 obtain ⟨line, rfl, _⟩ := tq_int Tryz.underlying3 h5
 obtain ⟨l, rfl, hl⟩ := list_map_of2 (f := exD) (Q := fun e => litX e = true) (fun x hx => ih q (by omega) x (hxs x hx))
 exact ⟨.mk op k name field l line, by rw [exD_C]; simp [exC, exDs_eq, D.cells], by
  simp only [litX, Bool.and_eq_true]
  exact ⟨hk, litXs_of hl⟩⟩
theorem ints_typed {n : Nat} {x : D} (h : typed Tryz.prog n 51 x) : ∃ l : List Int, x = lbD l ∧ l.all i64B = true := by
 obtain ⟨xs, q, hq, rfl, hxs⟩ := tq_slice Tryz.underlying51 h
 obtain ⟨l, rfl, hl⟩ := list_map_of2 (f := fun n => D.int .i64 n) (Q := fun e => i64B e = true) (fun x hx => tq_int Tryz.underlying2 (hxs x hx))
 exact ⟨l, rfl, List.all_eq_true.2 hl⟩
theorem sm_typed : ∀ (n : Nat) (x : D), typed Tryz.prog n 121 x → ∃ e : Sm, x = smD e ∧ litM e = true := by
 intro n
 induction n using Nat.strongRecOn with
 | ind n ih =>
 intro x h
 obtain ⟨ds, m, hm, rfl, y0, d0, h0, ⟨y1, d1, h1, ⟨y2, d2, h2, ⟨y3, d3, h3, ⟨y4, d4, h4, ⟨y5, d5, h5, ⟨y6, d6, h6, ⟨y7, d7, h7, ⟨y8, d8, h8, rfl, rfl⟩, rfl⟩, rfl⟩, rfl⟩, rfl⟩, rfl⟩, rfl⟩, rfl⟩, rfl⟩ := tq_struct Tryz.underlying121 h
 obtain ⟨op, rfl, _⟩ := tq_int Tryz.underlying3 h0
 obtain ⟨name, rfl⟩ := tq_string Tryz.underlying9 h1
 obtain ⟨to, rfl, hto⟩ := ex_typed _ _ h2
 obtain ⟨val, rfl, hval⟩ := ex_typed _ _ h3
 obtain ⟨x4, q4, hq4, rfl, hx4⟩ := tq_slice Tryz.underlying114 h4
 obtain ⟨x5, q5, hq5, rfl, hx5⟩ := tq_slice Tryz.underlying117 h5
 obtain ⟨x6, q6, hq6, rfl, hx6⟩ := tq_slice Tryz.underlying118 h6
 obtain ⟨x7, q7, hq7, rfl, hx7⟩ := tq_slice Tryz.underlying119 h7
 obtain ⟨line, rfl, _⟩ := tq_int Tryz.underlying3 h8
 obtain ⟨conds, rfl, hconds⟩ := list_map_of2 (f := exD) (Q := fun e => litX e = true) (fun x hx => ex_typed _ _ (hx4 x hx))
 obtain ⟨labels, rfl, hlab⟩ := list_map_of2 (f := lbD) (Q := fun l => l.all i64B = true) (fun x hx => ints_typed (hx5 x hx))
 obtain ⟨fields, rfl⟩ := list_map_of (f := D.str) (fun x hx => tq_string Tryz.underlying9 (hx6 x hx))
 obtain ⟨blocks, rfl, hbl⟩ := list_map_of2 (f := fun b : List Sm => D.list (b.map smD)) (Q := fun b => litMs b = true) (fun x hx => by
  obtain ⟨xs, q, hq, rfl, hxs⟩ := tq_slice Tryz.underlying23 (hx7 x hx)
  obtain ⟨l, rfl, hl⟩ := list_map_of2 (f := smD) (Q := fun e => litM e = true) (fun x hx => ih q (by omega) x (hxs x hx))
  exact ⟨l, rfl, litMs_of hl⟩)
 refine ⟨.mk op name to val conds labels fields blocks line, ?_, ?_⟩
 · simp [smD, exDs_eq, bksD_eq, D.cells, exD_C]
 · simp only [litM, Bool.and_eq_true]
   exact ⟨hto, hval, litXs_of hconds, List.all_eq_true.2 hlab, litBs_of hbl⟩
theorem vr_typed {n : Nat} {x : D} (h : typed Tryz.prog n 49 x) : ∃ v : Vr, x = vrD v := by
 obtain ⟨ds, m, hm, rfl, y0, d0, h0, ⟨y1, d1, h1, ⟨y2, d2, h2, ⟨y3, d3, h3, ⟨y4, d4, h4, ⟨y5, d5, h5, ⟨y6, d6, h6, ⟨y7, d7, h7, rfl, rfl⟩, rfl⟩, rfl⟩, rfl⟩, rfl⟩, rfl⟩, rfl⟩, rfl⟩ := tq_struct Tryz.underlying49 h
 obtain ⟨name, rfl⟩ := tq_string Tryz.underlying9 h0
 obtain ⟨ty, rfl, _⟩ := tq_int Tryz.underlying3 h1
 obtain ⟨sec, rfl, _⟩ := tq_int Tryz.underlying3 h2
 obtain ⟨arr, rfl⟩ := tq_bool Tryz.underlying4 h3
 obtain ⟨lo, rfl, _⟩ := tq_int Tryz.underlying2 h4
 obtain ⟨hi, rfl, _⟩ := tq_int Tryz.underlying2 h5
 obtain ⟨init, rfl, _⟩ := tq_int Tryz.underlying2 h6
 obtain ⟨line, rfl, _⟩ := tq_int Tryz.underlying3 h7
 exact ⟨⟨name, ty, sec, arr, lo, hi, init, line⟩, rfl⟩
theorem pg_typed {n : Nat} {x : D} (h : typed Tryz.prog n 25 x) : ∃ p : Pg, x = .agg [.str p.name, .list (p.vars.map vrD), .list (p.body.map smD)] ∧ litMs p.body = true := by
 obtain ⟨ds, m, hm, rfl, y0, d0, h0, ⟨y1, d1, h1, ⟨y2, d2, h2, rfl, rfl⟩, rfl⟩, rfl⟩ := tq_struct Tryz.underlying25 h
 obtain ⟨name, rfl⟩ := tq_string Tryz.underlying9 h0
 obtain ⟨x1, q1, hq1, rfl, hx1⟩ := tq_slice Tryz.underlying22 h1
 obtain ⟨x2, q2, hq2, rfl, hx2⟩ := tq_slice Tryz.underlying23 h2
 obtain ⟨vars, rfl⟩ := list_map_of (f := vrD) (fun x hx => vr_typed (hx1 x hx))
 obtain ⟨body, rfl, hbody⟩ := list_map_of2 (f := smD) (Q := fun e => litM e = true) (fun x hx => sm_typed _ _ (hx2 x hx))
 exact ⟨⟨name, vars, body⟩, rfl, litMs_of hbody⟩
end Go.Am
end
section
namespace Go.Am
open Go
set_option maxRecDepth 20000
def rhoF : Nat → Nat
 | 99 => 199
 | 143 => 201
 | 206 => 245
 | 217 => 246
 | 219 => 247
 | 224 => 280
 | 225 => 279
 | 266 => 278
 | 267 => 281
 | 314 => 304
 | _ => 0
def rhoT : Nat → Nat
 | 3 => 3
 | 4 => 4
 | 5 => 5
 | 9 => 9
 | 46 => 158
 | 51 => 305
 | 146 => 340
 | _ => 0
def rhoG : Nat → Nat
 | 1 => 2
 | _ => 0
def rho : Go.Shelf.Ren := ⟨rhoF, rhoT, rhoG⟩
theorem lays143 : Go.Proofs.Lays.n143 Go.Proofs.Tryz.prog rho where
 mixed := by kernel_rfl
 f143 := by kernel_rfl
 f217 := by kernel_rfl
 f219 := by kernel_rfl
 f224 := by kernel_rfl
 f225 := by kernel_rfl
 f266 := by kernel_rfl
 f267 := by kernel_rfl
 f314 := by kernel_rfl
 t3 := by kernel_rfl
 a3 := by intro w; kernel_rfl
 z3 := by intro w; kernel_rfl
 v3 := by intro w; kernel_rfl
 t4 := by kernel_rfl
 a4 := by intro w; kernel_rfl
 z4 := by intro w; kernel_rfl
 v4 := by intro w; kernel_rfl
 t5 := by kernel_rfl
 a5 := by intro w; kernel_rfl
 z5 := by intro w; kernel_rfl
 v5 := by intro w; kernel_rfl
 t9 := by kernel_rfl
 a9 := by intro w; kernel_rfl
 z9 := by intro w; kernel_rfl
 v9 := by intro w; kernel_rfl
 t46 := by kernel_rfl
 a46 := by intro w; kernel_rfl
 z46 := by intro w; kernel_rfl
 v46 := by intro w; kernel_rfl
 t51 := by kernel_rfl
 a51 := by intro w; kernel_rfl
 z51 := by intro w; kernel_rfl
 v51 := by intro w; kernel_rfl
 t146 := by kernel_rfl
 a146 := by intro w; kernel_rfl
 z146 := by intro w; kernel_rfl
 v146 := by intro w; kernel_rfl
 g1 := by kernel_rfl
theorem lays217 : Go.Proofs.Lays.n217 Go.Proofs.Tryz.prog rho where
 mixed := by kernel_rfl
 f217 := by kernel_rfl
 f266 := by kernel_rfl
 t3 := by kernel_rfl
 a3 := by intro w; kernel_rfl
 z3 := by intro w; kernel_rfl
 v3 := by intro w; kernel_rfl
 t5 := by kernel_rfl
 a5 := by intro w; kernel_rfl
 z5 := by intro w; kernel_rfl
 v5 := by intro w; kernel_rfl
 t9 := by kernel_rfl
 a9 := by intro w; kernel_rfl
 z9 := by intro w; kernel_rfl
 v9 := by intro w; kernel_rfl
theorem lays99 : Go.Proofs.Lays.n99 Go.Proofs.Tryz.prog rho where
 mixed := by kernel_rfl
 f99 := by kernel_rfl
 f206 := by kernel_rfl
 t3 := by kernel_rfl
 a3 := by intro w; kernel_rfl
 z3 := by intro w; kernel_rfl
 v3 := by intro w; kernel_rfl
 t4 := by kernel_rfl
 a4 := by intro w; kernel_rfl
 z4 := by intro w; kernel_rfl
 v4 := by intro w; kernel_rfl
 t9 := by kernel_rfl
 a9 := by intro w; kernel_rfl
 z9 := by intro w; kernel_rfl
 v9 := by intro w; kernel_rfl
end Go.Am
end
section
namespace Go.Am
open Go Go.Proofs
variable [Inhabited Mx2]
set_option maxRecDepth 20000
theorem callable_of {P : Program} {g : FuncId} {fn : Func} (hf : P.funcs[g]? = some fn) (hb : fn.body.isSome = true) (hn : (fn.name == "runtime.NumGoroutine") = false) : callable P g = true := by
 unfold callable; rw [hf]; simp only [hb, hn]; rfl
theorem dstr_of {w F s v} (h : DRel w F (.str s) v) : ∃ b : ByteArray, v = .string b ∧ b.data.toList = s := by
 cases h with
 | str b s h => exact ⟨b, rfl, h⟩
theorem dint_of {w F k n v} (h : DRel w F (.int k n) v) : v = .int k n := by cases h; rfl
theorem two_args {ds : List D} {a b : D} {w F} {vs : Array Value} (hd : ds = [a, b]) (hl : ds.length = vs.size) (hr : ∀ (i : Nat) x v, ds[i]? = some x → vs[i]? = some v → DRel w F x v) :
 ∃ x y, vs = #[x, y] ∧ DRel w F a x ∧ DRel w F b y := by
 subst hd
 obtain ⟨l⟩ := vs
 match l, hl with
 | [x, y], _ => exact ⟨x, y, rfl, hr 0 a x rfl rfl, hr 1 b y rfl rfl⟩
theorem mx_cell {w : World} {F} (hg : GlobRel w F gl0) : ∃ m, w.cell? ⟨2, 0, none⟩ = some (.int .i64 m) := by
 obtain ⟨_, _, x', h1, h2⟩ := hg (2, .int .i64 (id (α := Int) (default : Mx2))) (by simp [gl0])
 generalize id (α := Int) (default : Mx2) = z at h1
 obtain rfl := dint_of h1
 exact ⟨z, h2 0 _ (by simp [Value.cells])⟩
theorem hp_ok : OrcOk ctx 199 (liftO hpO) := by
 refine OrcOk.lift ⟨callable_of Tryz.func199 (by kernel_rfl) (by kernel_rfl), fun ds d hd F w vs hg hFb hl hr => ?_⟩
 unfold hpO at hd
 split at hd
 · rename_i s p
   obtain ⟨x, y, rfl, h1, h2⟩ := two_args rfl hl hr
   obtain ⟨a, rfl, rfl⟩ := dstr_of h1
   obtain ⟨b, rfl, rfl⟩ := dstr_of h2
   refine (Any.strings_HasPrefix lays99 a b w).mono ?_
   rintro e w' ⟨rfl, rfl⟩
   cases hd
   exact ⟨_, rfl, Go.RowKit.Below.refl _ _, .bool _⟩
 · cases hd
theorem ib_ok : OrcOk ctx 246 (liftO ibO) := by
 refine OrcOk.lift ⟨callable_of Tryz.func246 (by kernel_rfl) (by kernel_rfl), fun ds d hd F w vs hg hFb hl hr => ?_⟩
 unfold ibO at hd
 split at hd
 · rename_i s p
   obtain ⟨x, y, rfl, h1, h2⟩ := two_args rfl hl hr
   obtain ⟨a, rfl, rfl⟩ := dstr_of h1
   obtain rfl := dint_of h2
   refine (Any.stringslite_IndexByte lays217 a _ w).mono ?_
   rintro e w' ⟨rfl, rfl⟩
   cases hd
   exact ⟨_, rfl, Go.RowKit.Below.refl _ _, .int _ _⟩
 · cases hd
theorem idx_ok : OrcOk ctx 201 (liftO idxO) := by
 refine OrcOk.lift ⟨callable_of Tryz.func201 (by kernel_rfl) (by kernel_rfl), fun ds d hd F w vs hg hFb hl hr => ?_⟩
 unfold idxO at hd
 split at hd
 · rename_i s p
   split at hd
   · rename_i hs
     obtain ⟨x, y, rfl, h1, h2⟩ := two_args rfl hl hr
     obtain ⟨a, rfl, rfl⟩ := dstr_of h1
     obtain ⟨b, rfl, rfl⟩ := dstr_of h2
     obtain ⟨m, hm⟩ := mx_cell hg
     refine (Any.strings_Index lays143 a b m w (by simpa using hs) hm).mono ?_
     rintro e w' ⟨rfl, rfl⟩
     cases hd
     exact ⟨_, rfl, Go.RowKit.Below.refl _ _, .int _ _⟩
   · cases hd
 · cases hd
theorem orcs_ok : ∀ g h, ctx.orc g = some h → OrcOk ctx g h := by
 intro g h hg
 have hg' : orc0 g = some h := hg
 unfold orc0 at hg'
 split at hg'
 all_goals first | (cases hg'; first | exact hp_ok | exact ib_ok | exact idx_ok) | cases hg'
end Go.Am
end
section
namespace Go.Am
open Go
theorem laid_mem {P : Program} {w : World} {n : String} {d : DataW Unit} : ∀ {l : List (String × DataW Unit)} {ps : List MemPlace}, DataW.LaidVars P w l ps → (n, d) ∈ l →
 ∃ g t cs fuel p, P.globalNamed n = some g ∧ (P.globals[g]?).map (·.type) = some t ∧ w.var? P n = some cs ∧ DataW.trod (fun _ => ()) P w 0 (fun _ => true) false fuel t cs.toList = some (d, p)
 | [], _, _, hm => by simp at hm
 | (n', d') :: r, ps, ⟨g, t, cs, fuel, p, q, h1, h2, h3, h4, h5, _⟩, hm => by
  rcases List.mem_cons.1 hm with hm | hm
  · cases hm
    exact ⟨g, t, cs, fuel, p, h1, h2, h3, h4⟩
  · exact laid_mem h5 hm
theorem trod_ints {H : Type} {enc : TypeId × Value → H} {P : Program} {w : World} {base : Nat} {sp : Nat → Bool} {held : Bool} {fuel : Nat} {t e : TypeId} {n : Nat} {k : IntKind} {cs : List Value} {ds : List (DataW H)} {p : List MemPlace}
 (ha : P.underlying t = some (.array n e)) (he : P.underlying e = some (.int k)) (hc : P.cellsOf e = 1) (h : DataW.trod enc P w base sp held fuel t cs = some (.agg ds, p)) :
 cs.length = P.cellsOf t ∧ ds.length = n ∧ ∀ i, i < n → ∃ z, cs[i]? = some (.int k z) ∧ ds[i]? = some (.lit (.int k z)) := by
 cases fuel with
 | zero => simp [DataW.trod] at h
 | succ m =>
  unfold DataW.trod at h
  rw [ha] at h
  simp only at h
  split at h
  · rename_i hl
    simp only [Option.map_eq_some_iff, Prod.mk.injEq, DataW.agg.injEq] at h
    obtain ⟨xs, hx, rfl, _⟩ := h
    have h1 : xs.length = n := by simpa using mapM_some_length hx
    refine ⟨hl, by simpa using h1, fun i hi => ?_⟩
    have h2 := mapM_some_get hx i i (by simp [hi])
    have h3 : i < xs.length := by omega
    have h4 : xs[i]? = some xs[i] := by simp [h3]
    rw [h4, hc] at h2
    obtain ⟨z, h5, h6, _⟩ := DataW.trod_int he h2
    refine ⟨z, ?_, by simp [h4, h6]⟩
    have h7 := congrArg (·[0]?) h5
    simpa [List.getElem?_take, List.getElem?_drop] using h7
  · cases h
theorem glob_of_laid {P : Program} {W : World} {l : List (String × DataW Unit)} {name : String} {g : Nat} {t e : TypeId} {n : Nat} {k : IntKind} {zs : List Int}
 (hl : laidMet P l W) (hm : (name, DataW.agg (zs.map fun z => .lit (.int k z))) ∈ l) (hg : P.globalNamed name = some g) (ht : (P.globals[g]?).map (·.type) = some t)
 (ha : P.underlying t = some (.array n e)) (he : P.underlying e = some (.int k)) (hc : P.cellsOf e = 1) (hn : 0 < n) (hct : P.cellsOf t = n) :
 (g < W.heap.size ∧ ∀ cs, D.agg (zs.map fun z => .int k z) = .agg cs → ∃ cur e fz, W.heap[g]? = some (.cells cur e fz) ∧ cur.size = cs.length) ∧ ∃ x', DRel W (fun _ => False) (.agg (zs.map fun z => .int k z)) x' ∧ ∀ (i : Nat) (c : Value), x'.cells[i]? = some c → W.cell? ⟨g, i, none⟩ = some c := by
 obtain ⟨ps, hv, _⟩ := hl
 obtain ⟨g', t', cs, fuel, p, h1, h2, h3, h4⟩ := laid_mem hv hm
 obtain rfl := Option.some.inj (hg.symm.trans h1)
 obtain rfl := Option.some.inj (ht.symm.trans h2)
 obtain ⟨h50, h5, h6⟩ := trod_ints ha he hc h4
 rw [hct] at h50
 simp at h5
 have h7 : ∀ i z, zs[i]? = some z → W.cell? ⟨g, i, none⟩ = some (.int k z) := by
  intro i z hz
  have hi : i < n := by
   have := (List.getElem?_eq_some_iff.1 hz).1
   omega
  obtain ⟨z', h8, h9⟩ := h6 i hi
  simp [hz] at h9
  subst h9
  rw [World.var?_cell hg h3 i]
  simpa using h8
 refine ⟨⟨?_, ?_⟩, .agg (zs.map fun z => Value.int k z).toArray, ?_, ?_⟩
 · have hz : ∃ z, zs[0]? = some z := ⟨zs[0]'(by omega), by simp [show 0 < zs.length by omega]⟩
   obtain ⟨z, hz⟩ := hz
   exact (cell?_lt (h7 0 z hz)).1
 · rintro cs' hcs'
   obtain rfl := D.agg.inj hcs'
   unfold World.var? at h3
   rw [hg] at h3
   simp only [Option.bind_some] at h3
   split at h3
   · rename_i cur e' fz hh
     cases h3
     exact ⟨_, _, _, hh, by simp at h5 h50 ⊢; omega⟩
   · cases h3
 · refine DRel.ofCells (by simp) (fun v hv => ?_) (fun i c v hc' hv => ?_)
   · simp at hv
     obtain ⟨z, _, rfl⟩ := hv
     rfl
   · simp only [List.getElem?_map, Option.map_eq_some_iff] at hc' hv
     obtain ⟨z, hz, rfl⟩ := hc'
     obtain ⟨z', hz', rfl⟩ := hv
     rw [hz] at hz'
     cases hz'
     exact .int k z
 · intro i c hi
   simp [Value.cells] at hi
   obtain ⟨z, hz, rfl⟩ := hi
   exact h7 i z hz
end Go.Am
end

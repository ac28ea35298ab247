/-
  Texts of one proof, one behind the other.
-/
import Derived.Test.YtpgcdbhjmlcfaaaGreatDoorP6
import Derived.ProofKit
import Derived.ChangeArms
import Derived.ChangeCalls
set_option linter.all false
section
namespace Go.Am
open Go Go.Proofs
variable [Inhabited Mx2]
set_option maxRecDepth 20000
section
variable {x : Sm} {v : Nat} {k : Kt} {R1 R2 : Ans} {a b : AV}
theorem fsP7 (hl : (smf x).length < 100000000) (h1 : k .ret ⟨258, gl0, [(2, true, .d (.bool false))], [⟨300, v, bxS x⟩]⟩ = R1) :
 denK ctx 44 (fsC [1, 0, 1, 0, 0, 1, 0, 0, 1, 1, 1, 1, 1, 1, 1, 1, 0]) ⟨258, gl0, [(0, true, a), (3, true, b), (4, true, .ptr 300 v 0), (186, true, .d (.bool false))], [⟨300, v, bxS x⟩]⟩ k =
 if (smf x).all nameF = true then k .normal ⟨258, gl0, [(0, true, a), (3, true, b), (4, true, .ptr 300 v 0), (13, true, .d (.int .i64 (smf x).length)), (191, true, .d (.bool false))], [⟨300, v, bxS x⟩]⟩ else R1 := by
 have hin := fun k R1 R2 h1 h2 => fsF_loop (a := a) (b := b) (v := v) (k := k) (R1 := R1) (R2 := R2) hl h1 h2 (smf x) [] rfl
 simp only [bxS] at h1
 generalize (smf x).all nameF = B at *
 simp [fsC, Tryz.f44] at hin ⊢
 rw [hin]
 cases B <;> simp [h1]
theorem fsP8 (hl : (smlb x).length < 100000000) (hll : ∀ l ∈ smlb x, l.length < 100000000) (h1 : k .ret ⟨258, gl0, [(2, true, .d (.bool false))], [⟨300, v, bxS x⟩]⟩ = R1) {d1 d2 : AV} :
 denK ctx 44 (fsC [1, 0, 1, 0, 0, 1, 0, 0, 1, 1, 1, 1, 1, 1, 1, 1, 1, 0]) ⟨258, gl0, [(0, true, a), (3, true, b), (4, true, .ptr 300 v 0), (13, true, d1), (191, true, d2)], [⟨300, v, bxS x⟩]⟩ k =
 if (smlb x).all labB = true then k .normal ⟨258, gl0, [(0, true, a), (3, true, b), (4, true, .ptr 300 v 0), (14, true, .d (.int .i64 (smlb x).length)), (205, true, .d (.bool false))], [⟨300, v, bxS x⟩]⟩ else R1 := by
 have hin := fun k R1 R2 h1 h2 => fsL_loop (a := a) (b := b) (v := v) (k := k) (R1 := R1) (R2 := R2) hl hll h1 h2 (smlb x) [] rfl
 simp only [bxS] at h1
 generalize (smlb x).all labB = B at *
 simp [fsC, Tryz.f44] at hin ⊢
 rw [hin]
 cases B <;> simp [h1]
theorem fsP9 (hl : (smb x).length < 100000000) (hK : ∀ c ∈ smb x, KS c) (h1 : k .ret ⟨258, gl0, [(2, true, .d (.bool false))], [⟨300, v, bxS x⟩]⟩ = R1) {d1 d2 : AV} :
 denK ctx 44 (fsC [1, 0, 1, 0, 0, 1, 0, 0, 1, 1, 1, 1, 1, 1, 1, 1, 1, 1]) ⟨258, gl0, [(0, true, a), (3, true, b), (4, true, .ptr 300 v 0), (14, true, d1), (205, true, d2)], [⟨300, v, bxS x⟩]⟩ k =
 if fitBs (smb x) = true then k .normal ⟨258, gl0, [(0, true, a), (3, true, b), (4, true, .ptr 300 v 0), (16, true, .d (.int .i64 (smb x).length)), (248, true, .d (.bool false))], [⟨300, v, bxS x⟩]⟩ else R1 := by
 have hin := fun k R1 R2 h1 h2 => fsB_loop (a := a) (b := b) (v := v) (k := k) (R1 := R1) (R2 := R2) hl hK h1 h2 (smb x) [] rfl
 simp only [bxS] at h1
 generalize fitBs (smb x) = B at *
 simp [fsC, Tryz.f44] at hin ⊢
 rw [hin]
 cases B <;> simp [h1]
theorem fsP0 : denK ctx 44 (fsC [1, 0, 1, 0, 0, 1, 0, 0, 1, 0]) ⟨258, gl0, [(0, true, a), (3, true, b), (4, true, .ptr 300 v 0)], [⟨300, v, bxS x⟩]⟩ k =
 k .normal ⟨258, gl0, [(0, true, a), (3, true, b), (4, true, .ptr 300 v 0), (5, true, .d (.bool (decide (smo x = 4 ∨ smo x = 9)))), (6, true, .d (.bool (decide (smo x = 1)))), (7, true, .d (.bool (decide (smo x = 1 ∨ smo x = 3 ∨ smo x = 5 ∨ smo x = 6))))], [⟨300, v, bxS x⟩]⟩ := by
 have hs := fshape_r (smo x)
 simp [fsC, Tryz.f44]
 simp [hs]
end
def smCo (x : Sm) : Bool := decide (((smc x).length : Int) = c8F x ∧ ((smlb x).length : Int) = c9F x ∧ ((smf x).length : Int) = c10F x ∧ ¬ ((smb x).length : Int) < c11F x ∧ ¬ c11F x + c12F x < ((smb x).length : Int))
theorem smCo_shape (x : Sm) : smCo x = shapeB (smo x) (smc x).length (smlb x).length (smf x).length (smb x).length := by
 unfold smCo shapeB c8F c9F c10F c11F c12F mx1
 generalize smo x = o
 generalize (smc x).length = n1
 generalize (smlb x).length = n2
 generalize (smf x).length = n3
 generalize (smb x).length = n4
 rw [Bool.eq_iff_iff]
 by_cases h2 : o = 2
 · subst h2
   by_cases h : (1 : Int) < n1
   · simp [h]; omega
   · simp [h]; omega
 · by_cases h3 : o = 3
   · subst h3; simp; omega
   · by_cases h4 : o = 4
     · subst h4; simp; omega
     · by_cases h5 : o = 5
       · subst h5; simp; omega
       · by_cases h6 : o = 6
         · subst h6; simp; omega
         · by_cases h9 : o = 9
           · subst h9; simp; omega
           · simp [h2, h3, h4, h5, h6, h9]
theorem fitM_A (x : Sm) : fitM x = (smKi x && (smTo x && (smVa x && (smCo x && ((smf x).all nameF && ((smlb x).all labB && fitBs (smb x))))))) := by
 rw [smCo_shape]
 obtain ⟨op, name, to, val, conds, labels, fields, blocks, line⟩ := x
 unfold fitM smKi smTo smVa
 simp only [Bool.and_assoc]
 rfl
theorem lnX_A (x : Ex) : lnX x ↔ ((exa x).length < 100000000 ∧ (exf x).length < 100000000 ∧ (exs x).length < 100000000) ∧ lnXs (exs x) := by
 obtain ⟨op, nn, name, field, sub, line⟩ := x
 simp only [lnX, exa_mk, exf_mk, exs_mk]
mutual
def lnM : Sm → Prop
 | .mk _ _ to val conds labels fields blocks _ => (lnX to ∧ lnX val ∧ (conds.length < 100000000 ∧ lnXs conds) ∧ (labels.length < 100000000 ∧ ∀ l ∈ labels, l.length < 100000000) ∧ fields.length < 100000000 ∧ blocks.length < 100000000) ∧ lnBs blocks
def lnMs : List Sm → Prop
 | [] => True
 | x :: r => lnM x ∧ lnMs r
def lnBs : List (List Sm) → Prop
 | [] => True
 | b :: r => (b.length < 100000000 ∧ lnMs b) ∧ lnBs r
end
def lnS (x : Sm) : Prop := lnX (smt x) ∧ lnX (smv x) ∧ ((smc x).length < 100000000 ∧ lnXs (smc x)) ∧ ((smlb x).length < 100000000 ∧ ∀ l ∈ smlb x, l.length < 100000000) ∧ (smf x).length < 100000000 ∧ (smb x).length < 100000000
theorem lnM_A (x : Sm) : lnM x ↔ lnS x ∧ lnBs (smb x) := by
 obtain ⟨op, name, to, val, conds, labels, fields, blocks, line⟩ := x
 unfold lnM lnS
 rfl
theorem cX_cases (x : Sm) : cX x = [] ∨ cX x = [(144, true, .d (.bool false))] := by
 unfold cX
 split
 · exact .inl rfl
 · exact .inr rfl
theorem c1112 {x : Sm} (h : lnS x) : IntKind.i64.wrap (c11F x + c12F x) = c11F x + c12F x := by
 obtain ⟨_, _, ⟨h1, _⟩, ⟨h2, _⟩, _, _⟩ := h
 apply wrap_id
 have a1 : 0 ≤ c11F x ∧ c11F x < 200000000 := by
  unfold c11F mx1
  split
  · split <;> omega
  · split
    · omega
    · split <;> omega
 have a2 : 0 ≤ c12F x ∧ c12F x ≤ 1 := by
  unfold c12F
  split <;> omega
 unfold I64
 omega
section
variable {x : Sm} {v : Nat} {k : Kt} {R1 : Ans} {a b : AV}
theorem fsBody (hx : lnS x) (hK : ∀ c ∈ smb x, KS c) (h1 : k .ret ⟨258, gl0, [(2, true, .d (.bool false))], [⟨300, v, bxS x⟩]⟩ = R1) :
 denK ctx 44 (fsC [1, 0, 1, 0, 0, 1, 0, 0, 1]) ⟨258, gl0, [(0, true, a), (3, true, b), (4, true, .ptr 300 v 0)], [⟨300, v, bxS x⟩]⟩ k =
 if fitM x = true then k .normal ⟨258, gl0, [(0, true, a), (3, true, b), (4, true, .ptr 300 v 0), (16, true, .d (.int .i64 (smb x).length)), (248, true, .d (.bool false))], [⟨300, v, bxS x⟩]⟩ else R1 := by
 have e1 : fsC [1, 0, 1, 0, 0, 1, 0, 0, 1] = Code.seq (fsC [1, 0, 1, 0, 0, 1, 0, 0, 1, 0]) (fsC [1, 0, 1, 0, 0, 1, 0, 0, 1, 1]) := rfl
 have e2 : fsC [1, 0, 1, 0, 0, 1, 0, 0, 1, 1] = Code.seq (fsC [1, 0, 1, 0, 0, 1, 0, 0, 1, 1, 0]) (fsC [1, 0, 1, 0, 0, 1, 0, 0, 1, 1, 1]) := rfl
 have e3 : fsC [1, 0, 1, 0, 0, 1, 0, 0, 1, 1, 1] = Code.seq (fsC [1, 0, 1, 0, 0, 1, 0, 0, 1, 1, 1, 0]) (fsC [1, 0, 1, 0, 0, 1, 0, 0, 1, 1, 1, 1]) := rfl
 have e4 : fsC [1, 0, 1, 0, 0, 1, 0, 0, 1, 1, 1, 1] = Code.seq (fsC [1, 0, 1, 0, 0, 1, 0, 0, 1, 1, 1, 1, 0]) (fsC [1, 0, 1, 0, 0, 1, 0, 0, 1, 1, 1, 1, 1]) := rfl
 have e5 : fsC [1, 0, 1, 0, 0, 1, 0, 0, 1, 1, 1, 1, 1] = Code.seq (fsC [1, 0, 1, 0, 0, 1, 0, 0, 1, 1, 1, 1, 1, 0]) (fsC [1, 0, 1, 0, 0, 1, 0, 0, 1, 1, 1, 1, 1, 1]) := rfl
 have e6 : fsC [1, 0, 1, 0, 0, 1, 0, 0, 1, 1, 1, 1, 1, 1] = Code.seq (fsC [1, 0, 1, 0, 0, 1, 0, 0, 1, 1, 1, 1, 1, 1, 0]) (fsC [1, 0, 1, 0, 0, 1, 0, 0, 1, 1, 1, 1, 1, 1, 1]) := rfl
 have e7 : fsC [1, 0, 1, 0, 0, 1, 0, 0, 1, 1, 1, 1, 1, 1, 1] = Code.seq (fsC [1, 0, 1, 0, 0, 1, 0, 0, 1, 1, 1, 1, 1, 1, 1, 0]) (fsC [1, 0, 1, 0, 0, 1, 0, 0, 1, 1, 1, 1, 1, 1, 1, 1]) := rfl
 have e8 : fsC [1, 0, 1, 0, 0, 1, 0, 0, 1, 1, 1, 1, 1, 1, 1, 1] = Code.seq (fsC [1, 0, 1, 0, 0, 1, 0, 0, 1, 1, 1, 1, 1, 1, 1, 1, 0]) (fsC [1, 0, 1, 0, 0, 1, 0, 0, 1, 1, 1, 1, 1, 1, 1, 1, 1]) := rfl
 have e9 : fsC [1, 0, 1, 0, 0, 1, 0, 0, 1, 1, 1, 1, 1, 1, 1, 1, 1] = Code.seq (fsC [1, 0, 1, 0, 0, 1, 0, 0, 1, 1, 1, 1, 1, 1, 1, 1, 1, 0]) (fsC [1, 0, 1, 0, 0, 1, 0, 0, 1, 1, 1, 1, 1, 1, 1, 1, 1, 1]) := rfl
 have hq : ∀ c, seqK ctx 44 c k .ret ⟨258, gl0, [(2, true, .d (.bool false))], [⟨300, v, bxS x⟩]⟩ = R1 := fun _ => h1
 have hw := c1112 hx
 obtain ⟨ht, hv, ⟨hc, hcx⟩, ⟨hlb, hlbl⟩, hf, hbl⟩ := hx
 have kt : KF [smt x] := ffit_all (l := [smt x]) (by simp) ⟨ht, trivial⟩
 have kv : KF [smv x] := ffit_all (l := [smv x]) (by simp) ⟨hv, trivial⟩
 have kc : KF (smc x) := ffit_all hc hcx
 rw [fitM_A]
 rw [e1, denK_seq, fsP0, seqK_n, e2, denK_seq, fsA1 (hq _)]
 cases smKi x
 · rw [Bool.false_and, if_neg Bool.false_ne_true, if_neg Bool.false_ne_true]
 rw [if_pos rfl, Bool.true_and, seqK_n, e3, denK_seq, fsA2 (hq _) ((lnX_A _).1 ht).1 kt]
 cases smTo x
 · rw [Bool.false_and, if_neg Bool.false_ne_true, if_neg Bool.false_ne_true]
 rw [if_pos rfl, Bool.true_and, seqK_n, e4, denK_seq, fsA3 (hq _) rfl ((lnX_A _).1 hv).1 kv kc]
 cases smVa x
 · rw [Bool.false_and, if_neg Bool.false_ne_true, if_neg Bool.false_ne_true]
 rw [if_pos rfl, Bool.true_and, seqK_n, e5, denK_seq, fsA4 (X := []), seqK_n, e6, denK_seq, fsA5, seqK_n, e7, denK_seq]
 have h6 : ∀ kk : Kt, kk .ret ⟨258, gl0, [(2, true, .d (.bool false))], [⟨300, v, bxS x⟩]⟩ = R1 → denK ctx 44 (fsC [1, 0, 1, 0, 0, 1, 0, 0, 1, 1, 1, 1, 1, 1, 1, 0]) ⟨258, gl0, [(0, true, a), (3, true, b), (4, true, .ptr 300 v 0), (8, true, .d (.int .i64 (c8F x))), (9, true, .d (.int .i64 (c9F x))), (10, true, .d (.int .i64 (c10F x))), (11, true, .d (.int .i64 (c11F x))), (12, true, .d (.int .i64 (c12F x)))] ++ cX x, [⟨300, v, bxS x⟩]⟩ kk =
  if smCo x = true then kk .normal ⟨258, gl0, [(0, true, a), (3, true, b), (4, true, .ptr 300 v 0), (186, true, .d (.bool false))], [⟨300, v, bxS x⟩]⟩ else R1 := by
  intro kk hk
  unfold smCo
  rcases cX_cases x with hX | hX
  · rw [hX, List.append_nil, fsA6a hk hw]
    simp only [decide_eq_true_eq]
  · rw [hX]
    simp only [List.cons_append, List.nil_append]
    rw [fsA6b hk hw]
    simp only [decide_eq_true_eq]
 rw [h6 _ (hq _)]
 cases smCo x
 · rw [Bool.false_and, if_neg Bool.false_ne_true, if_neg Bool.false_ne_true]
 rw [if_pos rfl, Bool.true_and, seqK_n, e8, denK_seq, fsP7 hf (hq _)]
 cases (smf x).all nameF
 · rw [Bool.false_and, if_neg Bool.false_ne_true, if_neg Bool.false_ne_true]
 rw [if_pos rfl, Bool.true_and, seqK_n, e9, denK_seq, fsP8 hlb hlbl (hq _)]
 cases (smlb x).all labB
 · rw [Bool.false_and, if_neg Bool.false_ne_true, if_neg Bool.false_ne_true]
 rw [if_pos rfl, Bool.true_and, seqK_n, fsP9 hbl hK h1]
end
theorem fsS_loop (l : List Sm) (hln : l.length < 100000000) (hS : ∀ x ∈ l, lnS x) (hK : ∀ x ∈ l, ∀ c ∈ smb x, KS c) (k : Kt) (R1 R2 : Ans)
 (h1 : ∀ v X, k .ret ⟨258, gl0, [(2, true, .d (.bool false))], [⟨300, v, X⟩]⟩ = R1)
 (h2 : ∀ (Y : Env) v X, k (.exit 0) ⟨258, gl0, Y, [⟨300, v, X⟩]⟩ = R2) : ∀ (rest pre : List Sm) (v : Nat) (X : Cont), l = pre ++ rest →
 denK ctx 44 (.loop (fsC [1, 0, 1, 0, 0])) ⟨258, gl0, [(0, true, .d (.list (l.map smD))), (3, true, .d (.int .i64 pre.length))], [⟨300, v, X⟩]⟩ k = if fitMs rest = true then R2 else R1
 | [], pre, v, X, hd => by
  have hl0 : pre.length = l.length := by rw [hd]; simp
  rw [hl0, denK_loop]
  simp [fsC, Tryz.f44, h2, fitMs]
 | x :: rest, pre, v, X, hd => by
  have hb1 : pre.length < l.length := by rw [hd]; simp
  have hb2 : l[pre.length] = x := by simp [hd]
  have hm : x ∈ l := by rw [hd]; simp
  have hb := fun (v : Nat) (a b : AV) (k : Kt) => fsBody (v := v) (a := a) (b := b) (k := k) (hS x hm) (hK x hm) rfl
  have ih : ∀ v X, denK ctx 44 (.loop (fsC [1, 0, 1, 0, 0])) ⟨258, gl0, [(0, true, .d (.list (l.map smD))), (3, true, .d (.int .i64 (pre.length + 1)))], [⟨300, v, X⟩]⟩ k = if fitMs rest = true then R2 else R1 := fun v X => by
   have := fsS_loop l hln hS hK k R1 R2 h1 h2 rest (pre ++ [x]) v X (by simp [hd])
   simpa using this
  have w1 : IntKind.i64.wrap ((pre.length : Int) + 1) = (pre.length : Int) + 1 := wrap_id (by unfold I64; omega)
  have key : fitMs (x :: rest) = (fitM x && fitMs rest) := by rw [fitMs]
  rw [key]
  generalize fitM x = N at *
  generalize fitMs rest = M at *
  rw [denK_loop]
  simp [fsC, Tryz.f44] at hb ih ⊢
  simp [hb1, hb2, smD_A]
  simp [hb]
  cases N <;> simp [h1, w1, ih]
theorem fitS_r {l : List Sm} (hln : l.length < 100000000) (hS : ∀ x ∈ l, lnS x) (hK : ∀ x ∈ l, ∀ c ∈ smb x, KS c) : KS l := by
 have h := fun k R1 R2 h1 h2 v X => fsS_loop l hln hS hK k R1 R2 h1 h2 l [] v X rfl
 unfold KS
 rw [run44 (by simp)]
 simp [fsC, Tryz.f44] at h ⊢
 rw [h _ (some (.ret (.d (.bool false)), [])) (some (.ret (.d (.bool true)), []))]
 · cases fitMs l <;> simp
 · intro v X; simp
 · intro Y v X; simp
mutual
theorem fitS_M : ∀ x : Sm, lnM x → lnS x ∧ ∀ c ∈ smb x, KS c
 | .mk op name to val conds labels fields blocks line, h => by
  have h := (lnM_A _).1 h
  exact ⟨h.1, fitS_Bs blocks h.2⟩
theorem fitS_Ms : ∀ l : List Sm, lnMs l → ∀ x ∈ l, lnS x ∧ ∀ c ∈ smb x, KS c
 | [], _, x, hx => by simp at hx
 | y :: r, h, x, hx => by
  simp only [lnMs] at h
  have h1 := fitS_M y h.1
  have h2 := fitS_Ms r h.2
  rcases List.mem_cons.1 hx with e | hx
  · rw [e]; exact h1
  · exact h2 x hx
theorem fitS_Bs : ∀ l : List (List Sm), lnBs l → ∀ c ∈ l, KS c
 | [], _, c, hc => by simp at hc
 | b :: r, h, c, hc => by
  simp only [lnBs] at h
  have h1 := fitS_Ms b h.1.2
  have h2 := fitS_Bs r h.2
  rcases List.mem_cons.1 hc with e | hc
  · rw [e]; exact fitS_r h.1.1 (fun x hx => (h1 x hx).1) (fun x hx => (h1 x hx).2)
  · exact h2 c hc
end
theorem fitS_all {l : List Sm} (hln : l.length < 100000000) (h : lnMs l) : KS l :=
 fitS_r hln (fun x hx => (fitS_Ms l h x hx).1) (fun x hx => (fitS_Ms l h x hx).2)
theorem rp10 : callT ctx 86 [.d (.int .i64 10)] [] = some (.ret (.d (.list ((pinsF 10).map pnD))), []) := callT_of 120 (by kernel_rfl)
theorem rp11 : callT ctx 86 [.d (.int .i64 11)] [] = some (.ret (.d (.list ((pinsF 11).map pnD))), []) := callT_of 120 (by kernel_rfl)
theorem rp12 : callT ctx 86 [.d (.int .i64 12)] [] = some (.ret (.d (.list ((pinsF 12).map pnD))), []) := callT_of 120 (by kernel_rfl)
theorem rp13 : callT ctx 86 [.d (.int .i64 13)] [] = some (.ret (.d (.list ((pinsF 13).map pnD))), []) := callT_of 120 (by kernel_rfl)
theorem rp14 : callT ctx 86 [.d (.int .i64 14)] [] = some (.ret (.d (.list ((pinsF 14).map pnD))), []) := callT_of 120 (by kernel_rfl)
theorem rp15 : callT ctx 86 [.d (.int .i64 15)] [] = some (.ret (.d (.list ((pinsF 15).map pnD))), []) := callT_of 120 (by kernel_rfl)
theorem rp16 : callT ctx 86 [.d (.int .i64 16)] [] = some (.ret (.d (.list ((pinsF 16).map pnD))), []) := callT_of 120 (by kernel_rfl)
theorem rp17 : callT ctx 86 [.d (.int .i64 17)] [] = some (.ret (.d (.list ((pinsF 17).map pnD))), []) := callT_of 120 (by kernel_rfl)
theorem rp18 : callT ctx 86 [.d (.int .i64 18)] [] = some (.ret (.d (.list ((pinsF 18).map pnD))), []) := callT_of 120 (by kernel_rfl)
theorem rp19 : callT ctx 86 [.d (.int .i64 19)] [] = some (.ret (.d (.list ((pinsF 19).map pnD))), []) := callT_of 120 (by kernel_rfl)
theorem rp20 : callT ctx 86 [.d (.int .i64 20)] [] = some (.ret (.d (.list ((pinsF 20).map pnD))), []) := callT_of 120 (by kernel_rfl)
theorem rp21 : callT ctx 86 [.d (.int .i64 21)] [] = some (.ret (.d (.list ((pinsF 21).map pnD))), []) := callT_of 120 (by kernel_rfl)
theorem rp22 : callT ctx 86 [.d (.int .i64 22)] [] = some (.ret (.d (.list ((pinsF 22).map pnD))), []) := callT_of 120 (by kernel_rfl)
theorem rp23 : callT ctx 86 [.d (.int .i64 23)] [] = some (.ret (.d (.list ((pinsF 23).map pnD))), []) := callT_of 120 (by kernel_rfl)
theorem rp24 : callT ctx 86 [.d (.int .i64 24)] [] = some (.ret (.d (.list ((pinsF 24).map pnD))), []) := callT_of 120 (by kernel_rfl)
theorem rp25 : callT ctx 86 [.d (.int .i64 25)] [] = some (.ret (.d (.list ((pinsF 25).map pnD))), []) := callT_of 120 (by kernel_rfl)
theorem rp26 : callT ctx 86 [.d (.int .i64 26)] [] = some (.ret (.d (.list ((pinsF 26).map pnD))), []) := callT_of 120 (by kernel_rfl)
theorem rp27 : callT ctx 86 [.d (.int .i64 27)] [] = some (.ret (.d (.list ((pinsF 27).map pnD))), []) := callT_of 120 (by kernel_rfl)
theorem rp28 : callT ctx 86 [.d (.int .i64 28)] [] = some (.ret (.d (.list ((pinsF 28).map pnD))), []) := callT_of 120 (by kernel_rfl)
theorem rp29 : callT ctx 86 [.d (.int .i64 29)] [] = some (.ret (.d (.list ((pinsF 29).map pnD))), []) := callT_of 120 (by kernel_rfl)
theorem rp30 : callT ctx 86 [.d (.int .i64 30)] [] = some (.ret (.d (.list ((pinsF 30).map pnD))), []) := callT_of 120 (by kernel_rfl)
theorem rp31 : callT ctx 86 [.d (.int .i64 31)] [] = some (.ret (.d (.list ((pinsF 31).map pnD))), []) := callT_of 120 (by kernel_rfl)
abbrev Rw := Int × Tx × Tx × List Tx
def rwT : List Rw := [
 (10, [84, 79, 78], [105, 73, 111, 79], [[73, 78], [80, 84], [81], [69, 84]]),
 (11, [84, 79, 70], [105, 73, 111, 79], [[73, 78], [80, 84], [81], [69, 84]]),
 (12, [84, 80], [105, 73, 111, 79, 46, 46], [[73, 78], [80, 84], [81], [69, 84]]),
 (13, [67, 84, 85], [105, 105, 73, 111, 79, 46], [[67, 85], [82], [80, 86], [81], [67, 86]]),
 (14, [67, 84, 68], [105, 105, 73, 111, 79, 46], [[67, 68], [76, 68], [80, 86], [81], [67, 86]]),
 (15, [82, 95, 84, 82, 73, 71], [105, 111, 46], [[67, 76, 75], [81]]),
 (16, [70, 95, 84, 82, 73, 71], [105, 111, 46], [[67, 76, 75], [81]]),
 (17, [83, 82], [105, 105, 111], [[83, 49], [82], [81, 49]]),
 (18, [82, 83], [105, 105, 111], [[83], [82, 49], [81, 49]]),
 (20, [77, 67, 95, 80, 111, 119, 101, 114], [73, 105, 111, 111], [[65, 120, 105, 115], [69, 110, 97, 98, 108, 101], [83, 116, 97, 116, 117, 115], [69, 114, 114, 111, 114]]),
 (21, [77, 67, 95, 72, 111, 109, 101], [73, 105, 111, 111, 111, 111, 111, 46, 46], [[65, 120, 105, 115], [69, 120, 101, 99, 117, 116, 101], [68, 111, 110, 101], [66, 117, 115, 121], [65, 99, 116, 105, 118, 101], [67, 111, 109, 109, 97, 110, 100, 65, 98, 111, 114, 116, 101, 100], [69, 114, 114, 111, 114]]),
 (22, [77, 67, 95, 83, 116, 111, 112], [73, 105, 111, 111, 111, 111, 111, 46, 46], [[65, 120, 105, 115], [69, 120, 101, 99, 117, 116, 101], [68, 111, 110, 101], [66, 117, 115, 121], [65, 99, 116, 105, 118, 101], [67, 111, 109, 109, 97, 110, 100, 65, 98, 111, 114, 116, 101, 100], [69, 114, 114, 111, 114]]),
 (23, [77, 67, 95, 72, 97, 108, 116], [73, 105, 111, 111, 111, 111, 111, 46, 46], [[65, 120, 105, 115], [69, 120, 101, 99, 117, 116, 101], [68, 111, 110, 101], [66, 117, 115, 121], [65, 99, 116, 105, 118, 101], [67, 111, 109, 109, 97, 110, 100, 65, 98, 111, 114, 116, 101, 100], [69, 114, 114, 111, 114]]),
 (24, [77, 67, 95, 77, 111, 118, 101, 65, 98, 115, 111, 108, 117, 116, 101], [73, 105, 73, 73, 73, 111, 111, 111, 111, 111, 46, 46], [[65, 120, 105, 115], [69, 120, 101, 99, 117, 116, 101], [80, 111, 115, 105, 116, 105, 111, 110], [86, 101, 108, 111, 99, 105, 116, 121], [66, 117, 102, 102, 101, 114, 77, 111, 100, 101], [68, 111, 110, 101], [66, 117, 115, 121], [65, 99, 116, 105, 118, 101], [67, 111, 109, 109, 97, 110, 100, 65, 98, 111, 114, 116, 101, 100], [69, 114, 114, 111, 114]]),
 (25, [77, 67, 95, 77, 111, 118, 101, 82, 101, 108, 97, 116, 105, 118, 101], [73, 105, 73, 73, 73, 111, 111, 111, 111, 111, 46, 46], [[65, 120, 105, 115], [69, 120, 101, 99, 117, 116, 101], [68, 105, 115, 116, 97, 110, 99, 101], [86, 101, 108, 111, 99, 105, 116, 121], [66, 117, 102, 102, 101, 114, 77, 111, 100, 101], [68, 111, 110, 101], [66, 117, 115, 121], [65, 99, 116, 105, 118, 101], [67, 111, 109, 109, 97, 110, 100, 65, 98, 111, 114, 116, 101, 100], [69, 114, 114, 111, 114]]),
 (26, [77, 67, 95, 77, 111, 118, 101, 65, 100, 100, 105, 116, 105, 118, 101], [73, 105, 73, 73, 73, 111, 111, 111, 111, 111, 46, 46], [[65, 120, 105, 115], [69, 120, 101, 99, 117, 116, 101], [68, 105, 115, 116, 97, 110, 99, 101], [86, 101, 108, 111, 99, 105, 116, 121], [66, 117, 102, 102, 101, 114, 77, 111, 100, 101], [68, 111, 110, 101], [66, 117, 115, 121], [65, 99, 116, 105, 118, 101], [67, 111, 109, 109, 97, 110, 100, 65, 98, 111, 114, 116, 101, 100], [69, 114, 114, 111, 114]]),
 (27, [77, 67, 95, 77, 111, 118, 101, 86, 101, 108, 111, 99, 105, 116, 121], [73, 105, 73, 111, 111, 111, 111, 111, 46, 46], [[65, 120, 105, 115], [69, 120, 101, 99, 117, 116, 101], [86, 101, 108, 111, 99, 105, 116, 121], [73, 110, 86, 101, 108, 111, 99, 105, 116, 121], [66, 117, 115, 121], [65, 99, 116, 105, 118, 101], [67, 111, 109, 109, 97, 110, 100, 65, 98, 111, 114, 116, 101, 100], [69, 114, 114, 111, 114]]),
 (28, [77, 67, 95, 71, 101, 97, 114, 73, 110], [73, 105, 73, 73, 73, 111, 111, 111, 111, 111, 46, 46], [[65, 120, 105, 115], [69, 120, 101, 99, 117, 116, 101], [77, 97, 115, 116, 101, 114], [78, 117, 109, 101, 114, 97, 116, 111, 114], [68, 101, 110, 111, 109, 105, 110, 97, 116, 111, 114], [73, 110, 71, 101, 97, 114], [66, 117, 115, 121], [65, 99, 116, 105, 118, 101], [67, 111, 109, 109, 97, 110, 100, 65, 98, 111, 114, 116, 101, 100], [69, 114, 114, 111, 114]]),
 (29, [77, 67, 95, 82, 101, 115, 101, 116], [73, 105, 111, 111, 46], [[65, 120, 105, 115], [69, 120, 101, 99, 117, 116, 101], [68, 111, 110, 101], [69, 114, 114, 111, 114]]),
 (30, [77, 67, 95, 83, 101, 116, 80, 111, 115, 105, 116, 105, 111, 110], [73, 105, 73, 111, 111, 46], [[65, 120, 105, 115], [69, 120, 101, 99, 117, 116, 101], [80, 111, 115, 105, 116, 105, 111, 110], [68, 111, 110, 101], [69, 114, 114, 111, 114]]),
 (31, [77, 67, 95, 83, 101, 116, 79, 118, 101, 114, 114, 105, 100, 101], [73, 105, 73, 111], [[65, 120, 105, 115], [69, 110, 97, 98, 108, 101], [80, 101, 114, 99, 101, 110, 116], [69, 110, 97, 98, 108, 101, 100]])]
def rwD (r : Rw) : D := .agg [.int .i64 r.1, .str r.2.1, .str r.2.2.1, .list (r.2.2.2.map .str)]
theorem rows_r : callT ctx 82 [] [] = some (.ret (.d (.list (rwT.map rwD))), []) := callT_of 120 (by kernel_rfl)
def nmIn (k : Int) : List Rw → Tx
 | [] => []
 | r :: l => if r.1 = k then r.2.1 else nmIn k l
theorem nm_loop (q : Int) (l : List Rw) (hl : l.length < 1000) (k : Kt) (RF : Tx → Ans)
 (h1 : ∀ t, k .ret ⟨24, gl0, [(2, true, .d (.str t))], []⟩ = RF t)
 (h2 : ∀ Y : Env, k (.exit 0) ⟨24, gl0, Y, []⟩ = RF []) : ∀ (rest pre : List Rw), l = pre ++ rest →
 denK ctx 43 (.loop (Code.at (codeOf Tryz.f43) [1, 1, 0, 1, 0, 0])) ⟨24, gl0, [(0, true, .d (.int .i64 q)), (3, true, .d (.list (l.map rwD))), (4, true, .d (.int .i64 pre.length))], []⟩ k = RF (nmIn q rest)
 | [], pre, hd => by
  have hl0 : pre.length = l.length := by rw [hd]; simp
  rw [hl0, denK_loop]
  simp [Tryz.f43, h2, nmIn]
 | x :: rest, pre, hd => by
  have hb1 : pre.length < l.length := by rw [hd]; simp
  have hb2 : l[pre.length] = x := by simp [hd]
  have ih := nm_loop q l hl k RF h1 h2 rest (pre ++ [x]) (by simp [hd])
  have w1 : IntKind.i64.wrap ((pre.length : Int) + 1) = (pre.length : Int) + 1 := wrap_id (by unfold I64; omega)
  rw [denK_loop]
  by_cases hq : x.1 = q
  · simp [Tryz.f43]
    simp [hb1, hb2, rwD, hq, h1, nmIn]
  · simp [Tryz.f43] at ih ⊢
    simp [hb1, hb2, rwD, hq, w1, ih, nmIn]
theorem nm_r (q : Int) : callT ctx 43 [.d (.int .i64 q)] [] = some (.ret (.d (.str (nmIn q rwT))), []) := by
 have h := fun k RF h1 h2 => nm_loop q rwT (by decide) k RF h1 h2 rwT [] rfl
 have hr := rows_r
 rw [run43 (by simp)]
 generalize rwT = l at *
 simp [Tryz.f43] at h ⊢
 simp [hr]
 rw [h _ (fun t => some (.ret (.d (.str t)), [])) (by simp) (by simp)]
theorem nm_kind (q : Int) : (nmIn q rwT = []) ↔ kindT q = false := by
 by_cases h : 10 ≤ q ∧ q ≤ 31
 · have : q = 10 ∨ q = 11 ∨ q = 12 ∨ q = 13 ∨ q = 14 ∨ q = 15 ∨ q = 16 ∨ q = 17 ∨ q = 18 ∨ q = 19 ∨ q = 20 ∨ q = 21 ∨ q = 22 ∨ q = 23 ∨ q = 24 ∨ q = 25 ∨ q = 26 ∨ q = 27 ∨ q = 28 ∨ q = 29 ∨ q = 30 ∨ q = 31 := by omega
   rcases this with h | h | h | h | h | h | h | h | h | h | h | h | h | h | h | h | h | h | h | h | h | h <;> subst h <;> decide
 · have e : ∀ n : Int, 10 ≤ n → n ≤ 31 → ¬ n = q := fun n a b c => h (by omega)
   have e1 : pinsF q = [] := by
    unfold pinsF pnT
    simp only [pinsT]
    rw [if_neg (e _ (by decide) (by decide)), if_neg (e _ (by decide) (by decide)), if_neg (e _ (by decide) (by decide)), if_neg (e _ (by decide) (by decide)), if_neg (e _ (by decide) (by decide)), if_neg (e _ (by decide) (by decide)), if_neg (e _ (by decide) (by decide)), if_neg (e _ (by decide) (by decide)), if_neg (e _ (by decide) (by decide)), if_neg (e _ (by decide) (by decide)), if_neg (e _ (by decide) (by decide)), if_neg (e _ (by decide) (by decide)), if_neg (e _ (by decide) (by decide)), if_neg (e _ (by decide) (by decide)), if_neg (e _ (by decide) (by decide)), if_neg (e _ (by decide) (by decide)), if_neg (e _ (by decide) (by decide)), if_neg (e _ (by decide) (by decide)), if_neg (e _ (by decide) (by decide)), if_neg (e _ (by decide) (by decide)), if_neg (e _ (by decide) (by decide))]
   have e2 : nmIn q rwT = [] := by
    unfold rwT
    simp only [nmIn]
    rw [if_neg (e _ (by decide) (by decide)), if_neg (e _ (by decide) (by decide)), if_neg (e _ (by decide) (by decide)), if_neg (e _ (by decide) (by decide)), if_neg (e _ (by decide) (by decide)), if_neg (e _ (by decide) (by decide)), if_neg (e _ (by decide) (by decide)), if_neg (e _ (by decide) (by decide)), if_neg (e _ (by decide) (by decide)), if_neg (e _ (by decide) (by decide)), if_neg (e _ (by decide) (by decide)), if_neg (e _ (by decide) (by decide)), if_neg (e _ (by decide) (by decide)), if_neg (e _ (by decide) (by decide)), if_neg (e _ (by decide) (by decide)), if_neg (e _ (by decide) (by decide)), if_neg (e _ (by decide) (by decide)), if_neg (e _ (by decide) (by decide)), if_neg (e _ (by decide) (by decide)), if_neg (e _ (by decide) (by decide)), if_neg (e _ (by decide) (by decide))]
   rw [e2]
   unfold kindT
   rw [e1]
   simp
section
variable {vs : List Vr} {n : Int}
theorem kcall_loop (x : Sm) (v : Vr) (hln : (smf x).length < 100000000) (hC : ∀ y ∈ smc x, KX vs n y) (v0 v1 : Nat) (k : Kt) (R : Ans) (RP : EL → Ans)
 (hp : ∀ env v2 X2 e ln, k (.panic 174 (ftD e ln)) ⟨70, gl0, env, [⟨0, 0, .box [.vec 1 0 0 vs.length, .d (.int .i64 n)]⟩, ⟨1, 0, .vec 8 (vs.map vrD)⟩, ⟨250, v0, bxS x⟩, ⟨300, v1, bxV v⟩, ⟨450, v2, X2⟩]⟩ = RP (e, ln))
 (hpk : ∀ N env e ln, k (.panic 174 (ftD e ln)) ⟨70, gl0, env, [⟨0, 0, .box [.vec 1 0 0 vs.length, .d (.int .i64 n)]⟩, ⟨1, 0, .vec 8 (vs.map vrD)⟩, ⟨250, N, .dead⟩, ⟨300, N, .dead⟩, ⟨450, N, .dead⟩]⟩ = RP (e, ln))
 (hx : ∀ v2 X2, k (.exit 0) ⟨70, gl0, [(0, true, .ptr 0 0 0), (3, true, .ptr 250 v0 0), (4, true, .ptr 300 v1 0), (21, true, .d (.list ((smf x).map .str))), (22, true, .d (.int .i64 (smf x).length)), (23, true, .d (.int .i64 (smf x).length)), (24, true, .d (.bool false))], [⟨0, 0, .box [.vec 1 0 0 vs.length, .d (.int .i64 n)]⟩, ⟨1, 0, .vec 8 (vs.map vrD)⟩, ⟨250, v0, bxS x⟩, ⟨300, v1, bxV v⟩, ⟨450, v2, X2⟩]⟩ = R) :
 ∀ (rf pf : List Tx) (rc pc : List Ex) (v2 : Nat) (X2 : Cont), smf x = pf ++ rf → smc x = pc ++ rc → pc.length = pf.length → rc.length = rf.length →
 denK ctx 158 (.loop (Code.at (codeOf Tryz.f158) [1, 1, 1, 1, 0, 0])) ⟨70, gl0, [(0, true, .ptr 0 0 0), (3, true, .ptr 250 v0 0), (4, true, .ptr 300 v1 0), (21, true, .d (.list ((smf x).map .str))), (22, true, .d (.int .i64 (smf x).length)), (23, true, .d (.int .i64 pf.length))], [⟨0, 0, .box [.vec 1 0 0 vs.length, .d (.int .i64 n)]⟩, ⟨1, 0, .vec 8 (vs.map vrD)⟩, ⟨250, v0, bxS x⟩, ⟨300, v1, bxV v⟩, ⟨450, v2, X2⟩]⟩ k = if (callE vs v.ty (sml x) rf rc pf).1 = 0 then R else RP (callE vs v.ty (sml x) rf rc pf)
 | [], pf, rc, pc, v2, X2, hf, hc, hpl, hrl => by
  have hx := hx v2 X2
  have hl0 : pf.length = (smf x).length := by rw [hf]; simp
  have e : callE vs v.ty (sml x) [] rc pf = (0, 0) := by simp [callE]
  rw [e, hl0]
  simp only [bxS, bxV] at hx ⊢
  rw [denK_loop]
  simp [Tryz.f158, hx]
 | f :: rf, pf, [], pc, v2, X2, hf, hc, hpl, hrl => by simp at hrl
 | f :: rf, pf, y :: rc, pc, v2, X2, hf, hc, hpl, hrl => by
  have hf1 : pf.length < (smf x).length := by rw [hf]; simp
  have hf2 : (smf x)[pf.length] = f := by simp [hf]
  have hf3 : List.take pf.length ((smf x).map D.str) = pf.map D.str := by rw [← List.map_take, hf]; simp
  have hc1 : pf.length < (smc x).length := by rw [hc]; simp; omega
  have hc2 : (smc x)[pf.length] = y := by simp [hc, ← hpl]
  have hp3 : pf.length ≤ (smf x).length := by omega
  have w2 : IntKind.i64.wrap ((pf.length : Int) + 1) = pf.length + 1 := wrap_id (by unfold I64; omega)
  have hy := hC y (by rw [hc]; simp)
  unfold KX at hy
  have hpin := kpin_r v f
  have hct := scont_r pf f (by omega)
  have ih := fun v2 X2 => kcall_loop x v hln hC v0 v1 k R RP hp hpk hx rf (pf ++ [f]) rc (pc ++ [y]) v2 X2 (by simp [hf]) (by simp [hc]) (by simp [hpl]) (by simpa using hrl)
  simp [vrD, vrC] at hpin
  simp only [bxS, bxV] at hp hpk
  rw [denK_loop]
  unfold callE
  cases hq : pinF v.ty f with
  | none =>
   simp [hq, fP, pnD, pnZ] at hpin
   simp [Tryz.f158]
   simp [hf1, hf2, w2, hpin, need_r, kB2, hp]
  | some q =>
   simp [hq, fP, pnD] at hpin
   simp only
   by_cases hin : q.inp = false
   · rw [if_pos hin]
     simp [Tryz.f158]
     simp [hf1, hf2, w2, hpin, hin, need_r, kB2, hp]
   · rw [if_neg hin]
     have hin : q.inp = true := by simpa using hin
     by_cases hm : f ∈ pf
     · rw [if_pos hm]
       simp [hm] at hct
       simp [Tryz.f158]
       simp [hf1, hf2, hf3, hp3, w2, hpin, hin, hct, need_r, kB2, hp, hpk, drwK_end]
     · rw [if_neg hm]
       simp [hm] at hct
       by_cases he : (tyX vs y).e = 0
       · simp [he] at hy
         by_cases ht : (tyX vs y).t = q.ty
         · have e : ∀ r, orE (wantX vs y q.ty) r = r := fun r => by simp [orE, wantX, he, ht]
           rw [e]
           simp [Tryz.f158] at ih ⊢
           simp [hf1, hf2, hf3, hp3, hc1, hc2, w2, hpin, hin, hct, hy, he, ht, need_r, kB2, drwK_end, exD_A, ih]
         · have e : ∀ r, orE (wantX vs y q.ty) r = (10, exl y) := fun r => by simp [orE, wantX, he, ht]
           rw [e]
           simp [Tryz.f158]
           simp [hf1, hf2, hf3, hp3, hc1, hc2, w2, hpin, hin, hct, hy, he, ht, need_r, kB2, drwK_end, exD_A, hp, hpk]
       · simp [he] at hy
         have e : ∀ r, orE (wantX vs y q.ty) r = ((tyX vs y).e, (tyX vs y).line) := fun r => by simp [orE, wantX, he]
         rw [e]
         simp [Tryz.f158]
         simp [hf1, hf2, hf3, hp3, hc1, hc2, w2, hpin, hin, hct, hy, he, need_r, kB2, drwK_end, exD_A, hp, hpk]
end
section
variable {vs : List Vr} {n : Int} (hl : vs.length < 1000000) (hvs : ∀ v ∈ vs, fitV v = true)
def caE (vs : List Vr) (x : Sm) : EL := match findV vs (sma x) with
 | none => (9, sml x)
 | some v => if v.ty ≤ 2 then (10, sml x) else callE vs v.ty (sml x) (smf x) (smc x) []
def coE (vs : List Vr) (x : Sm) : EL := match findV vs (sma x) with
 | none => (9, sml x)
 | some v => if v.sec = 1 then (1, sml x) else if v.arr = true ∨ v.ty ≠ 1 then (10, sml x) else orE (wantsE vs 1 (smc x)) (chH vs (smb x))
include hl hvs
omit hvs in
theorem kcall_r {x : Sm} (hln : (smf x).length < 100000000) (hlen : (smc x).length = (smf x).length) (hC : ∀ y ∈ smc x, KX vs n y) : callT ctx 158 [.ptr 0 0 0, .d (.agg (smL x))] [.box [.vec 1 0 0 vs.length, .d (.int .i64 n)], .vec 8 (vs.map vrD)] =
 ansE vs n n (caE vs x) := by
 have hv := kvariable_r (n := n) hl (sma x) (sml x)
 unfold caE
 rw [run158 (by simp)]
 cases hf : findV vs (sma x) with
 | none =>
  simp [hf] at hv
  simp [Tryz.f158, hv, kB2, ansE]
 | some v =>
  have hb := kblock_r v
  simp [hf, fV, vrD, vrC] at hv hb
  simp only
  by_cases h2 : v.ty ≤ 2
  · have h3 : ¬ 2 < v.ty := by omega
    rw [if_pos h2]
    simp [h3] at hb
    simp [Tryz.f158, hv, hb, need_r, kB2, drwK_end, ansE, vrD, vrC]
  · have h3 : 2 < v.ty := by omega
    rw [if_neg h2]
    simp [h3] at hb
    have h := fun v0 v1 k R RP hp hpk hx v2 X2 => kcall_loop (n := n) x v hln hC v0 v1 k R RP hp hpk hx (smf x) [] (smc x) [] v2 X2 rfl rfl rfl hlen
    simp [Tryz.f158] at h
    simp [Tryz.f158, hv, hb, need_r, kB2, drwK_end, vrD, vrC]
    rw [h _ _ _ (some (.ret (.tup []), kB2 vs n)) (fun e => some (.panic 174 (ftD e.1 e.2), kB2 vs n))]
    · simp [ansE]
    · intro env v2 X2 e ln
      simp [kB2]
    · intro N env e ln
      simp [kB2]
    · intro v2 X2
      simp [kB2]
theorem kcounted_r {x : Sm} {b : List Sm} (hb : smb x = [b]) (hln : (smc x).length < 100000000) (hC : ∀ y ∈ smc x, KX vs n y) (h0 : 0 ≤ n) (hn : n < 100000000) (hK : KMs vs (n + 1) b) : ∃ n', callT ctx 155 [.ptr 0 0 0, .d (.agg (smL x))] [.box [.vec 1 0 0 vs.length, .d (.int .i64 n)], .vec 8 (vs.map vrD)] =
 ansE vs n n' (coE vs x) := by
 have hv := kvariable_r (n := n) hl (sma x) (sml x)
 obtain ⟨n', hlo⟩ := kloop_r h0 hn hK
 unfold coE
 rw [hb, show chH vs [b] = chMs vs true b by simp [chH]]
 generalize chMs vs true b = E at *
 cases hf : findV vs (sma x) with
 | none =>
  refine ⟨n, ?_⟩
  rw [run155 (by simp)]
  simp [hf] at hv
  simp [Tryz.f155, hv, kB2, ansE]
 | some v =>
  simp [hf, fV, vrD, vrC] at hv
  simp only
  by_cases hs : v.sec = 1
  · refine ⟨n, ?_⟩
    rw [run155 (by simp)]
    simp [Tryz.f155, hv, need_r, kB2, ansE, hs]
  · rw [if_neg hs]
    by_cases ha : v.arr = true ∨ v.ty ≠ 1
    · refine ⟨n, ?_⟩
      rw [if_pos ha]
      rw [run155 (by simp)]
      cases harr : v.arr with
      | true => simp [Tryz.f155, hv, need_r, kB2, ansE, hs, harr]
      | false =>
       have h1 : ¬ v.ty = 1 := by rw [harr] at ha; simpa using ha
       simp [Tryz.f155, hv, need_r, kB2, ansE, hs, harr, h1]
    · rw [if_neg ha]
      simp only [not_or, Bool.not_eq_true, ne_eq, Classical.not_not] at ha
      obtain ⟨harr, h1⟩ := ha
      have h := fun E1 E2 h1 h2 v0 k R RP hp hx v2 X2 => kcounted_loop (vs := vs) (n := n) x hln hC E1 E2 h1 h2 v0 k R RP hp hx (smc x) [] v2 X2 rfl
      simp [Tryz.f155] at h
      generalize wantsE vs 1 (smc x) = W at *
      by_cases hW : W.1 = 0
      · refine ⟨n', ?_⟩
        have e : orE W E = E := by unfold orE; rw [if_neg (by simp [hW])]
        rw [e]
        rw [run155 (by simp)]
        simp [Tryz.f155, hv, need_r, kB2, hs, harr, h1]
        rw [h ⟨250, _, _⟩ ⟨300, _, _⟩ rfl rfl _ _ (ansE vs n n' E) (fun e => some (.panic 174 (ftD e.1 e.2), kB2 vs n))]
        · rw [if_pos hW]
        · intro env v2 X2 e ln
          simp [kB2]
        · intro v2 X2
          by_cases hE : E.1 = 0
          · simp [ansE, hE] at hlo
            simp [hb, bkD, hlo, kB2, ansE, hE]
          · simp [ansE, hE] at hlo
            simp [hb, bkD, hlo, kB2, ansE, hE]
      · refine ⟨n, ?_⟩
        have e : orE W E = W := by unfold orE; rw [if_pos hW]
        rw [e]
        rw [run155 (by simp)]
        simp [Tryz.f155, hv, need_r, kB2, hs, harr, h1]
        rw [h ⟨250, _, _⟩ ⟨300, _, _⟩ rfl rfl _ _ (ansE vs n n' E) (fun e => some (.panic 174 (ftD e.1 e.2), kB2 vs n))]
        · rw [if_neg hW]; simp [ansE, hW]
        · intro env v2 X2 e ln
          simp [kB2]
        · intro v2 X2
          by_cases hE : E.1 = 0
          · simp [ansE, hE] at hlo
            simp [hb, bkD, hlo, kB2, ansE, hE]
          · simp [ansE, hE] at hlo
            simp [hb, bkD, hlo, kB2, ansE, hE]
omit hl hvs in
theorem kbranches_r {x : Sm} (hln : (smb x).length < 100000000) (hle : (smc x).length ≤ (smb x).length) (hK : ∀ b ∈ smb x, KMs vs n b) (hC : ∀ y ∈ smc x, KX vs n y) : ∃ n', callT ctx 153 [.ptr 0 0 0, .d (.agg (smL x))] [.box [.vec 1 0 0 vs.length, .d (.int .i64 n)], .vec 8 (vs.map vrD)] =
 ansE vs n n' (chC vs (decide (0 < n)) (smc x) (smb x)) := by
 have hq : ∃ n', callT ctx 153 [.ptr 0 0 0, .d (.agg (smL x))] [.box [.vec 1 0 0 vs.length, .d (.int .i64 n)], .vec 8 (vs.map vrD)] = if (chC vs (decide (0 < n)) (smc x) (smb x)).1 = 0 then some (.ret (.tup []), kB2 vs n) else (fun (e : EL) n' => some (Out.panic 174 (ftD e.1 e.2), kB2 vs n')) (chC vs (decide (0 < n)) (smc x) (smb x)) n' := by
  rw [run153 (by simp)]
  have h := fun v0 k R RP hp hx => kbranch_loop (vs := vs) (n := n) x hln hK hC v0 k R RP hp hx (smb x) [] (smc x) [] rfl rfl (.inl rfl)
  simp [Tryz.f153] at h ⊢
  refine h _ _ (some (.ret (.tup []), kB2 vs n)) (fun (e : EL) n' => some (Out.panic 174 (ftD e.1 e.2), kB2 vs n')) ?_ ?_
  · intro env e ln n'
    simp [kB2]
  · simp [kB2]
 exact hq
end
theorem chM_A (vs : List Vr) (lp : Bool) (x : Sm) : chM vs lp x =
 if smo x = 1 then asE vs (smt x) (smv x) (sml x)
 else if smo x = 2 then chC vs lp (smc x) (smb x)
 else if smo x = 3 then orE (wantX vs (smv x) 1) (chC vs lp [] (smb x))
 else if smo x = 4 then coE vs x
 else if smo x = 5 then orE (wantX vs (smv x) 2) (chH vs (smb x))
 else if smo x = 6 then orE (chH vs (smb x)) (wantX vs (smv x) 2)
 else if smo x = 7 then (if lp = true then (0, 0) else (14, sml x))
 else if smo x = 9 then caE vs x
 else (0, 0) := by
 obtain ⟨op, name, to, val, conds, labels, fields, blocks, line⟩ := x
 unfold chM coE caE
 rfl
mutual
def ndM : Sm → Nat
 | .mk _ _ _ _ conds labels fields blocks _ => 1 + conds.length + labels.length + fields.length + ndBs blocks
def ndMs : List Sm → Nat
 | [] => 0
 | x :: r => ndM x + ndMs r
def ndBs : List (List Sm) → Nat
 | [] => 0
 | b :: r => ndMs b + 1 + ndBs r
end
theorem ndMs_len : ∀ l : List Sm, l.length ≤ ndMs l
 | [] => by simp [ndMs]
 | .mk _ _ _ _ c lb f bl _ :: r => by have := ndMs_len r; simp only [ndMs, ndM, List.length_cons]; omega
theorem ndBs_len : ∀ l : List (List Sm), l.length ≤ ndBs l
 | [] => by simp [ndBs]
 | b :: r => by have := ndBs_len r; simp only [ndBs, List.length_cons]; omega
section
variable {vs : List Vr} {n : Int} (hl : vs.length < 1000000) (hvs : ∀ v ∈ vs, fitV v = true)
theorem kstmts_r {l : List Sm} (hln : l.length < 100000000) (hK : ∀ x ∈ l, KM vs n x) : KMs vs n l := by
 have loop : ∀ (k : Kt) (R : Ans) (RP : EL → Int → Ans),
  (∀ env v2 X2 e ln n', k (.panic 174 (ftD e ln)) ⟨16, gl0, env, [⟨0, 0, .box [.vec 1 0 0 vs.length, .d (.int .i64 n')]⟩, ⟨1, 0, .vec 8 (vs.map vrD)⟩, ⟨350, v2, X2⟩]⟩ = RP (e, ln) n') →
  (∀ v2 X2, k (.exit 0) ⟨16, gl0, [(0, true, .ptr 0 0 0), (6, true, .d (.list (l.map smD))), (7, true, .d (.int .i64 l.length)), (8, true, .d (.int .i64 l.length)), (9, true, .d (.bool false))], [⟨0, 0, .box [.vec 1 0 0 vs.length, .d (.int .i64 n)]⟩, ⟨1, 0, .vec 8 (vs.map vrD)⟩, ⟨350, v2, X2⟩]⟩ = R) →
  ∀ (rest pre : List Sm) (v2 : Nat) (X2 : Cont), l = pre ++ rest → ∃ n',
  denK ctx 67 (.loop (Code.at (codeOf Tryz.f67) [1, 0, 0])) ⟨16, gl0, [(0, true, .ptr 0 0 0), (6, true, .d (.list (l.map smD))), (7, true, .d (.int .i64 l.length)), (8, true, .d (.int .i64 pre.length))], [⟨0, 0, .box [.vec 1 0 0 vs.length, .d (.int .i64 n)]⟩, ⟨1, 0, .vec 8 (vs.map vrD)⟩, ⟨350, v2, X2⟩]⟩ k = if (chMs vs (decide (0 < n)) rest).1 = 0 then R else RP (chMs vs (decide (0 < n)) rest) n' := by
  intro k R RP hp hx rest
  induction rest with
  | nil =>
   intro pre v2 X2 hd
   refine ⟨0, ?_⟩
   have hx := hx v2 X2
   have hl0 : pre.length = l.length := by rw [hd]; simp
   rw [hl0, denK_loop]
   simp [Tryz.f67, chMs, hx]
  | cons x rest ih =>
   intro pre v2 X2 hd
   have hb1 : pre.length < l.length := by rw [hd]; simp
   have hb2 : l[pre.length] = x := by simp [hd]
   have w2 : IntKind.i64.wrap ((pre.length : Int) + 1) = pre.length + 1 := wrap_id (by unfold I64; omega)
   obtain ⟨nx, hs⟩ := hK x (by rw [hd]; simp)
   have e0 : chMs vs (decide (0 < n)) (x :: rest) = orE (chM vs (decide (0 < n)) x) (chMs vs (decide (0 < n)) rest) := by simp [chMs]
   rw [e0]
   generalize chM vs (decide (0 < n)) x = E at *
   by_cases hE : E.1 = 0
   · obtain ⟨n', ih⟩ := ih (pre ++ [x]) (v2 + 1) (bxS x) (by simp [hd])
     refine ⟨n', ?_⟩
     have e2 : ∀ r, orE E r = r := fun r => by unfold orE; rw [if_neg (by simp [hE])]
     rw [e2, ← ih]
     simp [ansE, hE] at hs
     rw [denK_loop]
     simp [Tryz.f67]
     simp [hb1, hb2, w2, hs, kB2, smD_A]
   · refine ⟨nx, ?_⟩
     have e2 : ∀ r, orE E r = E := fun r => by unfold orE; rw [if_pos hE]
     rw [e2, if_neg hE]
     simp [ansE, hE] at hs
     rw [denK_loop]
     simp [Tryz.f67]
     simp [hb1, hb2, w2, hs, kB2, smD_A, hp]
 have hq : ∃ n', callT ctx 67 [.ptr 0 0 0, .d (.list (l.map smD))] [.box [.vec 1 0 0 vs.length, .d (.int .i64 n)], .vec 8 (vs.map vrD)] = if (chMs vs (decide (0 < n)) l).1 = 0 then some (.ret (.tup []), kB2 vs n) else (fun (e : EL) n' => some (Out.panic 174 (ftD e.1 e.2), kB2 vs n')) (chMs vs (decide (0 < n)) l) n' := by
  rw [run67 (by simp)]
  have h := fun k R RP hp hx v2 X2 => loop k R RP hp hx l [] v2 X2 rfl
  simp [Tryz.f67] at h ⊢
  refine h _ (some (.ret (.tup []), kB2 vs n)) (fun (e : EL) n' => some (Out.panic 174 (ftD e.1 e.2), kB2 vs n')) ?_ ?_ _ _
  · intro env v2 X2 e ln n'
    simp [kB2]
  · intro v2 X2
    simp [kB2]
 exact hq
end
section
variable {vs : List Vr} {n : Int} (hl : vs.length < 1000000) (hvs : ∀ v ∈ vs, fitV v = true)
theorem orE_l {a b : EL} (h : a.1 = 0) : orE a b = b := by unfold orE; rw [if_neg (by simp [h])]
theorem orE_r {a b : EL} (h : ¬ a.1 = 0) : orE a b = a := by unfold orE; rw [if_pos h]
theorem idx_one {y : Ex} (h4 : exo y = 4) (hf : fitX y = true) : ∃ z, exs y = [z] ∧ fitX z = true := by
 obtain ⟨op, nn, name, field, sub, line⟩ := y
 simp only [exo_mk] at h4
 subst h4
 simp only [fitX, Bool.and_eq_true, decide_eq_true_eq] at hf
 obtain ⟨_, hlen, _, _, hsub⟩ := hf
 match sub, hlen with
 | [z], _ => exact ⟨z, rfl, by simpa [fitXs] using hsub⟩
 | [], h => simp [subsN] at h
 | _ :: _ :: _, h => simp [subsN] at h
include hl hvs
omit hvs in
theorem kstmt_hi {x : Sm} (hC : ∀ y ∈ smc x, KX vs n y) (hlf : (smf x).length < 100000000) (hshape : shapeB (smo x) (smc x).length (smlb x).length (smf x).length (smb x).length = true) (h1 : ¬ smo x = 1) (h2 : ¬ smo x = 2) (h3 : ¬ smo x = 3) (h4 : ¬ smo x = 4) (h5 : ¬ smo x = 5) (h6 : ¬ smo x = 6) :
 callT ctx 104 [.ptr 0 0 0, .d (.agg (smL x))] [.box [.vec 1 0 0 vs.length, .d (.int .i64 n)], .vec 8 (vs.map vrD)] = ansE vs n n (if smo x = 7 then (if decide (0 < n) = true then (0, 0) else (14, sml x)) else if smo x = 9 then caE vs x else (0, 0)) := by
 rw [run104 (by simp)]
 by_cases h7 : smo x = 7
 · rw [if_pos h7]
   by_cases hp : 0 < n
   · simp [Tryz.f104, h7, need_r, hp, kB2, drwK_end, ansE]
   · simp [Tryz.f104, h7, need_r, hp, kB2, drwK_end, ansE]
 · rw [if_neg h7]
   by_cases h9 : smo x = 9
   · have hs := hshape
     rw [h9] at hs
     simp [shapeB] at hs
     have hc := kcall_r (vs := vs) (n := n) hl hlf hs.1 hC
     rw [if_pos h9]
     generalize caE vs x = E at *
     by_cases hE : E.1 = 0
     · simp [ansE, hE, h9] at hc
       simp [Tryz.f104, h9, hc, kB2, ansE, hE]
     · simp [ansE, hE, h9] at hc
       simp [Tryz.f104, h9, hc, kB2, ansE, hE]
   · rw [if_neg h9]
     simp [Tryz.f104, h1, h2, h3, h4, h5, h6, h7, h9, kB2, ansE]
theorem kstmt_r {x : Sm} (hf : fitM x = true) (hlb : (smb x).length < 100000000) (hlc : (smc x).length < 100000000) (hlf : (smf x).length < 100000000) (h0 : 0 ≤ n) (hn : n < 100000000) (hB : ∀ b ∈ smb x, KMs vs n b ∧ KMs vs (n + 1) b) : KM vs n x := by
 have hA := chM_A vs (decide (0 < n)) x
 have hfx : ∃ op name to val conds labels fields blocks line, x = .mk op name to val conds labels fields blocks line := by
  obtain ⟨op, name, to, val, conds, labels, fields, blocks, line⟩ := x
  exact ⟨op, name, to, val, conds, labels, fields, blocks, line, rfl⟩
 have facts : (1 ≤ smo x ∧ smo x ≤ 9) ∧ (smo x = 1 → (exo (smt x) = 3 ∨ exo (smt x) = 4) ∧ fitX (smt x) = true) ∧ ((smo x = 1 ∨ smo x = 3 ∨ smo x = 5 ∨ smo x = 6) → fitX (smv x) = true) ∧ fitXs (smc x) = true ∧ shapeB (smo x) (smc x).length (smlb x).length (smf x).length (smb x).length = true := by
  obtain ⟨op, name, to, val, conds, labels, fields, blocks, line, rfl⟩ := hfx
  simp only [fitM, Bool.and_eq_true, decide_eq_true_eq] at hf
  obtain ⟨hop, hname, hto, hval, hconds, hshape, hfields, hlabels, hblocks⟩ := hf
  refine ⟨hop, fun h1 => ?_, fun h1 => ?_, hconds, hshape⟩
  · simp only [smo_mk] at h1
    rw [if_pos h1] at hto
    simpa using hto
  · simp only [smo_mk] at h1
    rw [if_pos h1] at hval
    simp only [Bool.and_eq_true] at hval
    exact hval.2
 obtain ⟨hop, hto, hval, hconds, hshape⟩ := facts
 have hC := kexprs_r (n := n) hl hvs (smc x) hconds
 unfold KM
 rw [hA]
 by_cases h1 : smo x = 1
 · obtain ⟨h3, hft⟩ := hto h1
   have ha := kassign_r hl hvs (n := n) h3 (kexpr_r hl hvs _ (hval (.inl h1))) (fun h4 => by
    obtain ⟨y, hy, hfy⟩ := idx_one h4 hft
    exact ⟨y, hy, kexpr_r hl hvs y hfy⟩)
   refine ⟨n, ?_⟩
   rw [if_pos h1]
   generalize asE vs (smt x) (smv x) (sml x) = E at *
   rw [run104 (by simp)]
   by_cases hE : E.1 = 0
   · simp [ansE, hE, h1] at ha
     simp [Tryz.f104, h1, ha, kB2, ansE, hE]
   · simp [ansE, hE, h1] at ha
     simp [Tryz.f104, h1, ha, kB2, ansE, hE]
 · rw [if_neg h1]
   by_cases h2 : smo x = 2
   · have hs := hshape
     rw [h2] at hs
     simp [shapeB] at hs
     obtain ⟨n', hb⟩ := kbranches_r hlb (by omega) (fun b hb => (hB b hb).1) hC
     refine ⟨n', ?_⟩
     rw [if_pos h2]
     generalize chC vs (decide (0 < n)) (smc x) (smb x) = E at *
     rw [run104 (by simp)]
     by_cases hE : E.1 = 0
     · simp [ansE, hE, h2] at hb
       simp [Tryz.f104, h2, hb, kB2, ansE, hE]
     · simp [ansE, hE, h2] at hb
       simp [Tryz.f104, h2, hb, kB2, ansE, hE]
   · rw [if_neg h2]
     by_cases h3 : smo x = 3
     · have hs := hshape
       rw [h3] at hs
       simp [shapeB] at hs
       have hc0 : smc x = [] := List.eq_nil_of_length_eq_zero (by simp [hs.1])
       obtain ⟨n', hb⟩ := kbranches_r hlb (by rw [hc0]; simp) (fun b hb => (hB b hb).1) hC
       have hw := knumber_r (kexpr_r hl hvs (n := n) _ (hval (.inr (.inl h3))))
       rw [if_pos h3]
       simp only [smL, hc0] at hb ⊢
       generalize chC vs (decide (0 < n)) [] (smb x) = E at *
       generalize wantX vs (smv x) 1 = W at *
       by_cases hW : W.1 = 0
       · refine ⟨n', ?_⟩
         rw [orE_l hW]
         simp [hW] at hw
         rw [run104 (by simp)]
         by_cases hE : E.1 = 0
         · simp [ansE, hE, h3] at hb
           simp [Tryz.f104, h3, hw, hb, kB2, ansE, hE]
         · simp [ansE, hE, h3] at hb
           simp [Tryz.f104, h3, hw, hb, kB2, ansE, hE]
       · refine ⟨n, ?_⟩
         rw [orE_r hW]
         simp [hW] at hw
         rw [run104 (by simp)]
         simp [Tryz.f104, h3, hw, kB2, ansE, hW]
     · rw [if_neg h3]
       by_cases h4 : smo x = 4
       · have hs := hshape
         rw [h4] at hs
         simp [shapeB] at hs
         obtain ⟨b, hb⟩ : ∃ b, smb x = [b] := by
          match hq : smb x, hs.2.2.2 with
          | [b], _ => exact ⟨b, rfl⟩
         obtain ⟨n', hc⟩ := kcounted_r hl hvs hb hlc hC h0 hn (hB b (by rw [hb]; simp)).2
         refine ⟨n', ?_⟩
         rw [if_pos h4]
         generalize coE vs x = E at *
         rw [run104 (by simp)]
         by_cases hE : E.1 = 0
         · simp [ansE, hE, h4] at hc
           simp [Tryz.f104, h4, hc, kB2, ansE, hE]
         · simp [ansE, hE, h4] at hc
           simp [Tryz.f104, h4, hc, kB2, ansE, hE]
       · rw [if_neg h4]
         by_cases h5 : smo x = 5
         · have hs := hshape
           rw [h5] at hs
           simp [shapeB] at hs
           obtain ⟨b, hb⟩ : ∃ b, smb x = [b] := by
            match hq : smb x, hs.2.2.2 with
            | [b], _ => exact ⟨b, rfl⟩
           obtain ⟨n', hc⟩ := kloop_r h0 hn (hB b (by rw [hb]; simp)).2
           have hw := ktruth_r (kexpr_r hl hvs (n := n) _ (hval (.inr (.inr (.inl h5)))))
           rw [if_pos h5]
           have hH : chH vs (smb x) = chMs vs true b := by rw [hb]; simp [chH]
           rw [hH]
           generalize chMs vs true b = E at *
           generalize wantX vs (smv x) 2 = W at *
           by_cases hW : W.1 = 0
           · refine ⟨n', ?_⟩
             rw [orE_l hW]
             simp [hW] at hw
             rw [run104 (by simp)]
             by_cases hE : E.1 = 0
             · simp [ansE, hE] at hc
               simp [Tryz.f104, h5, hw, hc, hb, bkD, kB2, ansE, hE]
             · simp [ansE, hE] at hc
               simp [Tryz.f104, h5, hw, hc, hb, bkD, kB2, ansE, hE]
           · refine ⟨n, ?_⟩
             rw [orE_r hW]
             simp [hW] at hw
             rw [run104 (by simp)]
             simp [Tryz.f104, h5, hw, kB2, ansE, hW]
         · rw [if_neg h5]
           by_cases h6 : smo x = 6
           · have hs := hshape
             rw [h6] at hs
             simp [shapeB] at hs
             obtain ⟨b, hb⟩ : ∃ b, smb x = [b] := by
              match hq : smb x, hs.2.2.2 with
              | [b], _ => exact ⟨b, rfl⟩
             obtain ⟨n', hc⟩ := kloop_r h0 hn (hB b (by rw [hb]; simp)).2
             have hw := ktruth_r (kexpr_r hl hvs (n := n) _ (hval (.inr (.inr (.inr h6)))))
             rw [if_pos h6]
             have hH : chH vs (smb x) = chMs vs true b := by rw [hb]; simp [chH]
             rw [hH]
             generalize chMs vs true b = E at *
             generalize wantX vs (smv x) 2 = W at *
             by_cases hE : E.1 = 0
             · refine ⟨n, ?_⟩
               rw [orE_l hE]
               simp [ansE, hE] at hc
               rw [run104 (by simp)]
               by_cases hW : W.1 = 0
               · simp [hW] at hw
                 simp [Tryz.f104, h6, hw, hc, hb, bkD, kB2, ansE, hW]
               · simp [hW] at hw
                 simp [Tryz.f104, h6, hw, hc, hb, bkD, kB2, ansE, hW]
             · refine ⟨n', ?_⟩
               rw [orE_r hE]
               simp [ansE, hE] at hc
               rw [run104 (by simp)]
               simp [Tryz.f104, h6, hc, hb, bkD, kB2, ansE, hE]
           · rw [if_neg h6]
             exact ⟨n, kstmt_hi hl hC hlf hshape h1 h2 h3 h4 h5 h6⟩
end
theorem kcells_r {v : Vr} (hf : fitV v = true) : callT ctx 88 [.d (vrD v)] [] = some (.ret (.d (.int .i64 (cellsF v))), []) := by
 have hs := spins_r v.ty
 rw [run88 (by simp)]
 unfold cellsF
 cases ha : v.arr with
 | true =>
  simp only [fitV, Bool.and_eq_true, ha, if_true, decide_eq_true_eq] at hf
  have w1 : IntKind.i64.wrap (v.hi - v.lo) = v.hi - v.lo := wrap_id (by unfold I64; omega)
  have w2 : IntKind.i64.wrap (v.hi - v.lo + 1) = v.hi - v.lo + 1 := wrap_id (by unfold I64; omega)
  simp [Tryz.f88, vrD, vrC, ha, w1, w2]
 | false =>
  by_cases h2 : 2 < v.ty
  · simp [Tryz.f88, vrD, vrC, ha, h2, hs]
  · simp [Tryz.f88, vrD, vrC, ha, h2]
theorem cells_small {v : Vr} (hf : fitV v = true) : 0 ≤ cellsF v ∧ cellsF v ≤ 256 := by
 have := pinsF_len v.ty
 unfold cellsF
 cases ha : v.arr with
 | true =>
  simp only [fitV, Bool.and_eq_true, ha, if_true, decide_eq_true_eq] at hf
  simp only [if_true]
  omega
 | false =>
  simp only [Bool.false_eq_true, if_false]
  split <;> omega
section
variable {vs : List Vr} (hl : vs.length < 1000000) (hvs : ∀ v ∈ vs, fitV v = true)
include hl hvs
mutual
theorem kM_all : ∀ (x : Sm), fitM x = true → ∀ n : Int, 0 ≤ n → n + ndM x < 100000000 → KM vs n x
 | .mk op name to val conds labels fields blocks line, hf, n, h0, hn => by
  have hfb : fitBs blocks = true := by
   simp only [fitM, Bool.and_eq_true] at hf
   exact hf.2.2.2.2.2.2.2.2
  have hbl := ndBs_len blocks
  simp only [ndM] at hn
  have b1 := kBs_all blocks hfb n h0 (by omega)
  have b2 := kBs_all blocks hfb (n + 1) (by omega) (by omega)
  exact kstmt_r hl hvs hf (by simp only [smb_mk]; omega) (by simp only [smc_mk]; omega) (by simp only [smf_mk]; omega) h0 (by omega) (fun b hb => ⟨b1 b hb, b2 b hb⟩)
theorem kMl_all : ∀ (l : List Sm), fitMs l = true → ∀ n : Int, 0 ≤ n → n + ndMs l < 100000000 → ∀ x ∈ l, KM vs n x
 | [], _, n, _, _, x, hx => by simp at hx
 | y :: r, hf, n, h0, hn, x, hx => by
  simp only [fitMs, Bool.and_eq_true] at hf
  simp only [ndMs] at hn
  have h1 := kM_all y hf.1 n h0 (by omega)
  have h2 := kMl_all r hf.2 n h0 (by omega)
  rcases List.mem_cons.1 hx with h | hx
  · rw [h]; exact h1
  · exact h2 x hx
theorem kBs_all : ∀ (bs : List (List Sm)), fitBs bs = true → ∀ n : Int, 0 ≤ n → n + ndBs bs < 100000000 → ∀ b ∈ bs, KMs vs n b
 | [], _, n, _, _, b, hb => by simp at hb
 | c :: r, hf, n, h0, hn, b, hb => by
  simp only [fitBs, Bool.and_eq_true] at hf
  simp only [ndBs] at hn
  have hcl := ndMs_len c
  have h1 := kstmts_r (by omega) (kMl_all c hf.1 n h0 (by omega))
  have h2 := kBs_all r hf.2 n h0 (by omega)
  rcases List.mem_cons.1 hb with h | hb
  · rw [h]; exact h1
  · exact h2 b hb
end
end
theorem kdecl_loop (l : List Vr) (hln : l.length ≤ 1000) (hf : ∀ v ∈ l, fitV v = true) (k : Kt) (R : Nat → Ans) (RP : EL → List Vr → Nat → Ans)
 (hp : ∀ env v1 v2 X2 e ln p, k (.panic 174 (ftD e ln)) ⟨43, gl0, env, [⟨0, 0, .box [.vec 1 v1 0 p.length, .d (.int .i64 0)]⟩, ⟨1, v1, .vec 8 (p.map vrD)⟩, ⟨400, v2, X2⟩]⟩ = RP (e, ln) p v1)
 (hx : ∀ v1 v2 X2 c, k (.exit 0) ⟨43, gl0, [(0, true, .ptr 0 0 0), (4, true, .d (.int .i64 c)), (7, true, .d (.list (l.map vrD))), (8, true, .d (.int .i64 l.length)), (9, true, .d (.int .i64 l.length)), (10, true, .d (.bool false))], [⟨0, 0, .box [.vec 1 v1 0 l.length, .d (.int .i64 0)]⟩, ⟨1, v1, .vec 8 (l.map vrD)⟩, ⟨400, v2, X2⟩]⟩ = R v1) :
 ∀ (rest pre : List Vr) (c : Int) (v1 v2 : Nat) (X2 : Cont), l = pre ++ rest → 0 ≤ c → c ≤ 1024 → ∃ p' v',
 denK ctx 66 (.loop (Code.at (codeOf Tryz.f66) [1, 1, 0, 0])) ⟨43, gl0, [(0, true, .ptr 0 0 0), (4, true, .d (.int .i64 c)), (7, true, .d (.list (l.map vrD))), (8, true, .d (.int .i64 l.length)), (9, true, .d (.int .i64 pre.length))], [⟨0, 0, .box [.vec 1 v1 0 pre.length, .d (.int .i64 0)]⟩, ⟨1, v1, .vec 8 (pre.map vrD)⟩, ⟨400, v2, X2⟩]⟩ k = if (chV rest pre c).1 = 0 then R v' else RP (chV rest pre c) p' v'
 | [], pre, c, v1, v2, X2, hd, h0, h1 => by
  have hx := hx v1 v2 X2 c
  simp at hd
  subst hd
  refine ⟨[], v1, ?_⟩
  rw [denK_loop]
  simp [Tryz.f66, chV, hx]
 | v :: rest, pre, c, v1, v2, X2, hd, h0, h1 => by
  have hfv := hf v (by rw [hd]; simp)
  have hcs := cells_small hfv
  have hc := kcells_r hfv
  have hb1 : pre.length < l.length := by rw [hd]; simp
  have hb2 : l[pre.length] = v := by simp [hd]
  have hct := kdec_ct v pre (by omega)
  rw [any_V] at hct
  have w2 : IntKind.i64.wrap ((pre.length : Int) + 1) = pre.length + 1 := wrap_id (by unfold I64; omega)
  have w3 : IntKind.i64.wrap (c + cellsF v) = c + cellsF v := wrap_id (by unfold I64; omega)
  have w4 : pre.length + 1 ≤ 4611686018427387904 := by omega
  have w5 : (pre.length + 1) * 72 ≤ 140737488355328 := by omega
  simp [vrD, vrC] at hc
  rw [denK_loop]
  unfold chV
  cases hin : (findV pre v.name).isSome with
  | true =>
   rw [hin] at hct
   refine ⟨pre, v1, ?_⟩
   simp [Tryz.f66]
   simp [hb1, hb2, vrD, vrC, hct, need_r, hp, drwKA_c, drwKE, drwKT, drwKI_cons, drwKI_end, drwKL, isLast, stepI, lookI, lookG, lookL, lookF, lookN, lookX, ents, findC, hasC, chkI, invEs, invE, clE, clB, eqA, dgstep, dstep, dspec, dcall, Stp.app]
  | false =>
   rw [hin] at hct
   by_cases hgt : 1024 < c + cellsF v
   · have hng : ¬ c + cellsF v ≤ 1024 := by omega
     refine ⟨pre, v1, ?_⟩
     simp [Tryz.f66, hgt]
     simp [hb1, hb2, vrD, vrC, hct, hc, w3, hng, need_r, hp, drwKA_c, drwKE, drwKT, drwKI_cons, drwKI_end, drwKL, isLast, stepI, lookI, lookG, lookL, lookF, lookN, lookX, ents, findC, hasC, chkI, invEs, invE, clE, clB, eqA, dgstep, dstep, dspec, dcall, Stp.app]
   · have hng : c + cellsF v ≤ 1024 := by omega
     obtain ⟨p', v', ih⟩ := kdecl_loop l hln hf k R RP hp hx rest (pre ++ [v]) (c + cellsF v) (v1 + 1) (v2 + 1) (bxV v) (by simp [hd]) (by omega) hng
     refine ⟨p', v', ?_⟩
     simp only [Bool.false_eq_true, if_false, if_neg hgt]
     rw [← ih]
     simp [Tryz.f66]
     simp [hb1, hb2, vrD, vrC, hct, hc, w2, w3, w4, w5, hng, need_r, drwK_end, drwKA_c, drwKE, drwKT, drwKI_cons, drwKI_end, drwKL, isLast, stepI, lookI, lookG, lookL, lookF, lookN, lookX, ents, findC, hasC, chkI, invEs, invE, clE, clB, eqA, dgstep, dstep, dspec, dcall, Stp.app]
def kB3 (vs : List Vr) (v : Nat) : List (Nat × Cont) := [(0, .box [.vec 1 v 0 vs.length, .d (.int .i64 0)]), (v, .vec 8 (vs.map vrD))]
theorem kdeclared_r {l : List Vr} (hln : l.length ≤ 1000) (hf : ∀ v ∈ l, fitV v = true) : ∃ p' v', callT ctx 66 [.ptr 0 0 0, .d (.list (l.map vrD))] [.box [.vec 1 0 0 0, .d (.int .i64 0)], .vec 8 []] =
 if (chV l [] 0).1 = 0 then some (.ret (.tup []), kB3 l v') else some (.panic 174 (ftD (chV l [] 0).1 (chV l [] 0).2), kB3 p' v') := by
 have hq : ∃ p' v', callT ctx 66 [.ptr 0 0 0, .d (.list (l.map vrD))] [.box [.vec 1 0 0 0, .d (.int .i64 0)], .vec 8 []] = if (chV l [] 0).1 = 0 then (fun v => some (.ret (.tup []), kB3 l (if v = 0 then 0 else 1))) v' else (fun (e : EL) (p' : List Vr) v => some (Out.panic 174 (ftD e.1 e.2), kB3 p' (if v = 0 then 0 else 1))) (chV l [] 0) p' v' := by
  rw [run66 (by simp)]
  have h := fun k R RP hp hx v1 v2 X2 => kdecl_loop l hln hf k R RP hp hx l [] 0 v1 v2 X2 rfl (by omega) (by omega)
  simp [Tryz.f66] at h ⊢
  refine h _ (fun v => some (.ret (.tup []), kB3 l (if v = 0 then 0 else 1))) (fun (e : EL) p' v => some (Out.panic 174 (ftD e.1 e.2), kB3 p' (if v = 0 then 0 else 1))) ?_ ?_ _ _ _
  · intro env v1 v2 X2 e ln p
    simp [kB3]
  · intro v1 v2 X2 c
    simp [kB3]
 obtain ⟨p', v', h⟩ := hq
 exact ⟨p', if v' = 0 then 0 else 1, h⟩
theorem kcaught_bad (e l : Int) (a b : AV) : recT ctx 65 [.ptr 0 0 0, .ptr 1 0 0, .ifc 174 (ftD e l)] [.box [a], .box [b]] = some (.ret (.tup []), [(0, .box [.d (.int .i64 e)]), (0, .box [.d (.int .i64 l)])]) := by
 rw [run65 (by rfl) (by rfl) (by simp)]
 simp [Tryz.f65]
 erw [denRK_reg rfl]
 simp [ftD, drwK_end]
theorem kcaught_ok (a b : D) : recT ctx 65 [.ptr 0 0 0, .ptr 1 0 0, .lit .nilIface] [.box [.d a], .box [.d b]] = some (.ret (.tup []), [(0, .box [.d a]), (0, .box [.d b])]) := by
 rw [run65 (by rfl) (by rfl) (by simp)]
 simp [Tryz.f65]
 erw [denRK_reg rfl]
 simp
def ckR (e : EL) : EL := if e.1 = 0 then (0, 0) else e
theorem kcheck_r {p : Pg} (hf : fitP p = true) (hn : ndMs p.body < 50000000) : callT ctx 27 [.d (.agg [.str p.name, .list (p.vars.map vrD), .list (p.body.map smD)])] [] = some (.ret (.tup [.d (.int .i64 (ckR (checkP p)).1), .d (.int .i64 (ckR (checkP p)).2)]), []) := by
 simp only [fitP, Bool.and_eq_true, decide_eq_true_eq, List.all_eq_true] at hf
 obtain ⟨_, hvl, hvs, hb⟩ := hf
 have hml := ndMs_len p.body
 obtain ⟨p', v', hd⟩ := kdeclared_r (l := p.vars) (by omega) hvs
 obtain ⟨n', hs⟩ := kstmts_r (vs := p.vars) (n := 0) (l := p.body) (by omega) (kMl_all (by omega) hvs p.body hb 0 (by omega) (by omega))
 have hc := kcaught_bad
 have hk := kcaught_ok
 rw [run27 (by simp)]
 unfold checkP
 rw [show (decide ((0 : Int) < 0)) = false by decide] at hs
 generalize chV p.vars [] 0 = V at *
 generalize chMs p.vars false p.body = E at *
 by_cases hV : V.1 = 0
 · rw [orE_l hV]
   simp [hV, kB3] at hd
   by_cases hE : E.1 = 0
   · simp [ansE, hE, kB2] at hs
     simp [Tryz.f27, hasDef, isDefer, deferOf, dfv, hd, hs, hk, drwK_end, ckR, hE]
   · simp [ansE, hE, kB2] at hs
     simp [Tryz.f27, hasDef, isDefer, deferOf, dfv, hd, hs, hc, drwK_end, ckR, hE]
 · rw [orE_r hV]
   simp [hV, kB3] at hd
   simp [Tryz.f27, hasDef, isDefer, deferOf, dfv, hd, hc, drwK_end, ckR, hV]
@[reducible] noncomputable def fiC (p : List Nat) : Code := Code.at (codeOf Tryz.f17) p
def fiA (w : Vr) : Bool := nameF w.name && decide (0 ≤ w.sec ∧ w.sec ≤ 2)
def fiB (w : Vr) : Bool := decide (w.ty = 1 ∨ w.ty = 2) || kindT w.ty
def fiD (w : Vr) : Bool := if w.arr = true then decide (w.ty ≤ 2 ∧ 0 ≤ w.lo ∧ w.lo ≤ w.hi ∧ w.hi ≤ 255) else decide (w.lo = 0 ∧ w.hi = 0)
def fiE (w : Vr) : Bool := !decide (((w.arr = true ∨ 2 < w.ty) ∧ w.init ≠ 0) ∨ (w.ty = 2 ∧ (w.init < 0 ∨ 1 < w.init)) ∨ w.init = -9223372036854775808)
theorem fitV_A (w : Vr) : fitV w = (fiA w && (fiB w && (fiD w && fiE w))) := by
 unfold fitV fiA fiB fiD fiE
 simp only [Bool.and_assoc]
section
variable {w : Vr} {v : Nat} {k : Kt} {R1 : Ans} {a b : AV} {B : Cont} (hr : k .ret ⟨129, gl0, [(2, true, .d (.bool false))], [⟨150, 1, B⟩, ⟨300, v, bxV w⟩]⟩ = R1)
include hr
theorem fiA_r : denK ctx 17 (fiC [1, 1, 0, 1, 0, 0, 1, 0, 0, 1, 0]) ⟨129, gl0, [(1, true, a), (3, true, b), (4, true, .ptr 300 v 0)], [⟨150, 1, B⟩, ⟨300, v, bxV w⟩]⟩ k =
 if fiA w = true then k .normal ⟨129, gl0, [(1, true, a), (3, true, b), (4, true, .ptr 300 v 0), (40, true, .d (.bool false))], [⟨150, 1, B⟩, ⟨300, v, bxV w⟩]⟩ else R1 := by
 have hn := fname_r w.name
 unfold fiA
 simp only [bxV] at hr
 generalize nameF w.name = N at *
 cases N with
 | false => (simp [fiC, Tryz.f17]; simp [hn, hr])
 | true =>
  by_cases h1 : w.sec < 0
  · have h2 : ¬ 0 ≤ w.sec := by omega
    (simp [fiC, Tryz.f17]; simp [hn, h1, h2, hr])
  · have h2 : 0 ≤ w.sec := by omega
    by_cases h3 : 2 < w.sec
    · have h4 : ¬ w.sec ≤ 2 := by omega
      (simp [fiC, Tryz.f17]; simp [hn, h1, h2, h3, h4, hr])
    · have h4 : w.sec ≤ 2 := by omega
      (simp [fiC, Tryz.f17]; simp [hn, h1, h2, h3, h4, hr])
theorem fiB_r {d : AV} : denK ctx 17 (fiC [1, 1, 0, 1, 0, 0, 1, 0, 0, 1, 1, 0]) ⟨129, gl0, [(1, true, a), (3, true, b), (4, true, .ptr 300 v 0), (40, true, d)], [⟨150, 1, B⟩, ⟨300, v, bxV w⟩]⟩ k =
 if fiB w = true then k .normal ⟨129, gl0, [(1, true, a), (3, true, b), (4, true, .ptr 300 v 0), (54, true, .d (.bool false))], [⟨150, 1, B⟩, ⟨300, v, bxV w⟩]⟩ else R1 := by
 have hn := nm_r w.ty
 have hq := nm_kind w.ty
 unfold fiB
 simp only [bxV] at hr
 generalize nmIn w.ty rwT = T at *
 generalize kindT w.ty = Q at *
 by_cases h1 : w.ty = 1
 · (simp only [h1] at hr ⊢; simp [fiC, Tryz.f17]; simp [h1])
 · by_cases h2 : w.ty = 2
   · (simp only [h2] at hr ⊢; simp [fiC, Tryz.f17]; simp [h2])
   · by_cases hT : T = []
     · have hQ := hq.1 hT
       (simp [fiC, Tryz.f17]; simp [hn, h1, h2, hT, hQ, hr])
     · have hQ : Q = true := by cases Q with | true => rfl | false => exact absurd (hq.2 rfl) hT
       (simp [fiC, Tryz.f17]; simp [hn, h1, h2, hT, hQ, hr])
theorem fiD_r {d : AV} : denK ctx 17 (fiC [1, 1, 0, 1, 0, 0, 1, 0, 0, 1, 1, 1, 0]) ⟨129, gl0, [(1, true, a), (3, true, b), (4, true, .ptr 300 v 0), (54, true, d)], [⟨150, 1, B⟩, ⟨300, v, bxV w⟩]⟩ k =
 if fiD w = true then k .normal ⟨129, gl0, [(1, true, a), (3, true, b), (4, true, .ptr 300 v 0), (93, true, .d (.bool false))], [⟨150, 1, B⟩, ⟨300, v, bxV w⟩]⟩ else R1 := by
 unfold fiD
 simp only [bxV] at hr
 obtain ⟨name, ty, sec, arr, lo, hi, init, line⟩ := w
 simp only at hr ⊢
 cases arr with
 | false =>
  by_cases h1 : lo = 0
  · by_cases h2 : hi = 0
    · (simp [fiC, Tryz.f17]; simp [h1, h2, hr])
    · (simp only [h1] at hr; simp [fiC, Tryz.f17]; simp [h1, h2, hr])
  · (simp [fiC, Tryz.f17]; simp [h1, hr])
 | true =>
  by_cases h1 : 2 < ty
  · have h1' : ¬ ty ≤ 2 := by omega
    (simp [fiC, Tryz.f17]; simp [h1, h1', hr])
  · have h1' : ty ≤ 2 := by omega
    by_cases h2 : lo < 0
    · have h2' : ¬ 0 ≤ lo := by omega
      (simp [fiC, Tryz.f17]; simp [h1, h1', h2, h2', hr])
    · have h2' : 0 ≤ lo := by omega
      by_cases h3 : hi < lo
      · have h3' : ¬ lo ≤ hi := by omega
        (simp [fiC, Tryz.f17]; simp [h1, h1', h2, h2', h3, h3', hr])
      · have h3' : lo ≤ hi := by omega
        by_cases h4 : 255 < hi
        · have h4' : ¬ hi ≤ 255 := by omega
          (simp [fiC, Tryz.f17]; simp [h1, h1', h2, h2', h3, h3', h4, h4', hr])
        · have h4' : hi ≤ 255 := by omega
          (simp [fiC, Tryz.f17]; simp [h1, h1', h2, h2', h3, h3', h4, h4', hr])
theorem fiE_r {d : AV} : denK ctx 17 (fiC [1, 1, 0, 1, 0, 0, 1, 0, 0, 1, 1, 1, 1]) ⟨129, gl0, [(1, true, a), (3, true, b), (4, true, .ptr 300 v 0), (93, true, d)], [⟨150, 1, B⟩, ⟨300, v, bxV w⟩]⟩ k =
 if fiE w = true then k .normal ⟨129, gl0, [(1, true, a), (3, true, b), (125, true, .d (.bool false))], [⟨150, 1, B⟩, ⟨300, v, bxV w⟩]⟩ else R1 := by
 unfold fiE
 simp only [bxV] at hr
 obtain ⟨name, ty, sec, arr, lo, hi, init, line⟩ := w
 simp only at hr ⊢
 cases arr with
 | true =>
  by_cases h2 : init = 0
  · subst h2
    by_cases h3 : ty = 2
    · subst h3; (simp [fiC, Tryz.f17]; all_goals simp [hr])
    · (simp [fiC, Tryz.f17]; all_goals simp [h3, hr])
  · (simp [fiC, Tryz.f17]; all_goals simp [h2, hr])
 | false =>
  by_cases h1 : 2 < ty
  · have h3 : ¬ ty = 2 := by omega
    have h1' : ¬ ty ≤ 2 := by omega
    by_cases h2 : init = 0
    · subst h2; (simp [fiC, Tryz.f17]; all_goals simp [h1, h1', h3, hr])
    · (simp [fiC, Tryz.f17]; all_goals simp [h1, h1', h2, h3, hr])
  · have h1' : ty ≤ 2 := by omega
    by_cases h3 : ty = 2
    · subst h3
      by_cases h4 : init < 0
      · have h4' : ¬ 0 ≤ init := by omega
        (simp [fiC, Tryz.f17]; all_goals simp [h4, h4', hr])
      · have h4' : 0 ≤ init := by omega
        by_cases h5 : 1 < init
        · have h5' : ¬ init ≤ 1 := by omega
          (simp [fiC, Tryz.f17]; all_goals simp [h4, h4', h5, h5', hr])
        · have h6 : ¬ init = -9223372036854775808 := by omega
          have h5' : init ≤ 1 := by omega
          (simp [fiC, Tryz.f17]; all_goals simp [h4, h4', h5, h5', h6, hr])
    · by_cases h6 : init = -9223372036854775808
      · subst h6; (simp [fiC, Tryz.f17]; all_goals simp [h1, h1', h3, hr])
      · (simp [fiC, Tryz.f17]; all_goals simp [h1, h1', h3, h6, hr])
end
section
variable {w : Vr} {v : Nat} {k : Kt} {R1 : Ans} {a b : AV} {B : Cont}
theorem fiBody (hr : k .ret ⟨129, gl0, [(2, true, .d (.bool false))], [⟨150, 1, B⟩, ⟨300, v, bxV w⟩]⟩ = R1) :
 denK ctx 17 (fiC [1, 1, 0, 1, 0, 0, 1, 0, 0, 1]) ⟨129, gl0, [(1, true, a), (3, true, b), (4, true, .ptr 300 v 0)], [⟨150, 1, B⟩, ⟨300, v, bxV w⟩]⟩ k =
 if fitV w = true then k .normal ⟨129, gl0, [(1, true, a), (3, true, b), (125, true, .d (.bool false))], [⟨150, 1, B⟩, ⟨300, v, bxV w⟩]⟩ else R1 := by
 have e1 : fiC [1, 1, 0, 1, 0, 0, 1, 0, 0, 1] = Code.seq (fiC [1, 1, 0, 1, 0, 0, 1, 0, 0, 1, 0]) (fiC [1, 1, 0, 1, 0, 0, 1, 0, 0, 1, 1]) := rfl
 have e2 : fiC [1, 1, 0, 1, 0, 0, 1, 0, 0, 1, 1] = Code.seq (fiC [1, 1, 0, 1, 0, 0, 1, 0, 0, 1, 1, 0]) (fiC [1, 1, 0, 1, 0, 0, 1, 0, 0, 1, 1, 1]) := rfl
 have e3 : fiC [1, 1, 0, 1, 0, 0, 1, 0, 0, 1, 1, 1] = Code.seq (fiC [1, 1, 0, 1, 0, 0, 1, 0, 0, 1, 1, 1, 0]) (fiC [1, 1, 0, 1, 0, 0, 1, 0, 0, 1, 1, 1, 1]) := rfl
 have hq : ∀ c, seqK ctx 17 c k .ret ⟨129, gl0, [(2, true, .d (.bool false))], [⟨150, 1, B⟩, ⟨300, v, bxV w⟩]⟩ = R1 := fun _ => hr
 rw [fitV_A, e1, denK_seq, fiA_r (hq _)]
 cases fiA w
 · rw [Bool.false_and, if_neg Bool.false_ne_true, if_neg Bool.false_ne_true]
 rw [if_pos rfl, Bool.true_and, seqK_n, e2, denK_seq, fiB_r (hq _)]
 cases fiB w
 · rw [Bool.false_and, if_neg Bool.false_ne_true, if_neg Bool.false_ne_true]
 rw [if_pos rfl, Bool.true_and, seqK_n, e3, denK_seq, fiD_r (hq _)]
 cases fiD w
 · rw [Bool.false_and, if_neg Bool.false_ne_true, if_neg Bool.false_ne_true]
 rw [if_pos rfl, Bool.true_and, seqK_n, fiE_r hr]
end
theorem fi_loop (l : List Vr) (hln : l.length ≤ 64) (D1 D2 : AV) (k : Kt) (R1 R2 : Ans)
 (h1 : ∀ v X, k .ret ⟨129, gl0, [(2, true, .d (.bool false))], [⟨150, 1, .box [D1, .d (.list (l.map vrD)), D2]⟩, ⟨300, v, X⟩]⟩ = R1)
 (h2 : ∀ (b c : AV) v X, k (.exit 0) ⟨129, gl0, [(1, true, .ptr 150 1 0), (3, true, b), (19, true, c)], [⟨150, 1, .box [D1, .d (.list (l.map vrD)), D2]⟩, ⟨300, v, X⟩]⟩ = R2) : ∀ (rest pre : List Vr) (v : Nat) (X : Cont), l = pre ++ rest →
 denK ctx 17 (.loop (fiC [1, 1, 0, 1, 0, 0])) ⟨129, gl0, [(1, true, .ptr 150 1 0), (3, true, .d (.int .i64 pre.length))], [⟨150, 1, .box [D1, .d (.list (l.map vrD)), D2]⟩, ⟨300, v, X⟩]⟩ k = if rest.all fitV = true then R2 else R1
 | [], pre, v, X, hd => by
  have hl0 : pre.length = l.length := by rw [hd]; simp
  rw [hl0, denK_loop]
  simp [fiC, Tryz.f17, h2]
 | x :: rest, pre, v, X, hd => by
  have hb1 : pre.length < l.length := by rw [hd]; simp
  have hb2 : l[pre.length] = x := by simp [hd]
  have hb := fun (v : Nat) (a b : AV) (k : Kt) => fiBody (w := x) (v := v) (a := a) (b := b) (k := k) (B := .box [D1, .d (.list (l.map vrD)), D2]) rfl
  have ih : ∀ v X, denK ctx 17 (.loop (fiC [1, 1, 0, 1, 0, 0])) ⟨129, gl0, [(1, true, .ptr 150 1 0), (3, true, .d (.int .i64 (pre.length + 1)))], [⟨150, 1, .box [D1, .d (.list (l.map vrD)), D2]⟩, ⟨300, v, X⟩]⟩ k = if rest.all fitV = true then R2 else R1 := fun v X => by
   have := fi_loop l hln D1 D2 k R1 R2 h1 h2 rest (pre ++ [x]) v X (by simp [hd])
   simpa using this
  have w1 : IntKind.i64.wrap ((pre.length : Int) + 1) = (pre.length : Int) + 1 := wrap_id (by unfold I64; omega)
  rw [List.all_cons]
  generalize fitV x = N at *
  generalize rest.all fitV = M at *
  rw [denK_loop]
  simp [fiC, Tryz.f17] at hb ih ⊢
  simp [hb1, hb2, vrD, vrC]
  simp [hb]
  cases N <;> simp [h1, w1, ih]
theorem fits_r {p : Pg} (hb : p.body.length < 100000000) (hl : lnMs p.body) : callT ctx 17 [.d (.agg [.str p.name, .list (p.vars.map vrD), .list (p.body.map smD)])] [] = some (.ret (.d (.bool (fitP p))), []) := by
 have hn := fname_r p.name
 have hs := fitS_all hb hl
 unfold KS at hs
 rw [run17 (by simp)]
 unfold fitP
 generalize nameF p.name = N at *
 generalize fitMs p.body = M at *
 cases N with
 | false => simp [Tryz.f17, hn]
 | true =>
  by_cases h6 : 64 < p.vars.length
  · have h6' : (64 : Int) < p.vars.length := by omega
    have h7 : ¬ p.vars.length ≤ 64 := by omega
    simp [Tryz.f17, hn, h6, h6', h7]
  · have h6' : ¬ (64 : Int) < p.vars.length := by omega
    have h7 : p.vars.length ≤ 64 := by omega
    have hlo := fun D1 D2 k R1 R2 h1 h2 v X => fi_loop p.vars h7 D1 D2 k R1 R2 h1 h2 p.vars [] v X rfl
    generalize p.vars.all fitV = Q at *
    simp [fiC, Tryz.f17] at hlo
    simp [Tryz.f17, hn, h6, h6', h7]
    rw [hlo _ _ _ (some (.ret (.d (.bool false)), [])) (some (.ret (.d (.bool M)), []))]
    · cases Q <;> simp
    · intro v X; simp
    · intro b c v X; simp [hs]
def SE (l : List Ex) : Prop := ∀ most : Int, ∃ n d : Int, callT ctx 121 [.d (.list (l.map exD)), .d (.int .i64 most)] [] = some (.ret (.tup [.d (.int .i64 n), .d (.int .i64 d)]), [])
theorem sz_loop (l : List Ex) (hln : l.length < 100000000) (hK : ∀ x ∈ l, SE (exs x)) (most : Int) (k : Kt) (Q : Ans → Prop)
 (h2 : ∀ (n d : Int) (b c : AV), Q (k (.exit 0) ⟨44, gl0, [(0, true, .d (.list (l.map exD))), (1, true, .d (.int .i64 most)), (6, true, .d (.int .i64 n)), (7, true, .d (.int .i64 d)), (8, true, b), (19, true, c)], []⟩)) : ∀ (rest pre : List Ex) (n d : Int), l = pre ++ rest →
 Q (denK ctx 121 (.loop (Code.at (codeOf Tryz.f121) [1, 1, 0, 1, 0, 0])) ⟨44, gl0, [(0, true, .d (.list (l.map exD))), (1, true, .d (.int .i64 most)), (6, true, .d (.int .i64 n)), (7, true, .d (.int .i64 d)), (8, true, .d (.int .i64 pre.length))], []⟩ k)
 | [], pre, n, d, hd => by
  have hl0 : pre.length = l.length := by rw [hd]; simp
  rw [hl0, denK_loop]
  simp [Tryz.f121, h2]
 | x :: rest, pre, n, d, hd => by
  have hb1 : pre.length < l.length := by rw [hd]; simp
  have hb2 : l[pre.length] = x := by simp [hd]
  obtain ⟨m, d', hm⟩ := hK x (by rw [hd]; simp) (IntKind.i64.wrap (most - n))
  have ih : ∀ n d, Q (denK ctx 121 (.loop (Code.at (codeOf Tryz.f121) [1, 1, 0, 1, 0, 0])) ⟨44, gl0, [(0, true, .d (.list (l.map exD))), (1, true, .d (.int .i64 most)), (6, true, .d (.int .i64 n)), (7, true, .d (.int .i64 d)), (8, true, .d (.int .i64 (pre.length + 1)))], []⟩ k) := fun n d => by
   have := sz_loop l hln hK most k Q h2 rest (pre ++ [x]) n d (by simp [hd])
   simpa using this
  have w1 : IntKind.i64.wrap ((pre.length : Int) + 1) = (pre.length : Int) + 1 := wrap_id (by unfold I64; omega)
  rw [denK_loop]
  by_cases hn : n ≤ most
  · simp [Tryz.f121] at ih ⊢
    simp [hb1, hb2, hn, exD_A, hm, w1, ih]
  · simp [Tryz.f121]
    simp [hb1, hn, h2]
theorem sz_r {l : List Ex} (hln : l.length < 100000000) (hK : ∀ x ∈ l, SE (exs x)) : SE l := by
 intro most
 have h := fun k Q h2 => sz_loop l hln hK most k Q h2 l [] 0 0 rfl
 rw [run121 (by simp)]
 simp [Tryz.f121] at h ⊢
 apply h _ (fun A => ∃ n d : Int, A = some (.ret (.tup [.d (.int .i64 n), .d (.int .i64 d)]), []))
 intro n d b c
 simp
mutual
theorem sz_X : ∀ x : Ex, lnX x → SE (exs x)
 | .mk op nn name field sub line, h => by
  simp only [lnX] at h
  exact sz_r h.1.2.2 (sz_Xs sub h.2)
theorem sz_Xs : ∀ l : List Ex, lnXs l → ∀ x ∈ l, SE (exs x)
 | [], _, x, hx => by simp at hx
 | y :: r, h, x, hx => by
  simp only [lnXs] at h
  rcases List.mem_cons.1 hx with e | hx
  · rw [e]; exact sz_X y h.1
  · exact sz_Xs r h.2 x hx
end
theorem sz_all {l : List Ex} (hln : l.length < 100000000) (h : lnXs l) : SE l := sz_r hln (sz_Xs l h)
@[reducible] noncomputable def ssC (p : List Nat) : Code := Code.at (codeOf Tryz.f80) p
def SS (l : List Sm) : Prop := ∀ most : Int, ∃ n d : Int, callT ctx 80 [.d (.list (l.map smD)), .d (.int .i64 most)] [] = some (.ret (.tup [.d (.int .i64 n), .d (.int .i64 d)]), [])
section
variable {x : Sm} {v : Nat} {k : Kt} {Q : Ans → Prop} {a b : AV} {most : Int}
theorem ssA (h1 : SE [smt x, smv x]) (hc : SE (smc x)) (n d : Int)
 (hQ : ∀ (n d : Int) (c1 c2 c3 c4 : AV), Q (k .normal ⟨136, gl0, [(0, true, a), (1, true, .d (.int .i64 most)), (6, true, .d (.int .i64 n)), (7, true, .d (.int .i64 d)), (8, true, b), (9, true, .ptr 550 v 0), (42, true, c1), (43, true, c2), (44, true, c3), (45, true, c4)], [⟨550, v, bxS x⟩]⟩)) :
 Q (denK ctx 80 (ssC [1, 1, 0, 1, 0, 0, 1, 0, 0, 1, 1, 0]) ⟨136, gl0, [(0, true, a), (1, true, .d (.int .i64 most)), (6, true, .d (.int .i64 n)), (7, true, .d (.int .i64 d)), (8, true, b), (9, true, .ptr 550 v 0)], [⟨550, v, bxS x⟩]⟩ k) := by
 unfold SE at h1 hc
 simp [exD_A] at h1
 have w11 : IntKind.i64.wrap 1 = 1 := by decide
 have w12 : IntKind.i64.wrap 2 = 2 := by decide
 have r2 : List.range' 0 2 = [0, 1] := rfl
 simp only [bxS] at hQ
 obtain ⟨m, d', hm⟩ := h1 (IntKind.i64.wrap (most - n))
 simp [ssC, Tryz.f80, r2]
 rw [denK_loop]
 simp [hm, w11]
 generalize IntKind.i64.wrap (n + m) = n2
 obtain ⟨m2, d2, hm2⟩ := hc (IntKind.i64.wrap (most - n2))
 rw [denK_loop]
 simp [hm2, w11, w12]
 rw [denK_loop]
 simp [hQ]
end
section
variable {x : Sm} {v : Nat} {k : Kt} {Q : Ans → Prop} {a b : AV} {most : Int}
theorem ssB (n d : Int) (c1 c2 c3 c4 : AV)
 (hQ : ∀ (n : Int), Q (k .normal ⟨136, gl0, [(0, true, a), (1, true, .d (.int .i64 most)), (6, true, .d (.int .i64 n)), (7, true, .d (.int .i64 d)), (8, true, b), (9, true, .ptr 550 v 0)], [⟨550, v, bxS x⟩]⟩)) :
 Q (denK ctx 80 (ssC [1, 1, 0, 1, 0, 0, 1, 0, 0, 1, 1, 1, 0]) ⟨136, gl0, [(0, true, a), (1, true, .d (.int .i64 most)), (6, true, .d (.int .i64 n)), (7, true, .d (.int .i64 d)), (8, true, b), (9, true, .ptr 550 v 0), (42, true, c1), (43, true, c2), (44, true, c3), (45, true, c4)], [⟨550, v, bxS x⟩]⟩ k) := by
 simp only [bxS] at hQ
 simp [ssC, Tryz.f80]
 apply hQ
theorem ssL_loop (hl : (smlb x).length < 100000000) (d : Int)
 (hQ : ∀ (n : Int) (c1 c2 : AV), Q (k (.exit 4) ⟨136, gl0, [(0, true, a), (1, true, .d (.int .i64 most)), (6, true, .d (.int .i64 n)), (7, true, .d (.int .i64 d)), (8, true, b), (9, true, .ptr 550 v 0), (14, true, c1), (88, true, c2)], [⟨550, v, bxS x⟩]⟩)) : ∀ (rest pre : List (List Int)) (n : Int), smlb x = pre ++ rest →
 Q (denK ctx 80 (.loop (ssC [1, 1, 0, 1, 0, 0, 1, 0, 0, 1, 1, 1, 1, 0, 1, 0, 0])) ⟨136, gl0, [(0, true, a), (1, true, .d (.int .i64 most)), (6, true, .d (.int .i64 n)), (7, true, .d (.int .i64 d)), (8, true, b), (9, true, .ptr 550 v 0), (14, true, .d (.int .i64 pre.length))], [⟨550, v, bxS x⟩]⟩ k)
 | [], pre, n, hd => by
  have hl0 : pre.length = (smlb x).length := by rw [hd]; simp
  simp only [bxS] at hQ
  rw [hl0, denK_loop]
  simp [ssC, Tryz.f80, hQ]
 | c :: rest, pre, n, hd => by
  have hb1 : pre.length < (smlb x).length := by rw [hd]; simp
  have hb2 : (smlb x)[pre.length] = c := by simp [hd]
  have ih := fun n => ssL_loop hl d hQ rest (pre ++ [c]) n (by simp [hd])
  have w1 : IntKind.i64.wrap ((pre.length : Int) + 1) = (pre.length : Int) + 1 := wrap_id (by unfold I64; omega)
  simp only [bxS] at hQ
  rw [denK_loop]
  by_cases hn : n ≤ most
  · simp [ssC, Tryz.f80] at ih ⊢
    simp [hb1, hb2, hn, lbD, w1]
    apply ih
  · simp [ssC, Tryz.f80]
    simp [hb1, hn, hQ]
theorem ssK_loop (hl : (smb x).length < 100000000) (hK : ∀ c ∈ smb x, SS c)
 (hQ : ∀ (n d : Int) (c1 c2 : AV), Q (k (.exit 6) ⟨136, gl0, [(0, true, a), (1, true, .d (.int .i64 most)), (6, true, .d (.int .i64 n)), (7, true, .d (.int .i64 d)), (8, true, b), (9, true, .ptr 550 v 0), (15, true, c1), (111, true, c2)], [⟨550, v, bxS x⟩]⟩)) : ∀ (rest pre : List (List Sm)) (n d : Int), smb x = pre ++ rest →
 Q (denK ctx 80 (.loop (ssC [1, 1, 0, 1, 0, 0, 1, 0, 0, 1, 1, 1, 1, 1, 1, 0, 0])) ⟨136, gl0, [(0, true, a), (1, true, .d (.int .i64 most)), (6, true, .d (.int .i64 n)), (7, true, .d (.int .i64 d)), (8, true, b), (9, true, .ptr 550 v 0), (15, true, .d (.int .i64 pre.length))], [⟨550, v, bxS x⟩]⟩ k)
 | [], pre, n, d, hd => by
  have hl0 : pre.length = (smb x).length := by rw [hd]; simp
  simp only [bxS] at hQ
  rw [hl0, denK_loop]
  simp [ssC, Tryz.f80, hQ]
 | c :: rest, pre, n, d, hd => by
  have hb1 : pre.length < (smb x).length := by rw [hd]; simp
  have hb2 : (smb x)[pre.length] = c := by simp [hd]
  have ih := fun n d => ssK_loop hl hK hQ rest (pre ++ [c]) n d (by simp [hd])
  obtain ⟨m, d', hm⟩ := hK c (by rw [hd]; simp) (IntKind.i64.wrap (most - n))
  have w1 : IntKind.i64.wrap ((pre.length : Int) + 1) = (pre.length : Int) + 1 := wrap_id (by unfold I64; omega)
  simp only [bxS] at hQ
  rw [denK_loop]
  by_cases hn : n ≤ most
  · simp [ssC, Tryz.f80] at ih ⊢
    simp [hb1, hb2, hn, bkD, hm, w1]
    apply ih
  · simp [ssC, Tryz.f80]
    simp [hb1, hn, hQ]
theorem ssBody (hx : lnS x) (hK : ∀ c ∈ smb x, SS c) (n d : Int)
 (hQ : ∀ (n d : Int) (c1 c2 : AV), Q (k .normal ⟨136, gl0, [(0, true, a), (1, true, .d (.int .i64 most)), (6, true, .d (.int .i64 n)), (7, true, .d (.int .i64 d)), (8, true, b), (9, true, .ptr 550 v 0), (15, true, c1), (111, true, c2)], [⟨550, v, bxS x⟩]⟩)) :
 Q (denK ctx 80 (ssC [1, 1, 0, 1, 0, 0, 1, 0, 0, 1, 1]) ⟨136, gl0, [(0, true, a), (1, true, .d (.int .i64 most)), (6, true, .d (.int .i64 n)), (7, true, .d (.int .i64 d)), (8, true, b), (9, true, .ptr 550 v 0)], [⟨550, v, bxS x⟩]⟩ k) := by
 obtain ⟨ht, hv, ⟨hc, hcx⟩, ⟨hlb, hlbl⟩, hf, hbl⟩ := hx
 have e1 : ssC [1, 1, 0, 1, 0, 0, 1, 0, 0, 1, 1] = Code.seq (ssC [1, 1, 0, 1, 0, 0, 1, 0, 0, 1, 1, 0]) (ssC [1, 1, 0, 1, 0, 0, 1, 0, 0, 1, 1, 1]) := rfl
 have e2 : ssC [1, 1, 0, 1, 0, 0, 1, 0, 0, 1, 1, 1] = Code.seq (ssC [1, 1, 0, 1, 0, 0, 1, 0, 0, 1, 1, 1, 0]) (ssC [1, 1, 0, 1, 0, 0, 1, 0, 0, 1, 1, 1, 1]) := rfl
 rw [e1, denK_seq]
 apply ssA (sz_all (l := [smt x, smv x]) (by simp) ⟨ht, hv, trivial⟩) (sz_all hc hcx)
 intro n d c1 c2 c3 c4
 rw [seqK_n, e2, denK_seq]
 apply ssB
 intro n
 rw [seqK_n]
 have hL := fun k Q hQ => ssL_loop (a := a) (b := b) (v := v) (most := most) (k := k) (Q := Q) hlb d hQ (smlb x) [] n rfl
 simp [ssC, Tryz.f80] at hL ⊢
 apply hL
 intro n c1 c2
 have hB := fun k Q hQ => ssK_loop (a := a) (b := b) (v := v) (most := most) (k := k) (Q := Q) hbl hK hQ (smb x) [] n d rfl
 simp [ssC, Tryz.f80] at hB ⊢
 apply hB
 intro n d c1 c2
 simp only [bxS] at hQ
 simp [hQ]
end
theorem ss_loop (l : List Sm) (hln : l.length < 100000000) (hS : ∀ x ∈ l, lnS x) (hK : ∀ x ∈ l, ∀ c ∈ smb x, SS c) (most : Int) (k : Kt) (Q : Ans → Prop)
 (h2 : ∀ (n d : Int) (b c : AV) v X, Q (k (.exit 0) ⟨136, gl0, [(0, true, .d (.list (l.map smD))), (1, true, .d (.int .i64 most)), (6, true, .d (.int .i64 n)), (7, true, .d (.int .i64 d)), (8, true, b), (26, true, c)], [⟨550, v, X⟩]⟩)) : ∀ (rest pre : List Sm) (n d : Int) (v : Nat) (X : Cont), l = pre ++ rest →
 Q (denK ctx 80 (.loop (ssC [1, 1, 0, 1, 0, 0])) ⟨136, gl0, [(0, true, .d (.list (l.map smD))), (1, true, .d (.int .i64 most)), (6, true, .d (.int .i64 n)), (7, true, .d (.int .i64 d)), (8, true, .d (.int .i64 pre.length))], [⟨550, v, X⟩]⟩ k)
 | [], pre, n, d, v, X, hd => by
  have hl0 : pre.length = l.length := by rw [hd]; simp
  rw [hl0, denK_loop]
  simp [ssC, Tryz.f80, h2]
 | x :: rest, pre, n, d, v, X, hd => by
  have hb1 : pre.length < l.length := by rw [hd]; simp
  have hb2 : l[pre.length] = x := by simp [hd]
  have hm : x ∈ l := by rw [hd]; simp
  have hb := fun (v : Nat) (a b : AV) (k : Kt) (Q : Ans → Prop) (n d : Int) => ssBody (v := v) (a := a) (b := b) (most := most) (k := k) (Q := Q) (hS x hm) (hK x hm) n d
  have ih := fun n d v X => ss_loop l hln hS hK most k Q h2 rest (pre ++ [x]) n d v X (by simp [hd])
  have w1 : IntKind.i64.wrap ((pre.length : Int) + 1) = (pre.length : Int) + 1 := wrap_id (by unfold I64; omega)
  rw [denK_loop]
  by_cases hn : n ≤ most
  · simp [ssC, Tryz.f80] at hb ih ⊢
    simp [hb1, hb2, hn, smD_A]
    apply hb
    intro n d c1 c2
    simp [w1, ih]
  · simp [ssC, Tryz.f80]
    simp [hb1, hn, h2]
theorem ss_r {l : List Sm} (hln : l.length < 100000000) (hS : ∀ x ∈ l, lnS x) (hK : ∀ x ∈ l, ∀ c ∈ smb x, SS c) : SS l := by
 intro most
 have h := fun k Q h2 v X => ss_loop l hln hS hK most k Q h2 l [] 0 0 v X rfl
 rw [run80 (by simp)]
 simp [ssC, Tryz.f80] at h ⊢
 apply h _ (fun A => ∃ n d : Int, A = some (.ret (.tup [.d (.int .i64 n), .d (.int .i64 d)]), []))
 intro n d b c v X
 simp
mutual
theorem ss_M : ∀ x : Sm, lnM x → lnS x ∧ ∀ c ∈ smb x, SS c
 | .mk op name to val conds labels fields blocks line, h => by
  have h := (lnM_A _).1 h
  exact ⟨h.1, ss_Bs blocks h.2⟩
theorem ss_Ms : ∀ l : List Sm, lnMs l → ∀ x ∈ l, lnS x ∧ ∀ c ∈ smb x, SS c
 | [], _, x, hx => by simp at hx
 | y :: r, h, x, hx => by
  simp only [lnMs] at h
  have h1 := ss_M y h.1
  have h2 := ss_Ms r h.2
  rcases List.mem_cons.1 hx with e | hx
  · rw [e]; exact h1
  · exact h2 x hx
theorem ss_Bs : ∀ l : List (List Sm), lnBs l → ∀ c ∈ l, SS c
 | [], _, c, hc => by simp at hc
 | b :: r, h, c, hc => by
  simp only [lnBs] at h
  have h1 := ss_Ms b h.1.2
  have h2 := ss_Bs r h.2
  rcases List.mem_cons.1 hc with e | hc
  · rw [e]; exact ss_r h.1.1 (fun x hx => (h1 x hx).1) (fun x hx => (h1 x hx).2)
  · exact h2 c hc
end
theorem ss_all {l : List Sm} (hln : l.length < 100000000) (h : lnMs l) : SS l :=
 ss_r hln (fun x hx => (ss_Ms l h x hx).1) (fun x hx => (ss_Ms l h x hx).2)
theorem size_r {p : Pg} (hb : p.body.length < 100000000) (hl : lnMs p.body) (most : Int) : ∃ n d : Int, callT ctx 41 [.d (.agg [.str p.name, .list (p.vars.map vrD), .list (p.body.map smD)]), .d (.int .i64 most)] [] = some (.ret (.tup [.d (.int .i64 n), .d (.int .i64 d)]), []) := by
 obtain ⟨n, d, h⟩ := ss_all hb hl most
 rw [run41 (by simp)]
 simp [Tryz.f41, h]
theorem short_r {p : Pg} (hb : p.body.length < 100000000) (hl : lnMs p.body) : ∃ B : Bool, callT ctx 16 [.d (.agg [.str p.name, .list (p.vars.map vrD), .list (p.body.map smD)])] [] = some (.ret (.d (.bool B)), []) := by
 obtain ⟨n, d, h⟩ := size_r hb hl 2000
 rw [run16 (by simp)]
 simp [Tryz.f16, h]
end Go.Am
end
section
namespace Go.Am
open Go Go.ChangeShapes Go.WideShapes Go.RowKit
def tiles (P : Program) (ok : TypeId → Bool) : List Field → Nat → Nat → Bool
 | [], o, tot => o == tot
 | f :: r, o, tot => f.offset == o && ok f.type && tiles P ok r (o + P.cellsOf f.type) tot
def typed (P : Program) : Nat → TypeId → D → Prop
 | 0, _, _ => False
 | n + 1, t, d => match P.underlying t with
  | some .bool => ∃ b, d = .bool b
  | some (.int k) => ∃ z, d = .int k z ∧ (Lit.int k z).wf = true
  | some .string => ∃ s, d = .str s ∧ s.length ≤ maxLen
  | some (.slice e) => ∃ xs, d = .list xs ∧ xs.length ≤ maxLen ∧ ∀ x ∈ xs, typed P n e x
  | some (.struct fs) => ∃ ys : List D, d = .agg (ys.flatMap D.cells) ∧ ys.length = fs.size ∧ ∀ (i : Nat) (f : Field) (y : D), fs[i]? = some f → ys[i]? = some y → typed P n f.type y
  | _ => False
def Reads (w : World) (F : Nat → Prop) (d : D) (cs : List Value) : Prop :=
 d.cells.length = cs.length ∧ (∀ u ∈ cs, cell1 u = true) ∧ ∀ (i : Nat) c u, d.cells[i]? = some c → cs[i]? = some u → DRel w F c u ∧ c.flat = true
theorem Reads.one {w F d v} (h : DRel w F d v) (hf : d.flat = true) (hc : d.cells = [d]) : Reads w F d [v] := by
 refine ⟨by rw [hc]; rfl, fun u hu => ?_, fun i c u h1 h2 => ?_⟩
 · simp at hu; subst hu; exact h.one hf
 · rw [hc] at h1
   cases i with
   | zero => simp at h1 h2; subst h1; subst h2; exact ⟨h, hf⟩
   | succ i => simp at h1
def shaped (d : D) (cs : List Value) : Value :=
 match d with
 | .agg _ => .agg cs.toArray
 | _ => cs.headD undef
theorem Reads.rel {w F d cs} (h : Reads w F d cs) : DRel w F d (shaped d cs) := by
 obtain ⟨h1, h2, h3⟩ := h
 have key : d.flat = true → d.cells = [d] → DRel w F d (cs.headD undef) := by
  intro hf hc
  rw [hc] at h1 h3
  match cs, h1 with
  | [u], _ => exact (h3 0 d u rfl rfl).1
 cases d with
 | agg ds => exact DRel.ofCells h1 h2 (fun i c v hc hv => (h3 i c v hc hv).1)
 | _ => exact key rfl rfl
theorem Reads.shaped_cells {w F d cs} (h : Reads w F d cs) : (shaped d cs).cells.toList = cs := by
 obtain ⟨h1, h2, h3⟩ := h
 have key : d.cells = [d] → (cs.headD undef).cells.toList = cs := by
  intro hc
  rw [hc] at h1
  match cs, h1, h2 with
  | [u], _, h2 => simp only [List.headD]; rw [cells_of_cell1 (h2 u (by simp))]
 cases d with
 | agg ds => simp [shaped, Value.cells]
 | _ => exact key rfl
theorem cells?_get {w : World} {base : Nat} {a : Addr} {n : Nat} {cs : List Value} (h : w.cells? base a n = some cs) : cs.length = n ∧ ∀ j, j < n → w.cell? (a.add j) = cs[j]? := by
 unfold World.cells? at h
 split at h
 · exact ⟨by simpa using mapM_some_length h, fun j hj => mapM_some_get h j j (by simp [hj])⟩
 · cases h
theorem add_add {b off n j : Nat} : (Addr.add (Addr.add ⟨b, off, none⟩ n) j) = ⟨b, off + n + j, none⟩ := by
 unfold Addr.add
 split <;> split <;> simp_all
theorem cell?_lt {w : World} {a : Addr} {c : Value} (h : w.cell? a = some c) : a.block < w.heap.size ∧ a.spot = none := by
 unfold World.cell? at h
 split at h
 · rename_i hh
   refine ⟨(Array.getElem?_eq_some_iff.1 hh).1, ?_⟩
   split at h
   · cases h
   · rename_i hs; simpa using hs
 · cases h
section
variable {H : Type} {enc : TypeId × Value → H} {P : Program} {w : World} {base : Nat} {sp : Nat → Bool} {held : Bool}
end
section
variable {H : Type} {enc : TypeId × Value → H} {P : Program} {w : World} {base : Nat} {sp : Nat → Bool} {held : Bool}
theorem trodAll_stays (hl : laidOutB P = true) {W W' : World} (hb : Below W.heap.size W W') : ∀ {ts : List TypeId} {vs : List Value} {ds : List (DataW H)} {ps : List MemPlace}, DataW.TrodAll enc P W 0 (fun _ => true) true ts vs ds ps →
 (∀ t ∈ ts, P.readableRec t = true ∧ t < P.types.size) → (∀ x ∈ ps, x.block < W.heap.size) → DataW.TrodAll enc P W' 0 (fun b => decide (b < W.heap.size)) true ts vs ds ps
 | [], [], [], _, h, _, _ => h
 | t :: ts, v :: vs, d :: ds, ps, h, hp, hlt => by
  obtain ⟨p, q, h1, h2, rfl⟩ := h
  exact ⟨p, q, Below.trod hl (hp t (by simp)).1 (hp t (by simp)).2 h1 hb (fun x hx => hlt x (by simp [hx])), trodAll_stays hl hb h2 (fun t ht => hp t (by simp [ht])) (fun x hx => hlt x (by simp [hx])), rfl⟩
 | [], _ :: _, _, _, h, _, _ => by cases h
 | [], [], _ :: _, _, h, _, _ => by cases h
 | _ :: _, [], _, _, h, _, _ => by cases h
 | _ :: _, _ :: _, [], _, h, _, _ => by cases h
end
section
variable {P : Program} {n : Nat} {t : TypeId} {d : D}
def fieldsT (P : Program) (n : Nat) : List Field → List D → Prop
 | [], ds => ds = []
 | f :: r, ds => ∃ y ds', typed P n f.type y ∧ fieldsT P n r ds' ∧ ds = y.cells ++ ds'
theorem fieldsT_of : ∀ {fs : List Field} {ys : List D}, ys.length = fs.length → (∀ (i : Nat) (f : Field) (y : D), fs[i]? = some f → ys[i]? = some y → typed P n f.type y) → fieldsT P n fs (ys.flatMap D.cells)
 | [], [], _, _ => rfl
 | f :: fs, y :: ys, h, hf => ⟨y, ys.flatMap D.cells, hf 0 f y rfl rfl, fieldsT_of (by simpa using h) (fun i f y h1 h2 => hf (i + 1) f y (by simpa using h1) (by simpa using h2)), by simp⟩
theorem typed_int {k : IntKind} (ht : P.underlying t = some (.int k)) (h : typed P (n + 1) t d) : ∃ z, d = .int k z ∧ (Lit.int k z).wf = true := by simpa only [typed, ht] using h
theorem typed_bool (ht : P.underlying t = some .bool) (h : typed P (n + 1) t d) : ∃ b, d = .bool b := by simpa only [typed, ht] using h
theorem typed_string (ht : P.underlying t = some .string) (h : typed P (n + 1) t d) : ∃ s, d = .str s ∧ s.length ≤ maxLen := by simpa only [typed, ht] using h
theorem typed_slice {e : TypeId} (ht : P.underlying t = some (.slice e)) (h : typed P (n + 1) t d) : ∃ xs, d = .list xs ∧ xs.length ≤ maxLen ∧ ∀ x ∈ xs, typed P n e x := by simpa only [typed, ht] using h
theorem typed_struct {fs : Array Field} (ht : P.underlying t = some (.struct fs)) (h : typed P (n + 1) t d) : ∃ ds, d = .agg ds ∧ fieldsT P n fs.toList ds := by
 simp only [typed, ht] at h
 obtain ⟨ys, rfl, h1, h2⟩ := h
 exact ⟨_, rfl, fieldsT_of (by simpa using h1) (fun i f y h3 h4 => h2 i f y (by simpa using h3) h4)⟩
end
def ctxB (X : Ctx) : Bool :=
 (List.range X.P.funcs.size).all (fun g => match X.P.funcs[g]? with | some fn => fn.name != "runtime.NumGoroutine" && (match fn.body with | some c => codeDst X g fn.ntmps c | none => true) | none => true) && X.P.follows .mixedOrders && X.ov.isNone
def OrcOk (X : Ctx) (g : FuncId) (h : List AV → Option AV) : Prop := callable X.P g = true ∧ ∀ (avs : List AV) (a : AV), h avs = some a → ∀ (φ : Phi) (F : Nat → Prop) (w : World) (vs : Array Value), GlobRel w F X.gl → (∀ b, F b → b < w.heap.size) → avs.length = vs.size →
 (∀ (i : Nat) x v, avs[i]? = some x → vs[i]? = some v → AVRel φ w F x v) → Calls X.P g vs w fun e w' => ∃ v, e = .returned v ∧ Below w.heap.size w w' ∧ AVRel φ w' F a v
theorem OrcOk.lift {X : Ctx} {g : FuncId} {h : List D → Option D} (hh : callable X.P g = true ∧ ∀ (ds : List D) (d : D), h ds = some d → ∀ (F : Nat → Prop) (w : World) (vs : Array Value), GlobRel w F X.gl → (∀ b, F b → b < w.heap.size) → ds.length = vs.size →
 (∀ (i : Nat) x v, ds[i]? = some x → vs[i]? = some v → DRel w F x v) → Calls X.P g vs w fun e w' => ∃ v, e = .returned v ∧ Below w.heap.size w w' ∧ DRel w' F d v) : OrcOk X g (liftO h) := by
 refine ⟨hh.1, fun avs a ha φ F w vs hgl hFb hl hr => ?_⟩
 unfold liftO at ha
 cases hds : toDs avs with
 | none => rw [hds] at ha; cases ha
 | some ds =>
  rw [hds] at ha
  obtain ⟨d, hd, rfl⟩ := Option.map_eq_some_iff.1 ha
  have he := toDs_eq hds
  subst he
  refine (hh.2 ds d hd F w vs hgl hFb (by simpa using hl) (fun i x v hx hv => ?_)).mono ?_
  · have := hr i (.d x) v (by simp [hx]) hv
    cases this with | d _ _ h => exact h
  · rintro e w' ⟨v, rfl, hb, hv⟩
    exact ⟨v, rfl, hb, .d _ _ hv⟩
theorem CtxOk.of {X : Ctx} (h : ctxB X = true) (ho : ∀ g h, X.orc g = some h → OrcOk X g h) : CtxOk X := by
 simp only [ctxB, Bool.and_eq_true, List.all_eq_true, List.mem_range] at h
 have key : ∀ (g : FuncId) (fn : Func), X.P.funcs[g]? = some fn → fn.name ≠ "runtime.NumGoroutine" ∧ (match fn.body with | some c => codeDst X g fn.ntmps c | none => true) = true := by
  intro g fn hg
  have h1 := h.1.1 g (Array.getElem?_eq_some_iff.1 hg).1
  rw [hg] at h1
  simpa using h1
 refine ⟨by simpa using h.2, fun g fn hg => (key g fn hg).1, fun g fn c hg hb => ?_, h.1.2, ho⟩
 have := (key g fn hg).2
 rw [hb] at this
 exact this
theorem list_map_of {α : Type} {f : α → D} : ∀ {xs : List D}, (∀ x ∈ xs, ∃ r, x = f r) → ∃ rs : List α, xs = rs.map f
 | [], _ => ⟨[], rfl⟩
 | x :: xs, h => by
  obtain ⟨r, rfl⟩ := h x (by simp)
  obtain ⟨rs, rfl⟩ := list_map_of (xs := xs) (fun y hy => h y (by simp [hy]))
  exact ⟨r :: rs, rfl⟩
def fr0 : Fr := ⟨fun _ => False, []⟩
theorem law_calls {X : Ctx} (hX : CtxOk X) {f : FuncId} {b : Bool} {xs : List D} (hc : callT X f (xs.map .d) [] = some (.ret (.d (.bool b)), [])) {W : World} {args : Array Value} (hl : xs.length = args.size)
 (hr : ∀ (i : Nat) x v, xs[i]? = some x → args[i]? = some v → DRel W (fun _ => False) x v) (hg : GlobRel W (fun _ => False) X.gl) :
 Calls X.P f args W fun e W' => e = .returned (.bool b) ∧ Below W.heap.size W W' := by
 have h := (callT_ok hX f _ _ _ _ hc).2
 have hF : ∀ b, Fo fr0 (fun _ => none) (inM 0 []) b → False := by
  intro b hb
  rcases hb with hb | ⟨e, he, _⟩
  · exact hb
  · simp [inM] at he
 refine (h (fun _ => none) fr0 W args ⟨by simp [inM], fun k L hL => by simp at hL, fun e he => by simp [inM] at he, fun e he => by simp [inM] at he, fun b ⟨e, he, _⟩ => by simp [inM] at he, fun b hb => hb.elim⟩
  (hg.mono (fun _ _ _ => rfl) (Nat.le_refl _) (fun b _ hb => hF b hb)) (by simpa using hl) (fun i x v hx hv => ?_)).mono ?_
 · simp only [List.getElem?_map, Option.map_eq_some_iff] at hx
   obtain ⟨d, hd, rfl⟩ := hx
   exact .d d v ((hr i d v hd hv).mono (fun _ _ _ => rfl) (Nat.le_refl _) (fun b _ hb => hF b hb))
 · rintro e W' ⟨φ', m', out, ⟨rfl, rfl⟩, hm, hk, ho⟩
   refine ⟨?_, hk.os, hk.tape, hk.output, hk.size, fun k hk' => hk.old k hk' (fun ⟨e, he, _⟩ => by simp [inM] at he)⟩
   cases e with
   | returned v =>
    simp only [OutRel] at ho
    cases ho with
    | d x v h => cases h; rfl
   | _ => exact ho.elim
section
variable {H : Type} {enc : TypeId × Value → H}
end
def plainR (P : Program) (L : List TypeId) : Bool := L.all fun t => match P.underlying t with
 | some .bool | some (.int _) | some .string => P.cellsOf t == 1
 | some (.slice e) => P.cellsOf t == 1 && L.contains e && decide (1 ≤ P.cellsOf e)
 | some (.struct fs) => tiles P (fun t => L.contains t) fs.toList 0 (P.cellsOf t)
 | _ => false
theorem plainR_at {P : Program} {L : List TypeId} {t : TypeId} (h : plainR P L = true) (ht : L.contains t = true) : (match P.underlying t with
 | some .bool | some (.int _) | some .string => P.cellsOf t == 1
 | some (.slice e) => P.cellsOf t == 1 && L.contains e && decide (1 ≤ P.cellsOf e)
 | some (.struct fs) => tiles P (fun t => L.contains t) fs.toList 0 (P.cellsOf t)
 | _ => false) = true := List.all_eq_true.1 h t (by simpa using ht)
section
variable {H : Type} {enc : TypeId × Value → H} {P : Program} {w : World} {base : Nat} {sp : Nat → Bool} {held : Bool}
end
section
variable {H : Type} {enc : TypeId × Value → H}
end
mutual
def wtD : D → Nat
 | .str s => s.length + 1
 | .list xs => wtDs xs + 1
 | .agg cs => wtDs cs + 1
 | _ => 1
def wtDs : List D → Nat
 | [] => 0
 | x :: r => wtD x + wtDs r
end
mutual
def bulkW {H : Type} : DataW H → Nat
 | .lit (.string bytes) => bytes.length + 1
 | .slice elems _ => bulkWs elems + 1
 | .agg parts => bulkWs parts + 1
 | _ => 1
def bulkWs {H : Type} : List (DataW H) → Nat
 | [] => 0
 | d :: r => bulkW d + bulkWs r
end
theorem wtDs_app : ∀ l r : List D, wtDs (l ++ r) = wtDs l + wtDs r
 | [], r => by simp [wtDs]
 | x :: l, r => by simp [wtDs, wtDs_app l r, Nat.add_assoc]
theorem wtDs_cells (x : D) : wtDs x.cells ≤ wtD x := by
 cases x <;> simp [D.cells, wtDs, wtD]
theorem wt_pos (x : D) : 1 ≤ wtD x := by cases x <;> simp [wtD]
theorem wtDs_len : ∀ l : List D, l.length ≤ wtDs l
 | [] => by simp
 | x :: r => by have := wtDs_len r; have := wt_pos x; simp only [wtDs, List.length_cons]; omega
theorem wtDs_mem : ∀ {l : List D} {x : D}, x ∈ l → wtD x ≤ wtDs l
 | y :: r, x, h => by
  rcases List.mem_cons.1 h with rfl | h
  · simp only [wtDs]; omega
  · have := wtDs_mem h; simp only [wtDs]; omega
theorem wtDs_le {H : Type} : ∀ (l : List D) (ds : List (DataW H)), l.length = ds.length → (∀ (i : Nat) x d, l[i]? = some x → ds[i]? = some d → wtD x ≤ bulkW d) → wtDs l ≤ bulkWs ds
 | [], [], _, _ => Nat.le_refl _
 | x :: l, d :: ds, h, hi => by
  have h1 := hi 0 x d rfl rfl
  have h2 := wtDs_le l ds (by simpa using h) (fun i y e hy he => hi (i + 1) y e (by simpa using hy) (by simpa using he))
  simp only [wtDs, bulkWs]; omega
 | [], _ :: _, h, _ => by simp at h
 | _ :: _, [], h, _ => by simp at h
theorem reads_fieldsW {H : Type} {P : Program} {w : World} {F : Nat → Prop} {n : Nat} {cs : List Value} {ok : TypeId → Bool} : ∀ (fs : List Field) (ws : List (DataW H)) (o : Nat), tiles P ok fs o cs.length = true → ws.length = fs.length →
 (∀ (i : Nat) f e, fs[i]? = some f → ws[i]? = some e → ok f.type = true → ∃ d, typed P n f.type d ∧ Reads w F d ((cs.drop f.offset).take (P.cellsOf f.type)) ∧ d.cells.length = P.cellsOf f.type ∧ wtD d ≤ bulkW e) →
 ∃ ys : List D, ys.length = fs.length ∧ (∀ (i : Nat) (f : Field) (y : D), fs[i]? = some f → ys[i]? = some y → typed P n f.type y) ∧ o ≤ cs.length ∧ Reads w F (.agg (ys.flatMap D.cells)) (cs.drop o) ∧ wtDs (ys.flatMap D.cells) ≤ bulkWs ws
 | [], [], o, ht, _, _ => by
  simp only [tiles, beq_iff_eq] at ht
  subst ht
  exact ⟨[], rfl, fun i f y hf => by simp at hf, Nat.le_refl _, ⟨by simp [D.cells], by simp, fun i c u h1 => by simp [D.cells] at h1⟩, by simp [wtDs, bulkWs]⟩
 | f :: r, e :: ws, o, ht, hw, hf => by
  simp only [tiles, Bool.and_eq_true, beq_iff_eq] at ht
  obtain ⟨⟨rfl, hok⟩, hr⟩ := ht
  obtain ⟨ys, h1, h2, h3, h4, h5⟩ := reads_fieldsW r ws _ hr (by simpa using hw) (fun i f' e' hi he => hf (i + 1) f' e' (by simpa using hi) (by simpa using he))
  obtain ⟨d, hd, hR, hl, hwt⟩ := hf 0 f e rfl rfl hok
  refine ⟨d :: ys, by simp [h1], fun i f' y hi hy => ?_, by omega, ?_, ?_⟩
  · cases i with
    | zero => simp at hi hy; subst hi; subst hy; exact hd
    | succ i => simp at hi hy; exact h2 i f' y hi hy
  · have hsplit : cs.drop f.offset = (cs.drop f.offset).take (P.cellsOf f.type) ++ cs.drop (f.offset + P.cellsOf f.type) := by
     rw [← List.drop_drop, List.take_append_drop]
    obtain ⟨a1, a2, a3⟩ := hR
    obtain ⟨b1, b2, b3⟩ := h4
    have hcells : (D.agg ((d :: ys).flatMap D.cells)).cells = d.cells ++ (D.agg (ys.flatMap D.cells)).cells := by simp [D.cells]
    rw [hsplit]
    unfold Reads
    rw [hcells]
    refine ⟨by simp only [List.length_append, a1, b1], fun u hu => ?_, fun i c u hc hu => ?_⟩
    · rcases List.mem_append.1 hu with hu | hu
      · exact a2 u hu
      · exact b2 u hu
    · by_cases hi : i < d.cells.length
      · rw [List.getElem?_append_left hi] at hc
        rw [List.getElem?_append_left (by omega)] at hu
        exact a3 i c u hc hu
      · rw [List.getElem?_append_right (by omega)] at hc
        rw [List.getElem?_append_right (by omega)] at hu
        rw [← a1] at hu
        exact b3 _ c u hc hu
  · have hc := wtDs_cells d
    simp only [List.flatMap_cons, wtDs_app, bulkWs]
    omega
 | [], _ :: _, _, _, h, _ => by simp at h
 | _ :: _, [], _, _, h, _ => by simp at h
section
variable {H : Type} {enc : TypeId × Value → H} {P : Program} {w : World} {base : Nat} {sp : Nat → Bool} {held : Bool}
theorem read_dataW {L : List TypeId} (hL : plainR P L = true) : ∀ (m : Nat) (t : TypeId) (cs : List Value) (x : DataW H × List MemPlace), L.contains t = true → DataW.trod enc P w base sp held m t cs = some x →
 ∃ d, typed P (m + 1) t d ∧ Reads w (fun _ => False) d cs ∧ d.cells.length = P.cellsOf t ∧ wtD d ≤ bulkW x.1
 | m, t, cs, x, hp, hx => by
  have hp := plainR_at hL hp
  simp only [typed]
  cases ht : P.underlying t with
  | none => rw [ht] at hp; cases hp
  | some u =>
   rw [ht] at hp
   cases u with
   | bool =>
    obtain ⟨b, rfl, rfl⟩ := DataW.trod_bool ht hx
    exact ⟨.bool b, ⟨b, rfl⟩, Reads.one (.bool b) rfl rfl, by simp at hp; simp [D.cells, hp], by simp [wtD, bulkW]⟩
   | int k =>
    obtain ⟨z, rfl, rfl, hw⟩ := DataW.trod_int ht hx
    exact ⟨.int k z, ⟨z, rfl, hw⟩, Reads.one (.int k z) rfl rfl, by simp at hp; simp [D.cells, hp], by simp [wtD, bulkW]⟩
   | string =>
    obtain ⟨s, rfl, rfl, hw⟩ := DataW.trod_string ht hx
    exact ⟨.str s.data.toList, ⟨_, rfl, by simpa using hw⟩, Reads.one (.str s _ rfl) rfl rfl, by simp at hp; simp [D.cells, hp], by simp [wtD, bulkW]⟩
   | slice e =>
    simp only [Bool.and_eq_true, beq_iff_eq, decide_eq_true_eq] at hp
    obtain ⟨⟨h1, h2⟩, h3⟩ := hp
    rcases DataW.trod_slice ht hx with ⟨rfl, rfl⟩ | ⟨a, len, cap, elems, rest, m', rfl, rfl, rfl, hb, hlc, hcm, hel, hget, _⟩
    · exact ⟨.list [], ⟨[], rfl, by simp, by simp⟩, Reads.one (.nil none 0 (fun _ => rfl)) rfl rfl, by simp [D.cells, h1], by simp [wtD, wtDs, bulkW]⟩
    · have hq : ∀ i, ∃ p : D × Value, i < len → typed P (m' + 1) e p.1 ∧ DRel w (fun _ => False) p.1 p.2 ∧ p.1.size = P.cellsOf e ∧ a.block < w.heap.size ∧ a.spot = none ∧
       (∀ j c, p.2.cells[j]? = some c → w.cell? ⟨a.block, a.off + i * P.cellsOf e + j, none⟩ = some c) ∧ ∀ q, elems[i]? = some q → wtD p.1 ≤ bulkW q.1 := by
       intro i
       by_cases hi : i < len
       · have h4 := hget i hi
         have h5 : ∃ y, elems[i]? = some y := ⟨elems[i]'(by omega), by simp [show i < elems.length by omega]⟩
         obtain ⟨y, hy⟩ := h5
         rw [hy] at h4
         simp only [Option.bind_eq_some_iff] at h4
         obtain ⟨cs', hcs, hy'⟩ := h4
         obtain ⟨d, hd, hR, hl, hwt⟩ := read_dataW hL m' e cs' y h2 hy'
         obtain ⟨g1, g2⟩ := cells?_get hcs
         have g3 : a.block < w.heap.size ∧ a.spot = none := by
          have h0 : ∃ i0, i0 < len ∧ i0 = 0 := ⟨0, by omega, rfl⟩
          have h40 := hget 0 (by omega)
          have h50 : ∃ y, elems[0]? = some y := ⟨elems[0]'(by omega), by simp [show 0 < elems.length by omega]⟩
          obtain ⟨y0, hy0⟩ := h50
          rw [hy0] at h40
          simp only [Option.bind_eq_some_iff] at h40
          obtain ⟨cs0, hcs0, _⟩ := h40
          obtain ⟨g01, g02⟩ := cells?_get hcs0
          have h6 := g02 0 (by omega)
          have h7 : ∃ c, cs0[0]? = some c := ⟨cs0[0]'(by omega), by simp [show 0 < cs0.length by omega]⟩
          obtain ⟨c, hc⟩ := h7
          rw [hc] at h6
          have h8 := cell?_lt h6
          simpa [Addr.add] using h8
         refine ⟨⟨d, shaped d cs'⟩, fun _ => ⟨hd, hR.rel, by rw [← D.cells_length]; exact hl, g3.1, g3.2, fun j c hj => ?_, fun q hq => by rw [hy] at hq; cases hq; exact hwt⟩⟩
         have h6 := hR.shaped_cells
         have h7 : cs'[j]? = some c := by rw [← h6]; simpa using hj
         have hjl : j < P.cellsOf e := by
          have := (List.getElem?_eq_some_iff.1 h7).1
          omega
         have h8 := g2 j hjl
         obtain ⟨ab, ao, ae⟩ := a
         obtain rfl : ae = none := g3.2
         rw [add_add] at h8
         rw [h8]; exact h7
       · exact ⟨⟨.bool false, undef⟩, fun h => absurd h hi⟩
      obtain ⟨f, hf⟩ := Classical.axiomOfChoice hq
      refine ⟨.list ((List.range len).map fun i => (f i).1), ⟨_, rfl, by simp; omega, fun x hx => ?_⟩, Reads.one ?_ rfl rfl, by simp [D.cells, h1], ?_⟩
      · simp only [List.mem_map, List.mem_range] at hx
        obtain ⟨i, hi, rfl⟩ := hx
        exact (hf i hi).1
      · by_cases hl : len = 0
        · subst hl
          exact .nil (some a) cap (fun h => by cases h)
        · have h0 := hf 0 (by omega)
          obtain ⟨ab, ao, ae⟩ := a
          obtain rfl : ae = none := h0.2.2.2.2.1
          have hlen : ((List.range len).map fun i => (f i).1).length = len := by simp
          have := DRel.list (w := w) (F := fun _ => False) ((List.range len).map fun i => (f i).1) ab ao cap (P.cellsOf e) (fun i => (f i).2) (by rw [hlen]; exact hlc) h0.2.2.2.1 (fun h => h)
           (fun d hd => by
            simp only [List.mem_map, List.mem_range] at hd
            obtain ⟨i, hi, rfl⟩ := hd
            exact (hf i hi).2.2.1)
           (fun i d hd => by
            simp only [List.getElem?_map, Option.map_eq_some_iff] at hd
            obtain ⟨i', hi', rfl⟩ := hd
            have := List.getElem?_eq_some_iff.1 hi'
            obtain ⟨hi2, hi3⟩ := this
            simp at hi2 hi3
            subst hi3
            exact (hf _ hi2).2.1)
           (fun i j c hi hj => by
            rw [hlen] at hi
            exact (hf i hi).2.2.2.2.2.1 j c hj)
          rw [hlen] at this
          exact this
      · simp only [wtD, bulkW]
        refine Nat.succ_le_succ (wtDs_le _ _ (by simp; omega) fun i x d hx hd => ?_)
        simp only [List.getElem?_map, Option.map_eq_some_iff] at hx hd
        obtain ⟨j, hj, rfl⟩ := hx
        obtain ⟨q, hq, rfl⟩ := hd
        obtain ⟨hj2, hj3⟩ := List.getElem?_eq_some_iff.1 hj
        simp at hj2 hj3
        subst hj3
        exact (hf i hj2).2.2.2.2.2.2 q hq
   | struct fs =>
    obtain ⟨xs, m', rfl, rfl, hl, hxs, hget⟩ := DataW.trod_struct ht hx
    simp only at hp
    rw [← hl] at hp
    obtain ⟨ys, h1, h2, _, h4, h5⟩ := reads_fieldsW (n := m' + 1) (w := w) (F := fun _ => False) fs.toList (xs.map (·.1)) 0 hp (by simpa using hxs) (fun i f e hi he hok => by
     simp only [List.getElem?_map, Option.map_eq_some_iff] at he
     obtain ⟨y, hy, rfl⟩ := he
     have h5 := hget i f (by simpa using hi)
     rw [hy] at h5
     exact read_dataW hL m' f.type _ y hok h5)
    refine ⟨.agg (ys.flatMap D.cells), ⟨ys, rfl, by simpa using h1, fun i f y hi hy => h2 i f y (by simpa using hi) hy⟩, by simpa using h4, ?_, ?_⟩
    · have := h4.1
      rw [this]; simpa using hl
    · simp only [wtD, bulkW]; omega
   | _ => cases hp
theorem arg_relW {L : List TypeId} (hL : plainR P L = true) {t : TypeId} {v : Value} {d : DataW H} {ps : List MemPlace} {b0 : Nat} (hp : L.contains t = true) (hv : Value.okWide P w .any b0 t v) (h : DataW.Trod enc P w base sp held t v d ps) :
 ∃ n x, typed P n t x ∧ DRel w (fun _ => False) x v ∧ wtD x ≤ bulkW d := by
 obtain ⟨m, hm⟩ := h
 obtain ⟨x, hx, hR, _, hwt⟩ := read_dataW hL m t _ _ hp hm
 refine ⟨m + 1, x, hx, ?_, hwt⟩
 have h1 := hR.rel
 · have hp := plainR_at hL hp
   simp only [typed] at hx
   cases ht : P.underlying t with
   | none => rw [ht] at hp; cases hp
   | some u =>
    rw [ht] at hp hx
    cases u with
    | bool => obtain ⟨b, rfl⟩ := okWide_bool ht hv; obtain ⟨y, rfl⟩ := hx; exact h1
    | int k => obtain ⟨b, rfl⟩ := okWide_int ht hv; obtain ⟨y, rfl, _⟩ := hx; exact h1
    | string => obtain ⟨b, rfl⟩ := okWide_string ht hv; obtain ⟨y, rfl, _⟩ := hx; exact h1
    | slice e => obtain ⟨a, len, cap, rfl⟩ := okWide_slice ht hv; obtain ⟨y, rfl, _⟩ := hx; exact h1
    | struct fs =>
     simp only [Value.okWide, ht] at hv
     obtain ⟨cs, rfl, _⟩ := hv
     obtain ⟨ys, rfl, _⟩ := hx
     simpa [shaped, Value.cells] using h1
    | _ => cases hp
theorem args_relW {L : List TypeId} (hL : plainR P L = true) {b0 : Nat} : ∀ {ts : List TypeId} {vs : List Value} {ds : List (DataW H)} {ps : List MemPlace}, DataW.TrodAll enc P w base sp held ts vs ds ps → (∀ t ∈ ts, L.contains t = true) →
 (∀ (j : Nat) t v, ts[j]? = some t → vs[j]? = some v → Value.okWide P w .any b0 t v) →
 ∃ xs : List D, xs.length = vs.length ∧ xs.length = ts.length ∧ (∀ (i : Nat) t x, ts[i]? = some t → xs[i]? = some x → ∃ n, typed P n t x) ∧ (∀ (i : Nat) x v, xs[i]? = some x → vs[i]? = some v → DRel w (fun _ => False) x v) ∧ wtDs xs ≤ bulkWs ds
 | [], [], [], _, _, _, _ => ⟨[], rfl, rfl, fun i t x h => by simp at h, fun i x v h => by simp at h, by simp [wtDs, bulkWs]⟩
 | t :: ts, v :: vs, d :: ds, ps, h, hp, hv => by
  obtain ⟨p, q, h1, h2, _⟩ := h
  obtain ⟨n, x, hx, hr, hwt⟩ := arg_relW hL (hp t (by simp)) (hv 0 t v rfl rfl) h1
  obtain ⟨xs, g1, g2, g3, g4, g5⟩ := args_relW hL h2 (fun t ht => hp t (by simp [ht])) (fun j t v h3 h4 => hv (j + 1) t v (by simpa using h3) (by simpa using h4))
  refine ⟨x :: xs, by simp [g1], by simp [g2], fun i t' x' h3 h4 => ?_, fun i x' v' h3 h4 => ?_, by simp only [wtDs, bulkWs]; omega⟩
  · cases i with
    | zero => simp at h3 h4; subst h3; subst h4; exact ⟨n, hx⟩
    | succ i => simp at h3 h4; exact g3 i t' x' h3 h4
  · cases i with
    | zero => simp at h3 h4; subst h3; subst h4; exact hr
    | succ i => simp at h3 h4; exact g4 i x' v' h3 h4
 | [], _ :: _, _, _, h, _, _ => by cases h
 | [], [], _ :: _, _, h, _, _ => by cases h
 | _ :: _, [], _, _, h, _, _ => by cases h
 | _ :: _, _ :: _, [], _, h, _, _ => by cases h
end
section
variable {H : Type} {enc : TypeId × Value → H}
theorem law_contractW {X : Ctx} (hX : CtxOk X) {f : FuncId} {fn : Func} {s : ChangeSpec} {apart fresh handsOn : Bool} {L : List TypeId} {tb : TypeId} (hL : plainR X.P L = true)
 (hlaid : laidOutB X.P = true) (hts : (fn.params.toList.all fun t => X.P.readableRec t && decide (t < X.P.types.size) && L.contains t) = true)
 (hres : fn.resultTypes = #[tb]) (htb : X.P.underlying tb = some .bool) (hvars : s.vars = [])
 (hspec : ∀ ds : List (DataW H), ds.length = fn.params.size → s.fn H ds = { results := [.lit (.bool true)], args := ds })
 {W : World} {base : Nat} {args : Array Value} {ds gs : List (DataW H)} {before : List MemPlace}
 (hval : ∀ (j : Nat) t v, fn.params[j]? = some t → args[j]? = some v → Value.okWide X.P W .any base t v)
 (hW : DataW.Whole enc X.P fn.params.toList s.vars apart W args.toList ds gs before) (hg : GlobRel W (fun _ => False) X.gl)
 (hrun : ∀ xs : List D, xs.length = fn.params.size → (∀ (i : Nat) t x, fn.params[i]? = some t → xs[i]? = some x → ∃ n, typed X.P n t x) → wtDs xs ≤ bulkWs ds → callT X f (xs.map .d) [] = some (.ret (.d (.bool true)), [])) :
 Calls X.P f args W fun e W' => ∃ v, e = .returned v ∧ s.post enc X.P fn apart fresh handsOn false W args v W' := by
 have hW' := hW
 obtain ⟨p, q, hA, hV, rfl, hfz, hnd⟩ := hW
 rw [hvars] at hV
 obtain ⟨rfl, rfl⟩ : gs = [] ∧ q = [] := by
  cases gs with
  | nil => exact ⟨rfl, hV⟩
  | cons g r => exact absurd hV (by intro h; cases h)
 simp only [List.all_eq_true, Bool.and_eq_true, decide_eq_true_eq] at hts
 obtain ⟨xs, h1, h2, h3, h4, h5⟩ := args_relW hL (b0 := base) hA (fun t ht => (hts t ht).2) (fun j t v ht hv => hval j t v (by simpa using ht) (by simpa using hv))
 have hlen := trodAll_length hA
 refine (law_calls hX (hrun xs (by simpa using h2) (fun i t x ht hx => h3 i t x (by simpa using ht) hx) h5) (by simpa using h1) (fun i x v hx hv => h4 i x v hx (by simpa using hv)) hg).mono ?_
 rintro e W' ⟨rfl, hb⟩
 have hlt : ∀ x ∈ p, x.block < W.heap.size := fun x hx => by simpa using hW'.lt x (by simpa using hx)
 have hs : s.fn H (ds ++ []) = { results := [.lit (.bool true)], args := ds } := by
  rw [List.append_nil]; exact hspec ds (by simpa using hlen.2)
 refine ⟨_, rfl, ds, [], p ++ [], [], p, [], hW', ?_, ?_, ?_, hb.frame _, fun h => by cases h⟩
 · rw [hs, hres]
   exact trodAll_mk1 (shut_bool htb true)
 · rw [hs]
   exact trodAll_stays hlaid hb hA (fun t ht => (hts t ht).1) hlt
 · rw [hs, hvars]
   rfl
end
end Go.Am
end
section
namespace Go.Am
open Go
theorem exDs_len (l : List Ex) : (exDs l).length = l.length := by rw [exDs_eq]; simp
theorem wt_exC (x : Ex) : wtD (exD x) = wtDs (exC x) + 1 := by rw [exD_C]; rfl
mutual
theorem lnX_of : ∀ x : Ex, wtD (exD x) < 100000000 → lnX x
 | .mk op n name field sub line, h => by
  simp only [exD, wtD, wtDs] at h
  have h2 := wtDs_len (exDs sub)
  rw [exDs_len] at h2
  simp only [lnX]
  exact ⟨⟨by omega, by omega, by omega⟩, lnXs_of sub (by omega)⟩
theorem lnXs_of : ∀ l : List Ex, wtDs (exDs l) < 100000000 → lnXs l
 | [], _ => by simp only [lnXs]
 | x :: r, h => by
  simp only [exDs, wtDs] at h
  simp only [lnXs]
  exact ⟨lnX_of x (by omega), lnXs_of r (by omega)⟩
end
theorem wtDs_map {α : Type} (f : α → D) (l : List α) : l.length ≤ wtDs (l.map f) := by
 have := wtDs_len (l.map f)
 simpa using this
theorem wt_lb (l : List Int) : l.length ≤ wtD (lbD l) := by
 have := wtDs_map (fun n => D.int .i64 n) l
 simp only [lbD, wtD]
 omega
theorem bksD_len (l : List (List Sm)) : (bksD l).length = l.length := by rw [bksD_eq]; simp
theorem smDs_len (l : List Sm) : (smDs l).length = l.length := by rw [smDs_eq]; simp
mutual
theorem lnM_of : ∀ x : Sm, wtD (smD x) < 100000000 → lnM x ∧ ndM x ≤ wtD (smD x)
 | .mk op name to val conds labels fields blocks line, h => by
  simp only [smD, wtD, wtDs, wtDs_app] at h ⊢
  have e1 := wt_exC to
  have e2 := wt_exC val
  have h2 := wtDs_len (exDs conds)
  rw [exDs_len] at h2
  have h3 := wtDs_map lbD labels
  have h4 := wtDs_map D.str fields
  have h5 := wtDs_len (bksD blocks)
  rw [bksD_len] at h5
  have hb := lnBs_of blocks (by omega)
  simp only [lnM, ndM]
  refine ⟨⟨⟨lnX_of to (by omega), lnX_of val (by omega), ⟨by omega, lnXs_of conds (by omega)⟩, ⟨by omega, fun l hl => ?_⟩, by omega, by omega⟩, hb.1⟩, by omega⟩
  have h6 := wtDs_mem (List.mem_map_of_mem (f := lbD) hl)
  have h7 := wt_lb l
  omega
theorem lnMs_of : ∀ l : List Sm, wtDs (smDs l) < 100000000 → lnMs l ∧ ndMs l ≤ wtDs (smDs l)
 | [], _ => by simp only [lnMs, ndMs]; exact ⟨trivial, Nat.zero_le _⟩
 | x :: r, h => by
  simp only [smDs, wtDs] at h ⊢
  have h1 := lnM_of x (by omega)
  have h2 := lnMs_of r (by omega)
  simp only [lnMs, ndMs]
  exact ⟨⟨h1.1, h2.1⟩, by omega⟩
theorem lnBs_of : ∀ l : List (List Sm), wtDs (bksD l) < 100000000 → lnBs l ∧ ndBs l ≤ wtDs (bksD l)
 | [], _ => by simp only [lnBs, ndBs]; exact ⟨trivial, Nat.zero_le _⟩
 | b :: r, h => by
  simp only [bksD, wtDs, wtD] at h ⊢
  have h0 := wtDs_len (smDs b)
  rw [smDs_len] at h0
  have h1 := lnMs_of b (by omega)
  have h2 := lnBs_of r (by omega)
  simp only [lnBs, ndBs]
  exact ⟨⟨⟨by omega, h1.1⟩, h2.1⟩, by omega⟩
end
theorem pg_light {p : Pg} (h : wtD (.agg [.str p.name, .list (p.vars.map vrD), .list (p.body.map smD)]) < 50000000) : p.body.length < 100000000 ∧ lnMs p.body ∧ ndMs p.body < 50000000 := by
 simp only [wtD, wtDs] at h
 rw [← smDs_eq] at h
 have h0 := wtDs_len (smDs p.body)
 rw [smDs_len] at h0
 have h1 := lnMs_of p.body (by omega)
 exact ⟨by omega, h1.1, by omega⟩
end Go.Am
end
section
namespace Go.Am
open Go Go.Proofs
variable [Inhabited Mx2]
set_option maxRecDepth 20000
theorem rfind_loop (s : Tx) (l : List Vr) (hl : l.length < 1000000) (k : Kt) (RF : Option Vr → Ans)
 (h1 : ∀ w v, k .ret ⟨25, gl0, [(4, true, .ptr 300 v 0), (5, true, .d (.bool true))], [⟨300, v, bxV w⟩]⟩ = RF (some w))
 (h2 : ∀ (v : Nat) (b c : AV), k (.exit 0) ⟨25, gl0, [(0, true, .d (.list (l.map vrD))), (1, true, .d (.str s)), (4, true, .ptr 300 v 0), (6, true, b), (10, true, c)], [⟨300, v, bxV vrZ⟩]⟩ = RF none) : ∀ (rest pre : List Vr) (v : Nat), l = pre ++ rest →
 denK ctx 45 (.loop (Code.at (codeOf Tryz.f45) [1, 0, 1, 0, 0])) ⟨25, gl0, [(0, true, .d (.list (l.map vrD))), (1, true, .d (.str s)), (4, true, .ptr 300 v 0), (6, true, .d (.int .i64 pre.length))], [⟨300, v, bxV vrZ⟩]⟩ k = RF (findV rest s)
 | [], pre, v, hd => by
  have hl0 : pre.length = l.length := by rw [hd]; simp
  simp only [bxV, vrZ] at h2
  rw [hl0, denK_loop]
  simp [Tryz.f45, h2, findV, vrZ]
 | x :: rest, pre, v, hd => by
  have hb1 : pre.length < l.length := by rw [hd]; simp
  have hb2 : l[pre.length] = x := by simp [hd]
  have ih := rfind_loop s l hl k RF h1 h2 rest (pre ++ [x]) v (by simp [hd])
  have w1 : IntKind.i64.wrap ((pre.length : Int) + 1) = (pre.length : Int) + 1 := wrap_id (by unfold I64; omega)
  have h1 := h1 x
  simp only [bxV] at h1
  rw [denK_loop]
  by_cases hq : x.name = s
  · simp only [hq] at h1
    simp [Tryz.f45, vrZ]
    simp [hb1, hb2, vrD, vrC, hq, h1, findV]
  · simp [Tryz.f45, vrZ] at ih ⊢
    simp [hb1, hb2, vrD, vrC, hq, w1, ih, findV]
theorem rfind_r {vs : List Vr} (hl : vs.length < 1000000) (s : Tx) : callT ctx 45 [.d (.list (vs.map vrD)), .d (.str s)] [] = some (.ret (.tup [.d (vrD (fV vs s)), .d (.bool (findV vs s).isSome)]), []) := by
 have h := fun k RF h1 h2 v => rfind_loop s vs hl k RF h1 h2 vs [] v rfl
 rw [run45 (by simp)]
 unfold fV
 simp [Tryz.f45, vrZ] at h ⊢
 rw [h _ (fun o => some (.ret (.tup [.d (vrD (o.getD vrZ)), .d (.bool o.isSome)]), []))]
 · simp [vrZ]
 · intro w v; simp [vrD, vrC]
 · intro v b c; simp [vrD, vrC, vrZ]
theorem rpins_r (k : Int) : callT ctx 86 [.d (.int .i64 k)] [] = some (.ret (.d (.list ((pinsF k).map pnD))), []) := by
 by_cases h : 10 ≤ k ∧ k ≤ 31
 · have : k = 10 ∨ k = 11 ∨ k = 12 ∨ k = 13 ∨ k = 14 ∨ k = 15 ∨ k = 16 ∨ k = 17 ∨ k = 18 ∨ k = 19 ∨ k = 20 ∨ k = 21 ∨ k = 22 ∨ k = 23 ∨ k = 24 ∨ k = 25 ∨ k = 26 ∨ k = 27 ∨ k = 28 ∨ k = 29 ∨ k = 30 ∨ k = 31 := by omega
   rcases this with h | h | h | h | h | h | h | h | h | h | h | h | h | h | h | h | h | h | h | h | h | h <;> subst h
   · exact rp10
   · exact rp11
   · exact rp12
   · exact rp13
   · exact rp14
   · exact rp15
   · exact rp16
   · exact rp17
   · exact rp18
   · exact rp19
   · exact rp20
   · exact rp21
   · exact rp22
   · exact rp23
   · exact rp24
   · exact rp25
   · exact rp26
   · exact rp27
   · exact rp28
   · exact rp29
   · exact rp30
   · exact rp31
 · have e1 : pinsF k = [] := by
    have e : ∀ n : Int, 10 ≤ n → n ≤ 31 → ¬ n = k := fun n a b c => h (by omega)
    unfold pinsF pnT
    simp only [pinsT]
    rw [if_neg (e _ (by decide) (by decide)), if_neg (e _ (by decide) (by decide)), if_neg (e _ (by decide) (by decide)), if_neg (e _ (by decide) (by decide)), if_neg (e _ (by decide) (by decide)), if_neg (e _ (by decide) (by decide)), if_neg (e _ (by decide) (by decide)), if_neg (e _ (by decide) (by decide)), if_neg (e _ (by decide) (by decide)), if_neg (e _ (by decide) (by decide)), if_neg (e _ (by decide) (by decide)), if_neg (e _ (by decide) (by decide)), if_neg (e _ (by decide) (by decide)), if_neg (e _ (by decide) (by decide)), if_neg (e _ (by decide) (by decide)), if_neg (e _ (by decide) (by decide)), if_neg (e _ (by decide) (by decide)), if_neg (e _ (by decide) (by decide)), if_neg (e _ (by decide) (by decide)), if_neg (e _ (by decide) (by decide)), if_neg (e _ (by decide) (by decide))]
   rw [e1]
   rw [run86 (by simp)]
   by_cases h1 : k < 10
   · simp [Tryz.f86, h1]
   · have h2 : 31 < k := by omega
     simp [Tryz.f86, h1, h2]
theorem rcells_r {w : Vr} (hI : w.arr = true → 0 ≤ w.lo ∧ w.lo ≤ w.hi ∧ w.hi ≤ 255) : callT ctx 46 [.d (.agg (vrC w))] [] = some (.ret (.d (.int .i64 (cellsF w))), []) := by
 have hp := rpins_r w.ty
 rw [run46 (by simp)]
 unfold cellsF
 cases ha : w.arr with
 | true =>
  have h3 := hI ha
  have w1 : IntKind.i64.wrap (w.hi - w.lo) = w.hi - w.lo := wrap_id (by unfold I64; omega)
  have w2 : IntKind.i64.wrap (w.hi - w.lo + 1) = w.hi - w.lo + 1 := wrap_id (by unfold I64; omega)
  simp [Tryz.f46, vrC, ha, w1, w2]
 | false =>
  by_cases h2 : 2 < w.ty
  · simp [Tryz.f46, vrC, ha, h2, hp]
  · simp [Tryz.f46, vrC, ha, h2]
def bxP (p : Pn) : Cont := .box [.d (.str p.name), .d (.int .i64 p.ty), .d (.bool p.inp)]
theorem rpin_loop (s : Tx) (l : List Pn) (hl : l.length < 1000000) (k : Kt) (RF : Option Pn → Ans)
 (h1 : ∀ w v, k .ret ⟨32, gl0, [(4, true, .ptr 300 v 0), (5, true, .d (.bool true))], [⟨300, v, bxP w⟩]⟩ = RF (some w))
 (h2 : ∀ (v : Nat) (b c : AV), k (.exit 0) ⟨32, gl0, [(1, true, .d (.str s)), (4, true, .ptr 300 v 0), (6, true, .d (.list (l.map pnD))), (7, true, b), (13, true, c)], [⟨300, v, bxP pnZ⟩]⟩ = RF none) : ∀ (rest pre : List Pn) (v : Nat), l = pre ++ rest →
 denK ctx 187 (.loop (Code.at (codeOf Tryz.f187) [1, 1, 0, 1, 0, 0])) ⟨32, gl0, [(1, true, .d (.str s)), (4, true, .ptr 300 v 0), (6, true, .d (.list (l.map pnD))), (7, true, .d (.int .i64 pre.length))], [⟨300, v, bxP pnZ⟩]⟩ k = RF (pinL rest s)
 | [], pre, v, hd => by
  have hl0 : pre.length = l.length := by rw [hd]; simp
  simp only [bxP, pnZ] at h2
  rw [hl0, denK_loop]
  simp [Tryz.f187, bxP, h2, pinL, pnZ]
 | x :: rest, pre, v, hd => by
  have hb1 : pre.length < l.length := by rw [hd]; simp
  have hb2 : l[pre.length] = x := by simp [hd]
  have ih := rpin_loop s l hl k RF h1 h2 rest (pre ++ [x]) v (by simp [hd])
  have w1 : IntKind.i64.wrap ((pre.length : Int) + 1) = (pre.length : Int) + 1 := wrap_id (by unfold I64; omega)
  have h1 := h1 x
  simp only [bxP] at h1
  rw [denK_loop]
  by_cases hs : s = []
  · simp only [hs] at ih ⊢
    simp [Tryz.f187, bxP, pnZ] at ih ⊢
    simp [hb1, w1, ih, pinL]
  · by_cases hq : x.name = s
    · simp only [hq] at h1
      simp [Tryz.f187, bxP, pnZ]
      simp [hb1, hb2, pnD, hq, hs, h1, pinL]
    · simp [Tryz.f187, bxP, pnZ] at ih ⊢
      simp [hb1, hb2, pnD, hq, hs, w1, ih, pinL]
theorem rpin_r (q : Int) (s : Tx) : callT ctx 187 [.d (.int .i64 q), .d (.str s)] [] = some (.ret (.tup [.d (pnD (fP q s)), .d (.bool (pinF q s).isSome)]), []) := by
 have hl := pinsF_len q
 have hp := rpins_r q
 have h := fun k RF h1 h2 v => rpin_loop s (pinsF q) (by omega) k RF h1 h2 (pinsF q) [] v rfl
 rw [run187 (by simp)]
 unfold fP pinF
 simp [Tryz.f187, bxP, pnZ] at h ⊢
 simp [hp]
 rw [h _ (fun o => some (.ret (.tup [.d (pnD (o.getD pnZ)), .d (.bool o.isSome)]), []))]
 · simp [pnZ]
 · intro w v; simp [pnD]
 · intro v b c; simp [pnD, pnZ]
def teR (t : Te) : AV := .tup [.d (.int .i64 t.t), .d (.agg [.int .i64 t.e, .int .i64 t.line])]
def RT (vs : List Vr) (x : Ex) : Prop := callT ctx 122 [.d (.list (vs.map vrD)), .d (.agg [.int .i64 (exo x), .int .i64 (exn x), .str (exa x), .str (exf x), .list ((exs x).map exD), .int .i64 (exl x)])] [] = some (.ret (teR (tyX vs x)), [])
def elR (e : EL) : AV := .d (.agg [.int .i64 e.1, .int .i64 e.2])
def wtE (vs : List Vr) (x : Ex) (t : Int) : EL := if (tyX vs x).e = 0 ∧ (tyX vs x).t ≠ t then (10, exl x) else ((tyX vs x).e, (tyX vs x).line)
theorem rindex_r {vs : List Vr} {x : Ex} (h : RT vs x) : callT ctx 188 [.d (.list (vs.map vrD)), .d (.agg [.int .i64 (exo x), .int .i64 (exn x), .str (exa x), .str (exf x), .list ((exs x).map exD), .int .i64 (exl x)])] [] = some (.ret (elR (wtE vs x 1)), []) := by
 unfold RT at h
 rw [run188 (by simp)]
 unfold wtE
 generalize tyX vs x = T at *
 by_cases h0 : T.e = 0
 · by_cases h1 : T.t = 1
   · simp [Tryz.f188, teR, elR, h0, h1, h]
   · simp [Tryz.f188, teR, elR, h0, h1, h]
 · simp [Tryz.f188, teR, elR, h0, h]
theorem rwants_r {vs : List Vr} {x : Ex} (t : Int) (h : RT vs x) : callT ctx 123 [.d (.list (vs.map vrD)), .d (.agg [.int .i64 (exo x), .int .i64 (exn x), .str (exa x), .str (exf x), .list ((exs x).map exD), .int .i64 (exl x)]), .d (.int .i64 t)] [] = some (.ret (elR (wtE vs x t)), []) := by
 unfold RT at h
 rw [run123 (by simp)]
 unfold wtE
 generalize tyX vs x = T at *
 by_cases h0 : T.e = 0
 · by_cases h1 : T.t = t
   · simp [Tryz.f123, teR, elR, h0, h1, h]
   · simp [Tryz.f123, teR, elR, h0, h1, h]
 · simp [Tryz.f123, teR, elR, h0, h]
section
variable {vs : List Vr} (hl : vs.length < 1000000) (hvs : ∀ v ∈ vs, fitV v = true)
theorem rcon_r {op nn line : Int} {name field : Tx} {sub : List Ex} (h : op = 1 ∨ op = 2) : RT vs (.mk op nn name field sub line) := by
 unfold RT
 rw [run122 (by simp)]
 have e : tyX vs (.mk op nn name field sub line) = okT op := by
  unfold tyX
  rw [if_pos h]
 rw [e]
 rcases h with h | h <;> subst h <;> simp [Tryz.f122, teR, okT]
include hl in
theorem rfieldx_r {nn line : Int} {name field : Tx} {sub : List Ex} : RT vs (.mk 5 nn name field sub line) := by
 unfold RT
 have hf := rfind_r (vs := vs) hl name
 rw [run122 (by simp)]
 have e : tyX vs (.mk 5 nn name field sub line) = (match findV vs name with
  | none => badT 9 line
  | some v => (if v.ty ≤ 2 then badT 10 line else match pinF v.ty field with
   | none => badT 9 line
   | some p => okT p.ty)) := by
  unfold tyX
  rw [if_neg (by decide), if_pos (by decide)]
  rfl
 rw [e]
 cases hv : findV vs name with
 | none =>
  simp [hv, fV, vrD, vrC, vrZ] at hf
  simp [Tryz.f122, teR, badT, hf, drwK_end]
 | some v =>
  have hp := rpin_r v.ty field
  simp [hv, fV, vrD, vrC] at hf
  by_cases h2 : v.ty ≤ 2
  · simp [Tryz.f122, teR, badT, hf, drwK_end, h2]
  · cases hq : pinF v.ty field with
    | none =>
     simp [hq, fP, pnD, pnZ] at hp
     simp [Tryz.f122, teR, badT, hf, drwK_end, h2, hp, hq]
    | some p =>
     simp [hq, fP, pnD] at hp
     simp [Tryz.f122, teR, okT, hf, drwK_end, h2, hp, hq]
include hl in
theorem rarra_r {nn line : Int} {name field : Tx} {v : Vr} {y : Ex} {T : Te} (hv : findV vs name = some v) (ha : v.arr = true) (h2 : ¬ 2 < v.ty) (hr : RT vs y) (hT : tyX vs y = T) (h0 : T.e = 0) (h1 : T.t = 1) : callT ctx 122 [.d (.list (vs.map vrD)), .d (.agg [.int .i64 4, .int .i64 nn, .str name, .str field, .list ([y].map exD), .int .i64 line])] [] = some (.ret (teR (okT v.ty)), []) := by
 have hf := rfind_r (vs := vs) hl name
 have hi := rindex_r hr
 unfold wtE elR at hi
 rw [hT] at hi
 clear hT hr
 rw [run122 (by simp)]
 simp [hv, fV, vrD, vrC] at hf
 simp [h0, h1] at hi
 simp [Tryz.f122, teR, okT, badT, hf, drwK_end, ha, h2, exD_A, hi, h0, h1]
include hl in
theorem rarrb_r {nn line : Int} {name field : Tx} {v : Vr} {y : Ex} {T : Te} (hv : findV vs name = some v) (ha : v.arr = true) (h2 : ¬ 2 < v.ty) (hr : RT vs y) (hT : tyX vs y = T) (h0 : T.e = 0) (h1 : ¬ T.t = 1) : callT ctx 122 [.d (.list (vs.map vrD)), .d (.agg [.int .i64 4, .int .i64 nn, .str name, .str field, .list ([y].map exD), .int .i64 line])] [] = some (.ret (teR (badT 10 (exl y))), []) := by
 have hf := rfind_r (vs := vs) hl name
 have hi := rindex_r hr
 unfold wtE elR at hi
 rw [hT] at hi
 clear hT hr
 rw [run122 (by simp)]
 simp [hv, fV, vrD, vrC] at hf
 simp [h0, h1] at hi
 simp [Tryz.f122, teR, okT, badT, hf, drwK_end, ha, h2, exD_A, hi, h0, h1]
include hl in
theorem rarrc_r {nn line : Int} {name field : Tx} {v : Vr} {y : Ex} {T : Te} (hv : findV vs name = some v) (ha : v.arr = true) (h2 : ¬ 2 < v.ty) (hr : RT vs y) (hT : tyX vs y = T) (h0 : ¬ T.e = 0) : callT ctx 122 [.d (.list (vs.map vrD)), .d (.agg [.int .i64 4, .int .i64 nn, .str name, .str field, .list ([y].map exD), .int .i64 line])] [] = some (.ret (teR (badT T.e T.line)), []) := by
 have hf := rfind_r (vs := vs) hl name
 have hi := rindex_r hr
 unfold wtE elR at hi
 rw [hT] at hi
 clear hT hr
 rw [run122 (by simp)]
 simp [hv, fV, vrD, vrC] at hf
 simp [h0] at hi
 simp [Tryz.f122, teR, okT, badT, hf, drwK_end, ha, h2, exD_A, hi, h0]
include hl in
theorem rvarx_r {op nn line : Int} {name field : Tx} {sub : List Ex} (h : op = 3 ∨ op = 4) (hs : op = 4 → ∃ y, sub = [y] ∧ RT vs y) : RT vs (.mk op nn name field sub line) := by
 unfold RT
 have hf := rfind_r (vs := vs) hl name
 have e : tyX vs (.mk op nn name field sub line) = (match findV vs name with
  | none => badT 9 line
  | some v => if v.arr ≠ decide (op = 4) ∨ 2 < v.ty then badT 10 line else if op = 4 then tyI vs v.ty sub else okT v.ty) := by
  conv => lhs; unfold tyX
  rw [if_neg (by omega), if_pos (by omega)]
  cases findV vs name with
  | none => rfl
  | some v =>
   simp only
   rw [if_neg (by omega)]
 rw [e]
 clear e
 cases hv : findV vs name with
 | none =>
  simp [hv, fV, vrD, vrC, vrZ] at hf
  rcases h with h | h <;> subst h <;> rw [run122 (by simp)] <;> simp [Tryz.f122, teR, badT, hf, drwK_end]
 | some v =>
  simp [hv, fV, vrD, vrC] at hf
  rcases h with h | h <;> subst h
  · cases ha : v.arr with
    | true => (rw [run122 (by simp)]; simp [Tryz.f122, teR, badT, hf, drwK_end, ha])
    | false =>
     by_cases h2 : 2 < v.ty
     · (rw [run122 (by simp)]; simp [Tryz.f122, teR, badT, hf, drwK_end, ha, h2])
     · (rw [run122 (by simp)]; simp [Tryz.f122, teR, okT, hf, drwK_end, ha, h2])
  · cases ha : v.arr with
    | false => (rw [run122 (by simp)]; simp [Tryz.f122, teR, badT, hf, drwK_end, ha])
    | true =>
     by_cases h2 : 2 < v.ty
     · (rw [run122 (by simp)]; simp [Tryz.f122, teR, badT, hf, drwK_end, ha, h2])
     · obtain ⟨y, hy, hr⟩ := hs rfl
       subst hy
       simp only [tyI, exo_mk, exn_mk, exa_mk, exf_mk, exs_mk, exl_mk]
       by_cases h0 : (tyX vs y).e = 0
       · by_cases h1 : (tyX vs y).t = 1
         · have := rarra_r (nn := nn) (line := line) (field := field) hl hv ha h2 hr rfl h0 h1
           simpa [h0, h1, h2, ha, okT] using this
         · have := rarrb_r (nn := nn) (line := line) (field := field) hl hv ha h2 hr rfl h0 h1
           simpa [h0, h1, h2, ha, badT] using this
       · have := rarrc_r (nn := nn) (line := line) (field := field) hl hv ha h2 hr rfl h0
         simpa [h0, h2, ha, badT] using this
end
section
variable {vs : List Vr}
set_option maxHeartbeats 1000000 in
theorem rop_6 {nn line : Int} {name field : Tx} {a : Ex} (h : RT vs a) : RT vs (.mk 6 nn name field [a] line) := by
 have e : tyX vs (.mk 6 nn name field [a] line) = opT2 6 line (tyX vs a) (tyX vs a) := by
  conv => lhs; unfold tyX
  rw [if_neg (by omega), if_neg (by omega)]
  rfl
 unfold RT at h ⊢
 rw [e, run122 (by simp)]
 clear e
 generalize tyX vs a = T at *
 simp [teR] at h
 simp [Tryz.f122, teR, drwK_end, exD_A, h]
 by_cases h0 : T.e = 0
 · by_cases h1 : T.t = 1 <;> simp [h0, h1, opT2, takT, givT, okT, badT]
 · simp [h0, opT2]
set_option maxHeartbeats 1000000 in
theorem rop_7 {nn line : Int} {name field : Tx} {a : Ex} (h : RT vs a) : RT vs (.mk 7 nn name field [a] line) := by
 have e : tyX vs (.mk 7 nn name field [a] line) = opT2 7 line (tyX vs a) (tyX vs a) := by
  conv => lhs; unfold tyX
  rw [if_neg (by omega), if_neg (by omega)]
  rfl
 unfold RT at h ⊢
 rw [e, run122 (by simp)]
 clear e
 generalize tyX vs a = T at *
 simp [teR] at h
 simp [Tryz.f122, teR, drwK_end, exD_A, h]
 by_cases h0 : T.e = 0
 · by_cases h1 : T.t = 2 <;> simp [h0, h1, opT2, takT, givT, okT, badT]
 · simp [h0, opT2]
set_option maxHeartbeats 1000000 in
theorem rop_8 {nn line : Int} {name field : Tx} {a b : Ex} (h : RT vs a) (hb : RT vs b) : RT vs (.mk 8 nn name field [a, b] line) := by
 have e : tyX vs (.mk 8 nn name field [a, b] line) = opT2 8 line (tyX vs a) (tyX vs b) := by
  conv => lhs; unfold tyX
  rw [if_neg (by omega), if_neg (by omega)]
  rfl
 unfold RT at h hb ⊢
 rw [e, run122 (by simp)]
 clear e
 generalize tyX vs a = T at *
 generalize tyX vs b = U at *
 simp [teR] at h hb
 simp [Tryz.f122, teR, drwK_end, exD_A, h, hb]
 by_cases h0 : T.e = 0
 · by_cases h1 : U.e = 0
   · by_cases h2 : T.t = 1 <;> by_cases h3 : U.t = 1 <;> simp [h0, h1, h2, h3, opT2, takT, givT, okT, badT]
   · simp [h0, h1, opT2]
 · simp [h0, opT2]
set_option maxHeartbeats 1000000 in
theorem rop_9 {nn line : Int} {name field : Tx} {a b : Ex} (h : RT vs a) (hb : RT vs b) : RT vs (.mk 9 nn name field [a, b] line) := by
 have e : tyX vs (.mk 9 nn name field [a, b] line) = opT2 9 line (tyX vs a) (tyX vs b) := by
  conv => lhs; unfold tyX
  rw [if_neg (by omega), if_neg (by omega)]
  rfl
 unfold RT at h hb ⊢
 rw [e, run122 (by simp)]
 clear e
 generalize tyX vs a = T at *
 generalize tyX vs b = U at *
 simp [teR] at h hb
 simp [Tryz.f122, teR, drwK_end, exD_A, h, hb]
 by_cases h0 : T.e = 0
 · by_cases h1 : U.e = 0
   · by_cases h2 : T.t = 1 <;> by_cases h3 : U.t = 1 <;> simp [h0, h1, h2, h3, opT2, takT, givT, okT, badT]
   · simp [h0, h1, opT2]
 · simp [h0, opT2]
set_option maxHeartbeats 1000000 in
theorem rop_10 {nn line : Int} {name field : Tx} {a b : Ex} (h : RT vs a) (hb : RT vs b) : RT vs (.mk 10 nn name field [a, b] line) := by
 have e : tyX vs (.mk 10 nn name field [a, b] line) = opT2 10 line (tyX vs a) (tyX vs b) := by
  conv => lhs; unfold tyX
  rw [if_neg (by omega), if_neg (by omega)]
  rfl
 unfold RT at h hb ⊢
 rw [e, run122 (by simp)]
 clear e
 generalize tyX vs a = T at *
 generalize tyX vs b = U at *
 simp [teR] at h hb
 simp [Tryz.f122, teR, drwK_end, exD_A, h, hb]
 by_cases h0 : T.e = 0
 · by_cases h1 : U.e = 0
   · by_cases h2 : T.t = 1 <;> by_cases h3 : U.t = 1 <;> simp [h0, h1, h2, h3, opT2, takT, givT, okT, badT]
   · simp [h0, h1, opT2]
 · simp [h0, opT2]
set_option maxHeartbeats 1000000 in
theorem rop_11 {nn line : Int} {name field : Tx} {a b : Ex} (h : RT vs a) (hb : RT vs b) : RT vs (.mk 11 nn name field [a, b] line) := by
 have e : tyX vs (.mk 11 nn name field [a, b] line) = opT2 11 line (tyX vs a) (tyX vs b) := by
  conv => lhs; unfold tyX
  rw [if_neg (by omega), if_neg (by omega)]
  rfl
 unfold RT at h hb ⊢
 rw [e, run122 (by simp)]
 clear e
 generalize tyX vs a = T at *
 generalize tyX vs b = U at *
 simp [teR] at h hb
 simp [Tryz.f122, teR, drwK_end, exD_A, h, hb]
 by_cases h0 : T.e = 0
 · by_cases h1 : U.e = 0
   · by_cases h2 : T.t = 1 <;> by_cases h3 : U.t = 1 <;> simp [h0, h1, h2, h3, opT2, takT, givT, okT, badT]
   · simp [h0, h1, opT2]
 · simp [h0, opT2]
set_option maxHeartbeats 1000000 in
theorem rop_12 {nn line : Int} {name field : Tx} {a b : Ex} (h : RT vs a) (hb : RT vs b) : RT vs (.mk 12 nn name field [a, b] line) := by
 have e : tyX vs (.mk 12 nn name field [a, b] line) = opT2 12 line (tyX vs a) (tyX vs b) := by
  conv => lhs; unfold tyX
  rw [if_neg (by omega), if_neg (by omega)]
  rfl
 unfold RT at h hb ⊢
 rw [e, run122 (by simp)]
 clear e
 generalize tyX vs a = T at *
 generalize tyX vs b = U at *
 simp [teR] at h hb
 simp [Tryz.f122, teR, drwK_end, exD_A, h, hb]
 by_cases h0 : T.e = 0
 · by_cases h1 : U.e = 0
   · by_cases h2 : T.t = 1 <;> by_cases h3 : U.t = 1 <;> simp [h0, h1, h2, h3, opT2, takT, givT, okT, badT]
   · simp [h0, h1, opT2]
 · simp [h0, opT2]
set_option maxHeartbeats 1000000 in
theorem rop_13 {nn line : Int} {name field : Tx} {a b : Ex} (h : RT vs a) (hb : RT vs b) : RT vs (.mk 13 nn name field [a, b] line) := by
 have e : tyX vs (.mk 13 nn name field [a, b] line) = opT2 13 line (tyX vs a) (tyX vs b) := by
  conv => lhs; unfold tyX
  rw [if_neg (by omega), if_neg (by omega)]
  rfl
 unfold RT at h hb ⊢
 rw [e, run122 (by simp)]
 clear e
 generalize tyX vs a = T at *
 generalize tyX vs b = U at *
 simp [teR] at h hb
 simp [Tryz.f122, teR, drwK_end, exD_A, h, hb]
 by_cases h0 : T.e = 0
 · by_cases h1 : U.e = 0
   · by_cases h3 : U.t = T.t <;> simp [h0, h1, h3, opT2, takT, givT, okT, badT]
   · simp [h0, h1, opT2]
 · simp [h0, opT2]
end
section
variable {vs : List Vr}
set_option maxHeartbeats 1000000 in
theorem rop_14 {nn line : Int} {name field : Tx} {a b : Ex} (h : RT vs a) (hb : RT vs b) : RT vs (.mk 14 nn name field [a, b] line) := by
 have e : tyX vs (.mk 14 nn name field [a, b] line) = opT2 14 line (tyX vs a) (tyX vs b) := by
  conv => lhs; unfold tyX
  rw [if_neg (by omega), if_neg (by omega)]
  rfl
 unfold RT at h hb ⊢
 rw [e, run122 (by simp)]
 clear e
 generalize tyX vs a = T at *
 generalize tyX vs b = U at *
 simp [teR] at h hb
 simp [Tryz.f122, teR, drwK_end, exD_A, h, hb]
 by_cases h0 : T.e = 0
 · by_cases h1 : U.e = 0
   · by_cases h3 : U.t = T.t <;> simp [h0, h1, h3, opT2, takT, givT, okT, badT]
   · simp [h0, h1, opT2]
 · simp [h0, opT2]
set_option maxHeartbeats 1000000 in
theorem rop_15 {nn line : Int} {name field : Tx} {a b : Ex} (h : RT vs a) (hb : RT vs b) : RT vs (.mk 15 nn name field [a, b] line) := by
 have e : tyX vs (.mk 15 nn name field [a, b] line) = opT2 15 line (tyX vs a) (tyX vs b) := by
  conv => lhs; unfold tyX
  rw [if_neg (by omega), if_neg (by omega)]
  rfl
 unfold RT at h hb ⊢
 rw [e, run122 (by simp)]
 clear e
 generalize tyX vs a = T at *
 generalize tyX vs b = U at *
 simp [teR] at h hb
 simp [Tryz.f122, teR, drwK_end, exD_A, h, hb]
 by_cases h0 : T.e = 0
 · by_cases h1 : U.e = 0
   · by_cases h2 : T.t = 1 <;> by_cases h3 : U.t = 1 <;> simp [h0, h1, h2, h3, opT2, takT, givT, okT, badT]
   · simp [h0, h1, opT2]
 · simp [h0, opT2]
set_option maxHeartbeats 1000000 in
theorem rop_16 {nn line : Int} {name field : Tx} {a b : Ex} (h : RT vs a) (hb : RT vs b) : RT vs (.mk 16 nn name field [a, b] line) := by
 have e : tyX vs (.mk 16 nn name field [a, b] line) = opT2 16 line (tyX vs a) (tyX vs b) := by
  conv => lhs; unfold tyX
  rw [if_neg (by omega), if_neg (by omega)]
  rfl
 unfold RT at h hb ⊢
 rw [e, run122 (by simp)]
 clear e
 generalize tyX vs a = T at *
 generalize tyX vs b = U at *
 simp [teR] at h hb
 simp [Tryz.f122, teR, drwK_end, exD_A, h, hb]
 by_cases h0 : T.e = 0
 · by_cases h1 : U.e = 0
   · by_cases h2 : T.t = 1 <;> by_cases h3 : U.t = 1 <;> simp [h0, h1, h2, h3, opT2, takT, givT, okT, badT]
   · simp [h0, h1, opT2]
 · simp [h0, opT2]
set_option maxHeartbeats 1000000 in
theorem rop_17 {nn line : Int} {name field : Tx} {a b : Ex} (h : RT vs a) (hb : RT vs b) : RT vs (.mk 17 nn name field [a, b] line) := by
 have e : tyX vs (.mk 17 nn name field [a, b] line) = opT2 17 line (tyX vs a) (tyX vs b) := by
  conv => lhs; unfold tyX
  rw [if_neg (by omega), if_neg (by omega)]
  rfl
 unfold RT at h hb ⊢
 rw [e, run122 (by simp)]
 clear e
 generalize tyX vs a = T at *
 generalize tyX vs b = U at *
 simp [teR] at h hb
 simp [Tryz.f122, teR, drwK_end, exD_A, h, hb]
 by_cases h0 : T.e = 0
 · by_cases h1 : U.e = 0
   · by_cases h2 : T.t = 1 <;> by_cases h3 : U.t = 1 <;> simp [h0, h1, h2, h3, opT2, takT, givT, okT, badT]
   · simp [h0, h1, opT2]
 · simp [h0, opT2]
set_option maxHeartbeats 1000000 in
theorem rop_18 {nn line : Int} {name field : Tx} {a b : Ex} (h : RT vs a) (hb : RT vs b) : RT vs (.mk 18 nn name field [a, b] line) := by
 have e : tyX vs (.mk 18 nn name field [a, b] line) = opT2 18 line (tyX vs a) (tyX vs b) := by
  conv => lhs; unfold tyX
  rw [if_neg (by omega), if_neg (by omega)]
  rfl
 unfold RT at h hb ⊢
 rw [e, run122 (by simp)]
 clear e
 generalize tyX vs a = T at *
 generalize tyX vs b = U at *
 simp [teR] at h hb
 simp [Tryz.f122, teR, drwK_end, exD_A, h, hb]
 by_cases h0 : T.e = 0
 · by_cases h1 : U.e = 0
   · by_cases h2 : T.t = 1 <;> by_cases h3 : U.t = 1 <;> simp [h0, h1, h2, h3, opT2, takT, givT, okT, badT]
   · simp [h0, h1, opT2]
 · simp [h0, opT2]
set_option maxHeartbeats 1000000 in
theorem rop_19 {nn line : Int} {name field : Tx} {a b : Ex} (h : RT vs a) (hb : RT vs b) : RT vs (.mk 19 nn name field [a, b] line) := by
 have e : tyX vs (.mk 19 nn name field [a, b] line) = opT2 19 line (tyX vs a) (tyX vs b) := by
  conv => lhs; unfold tyX
  rw [if_neg (by omega), if_neg (by omega)]
  rfl
 unfold RT at h hb ⊢
 rw [e, run122 (by simp)]
 clear e
 generalize tyX vs a = T at *
 generalize tyX vs b = U at *
 simp [teR] at h hb
 simp [Tryz.f122, teR, drwK_end, exD_A, h, hb]
 by_cases h0 : T.e = 0
 · by_cases h1 : U.e = 0
   · by_cases h2 : T.t = 2 <;> by_cases h3 : U.t = 2 <;> simp [h0, h1, h2, h3, opT2, takT, givT, okT, badT]
   · simp [h0, h1, opT2]
 · simp [h0, opT2]
set_option maxHeartbeats 1000000 in
theorem rop_20 {nn line : Int} {name field : Tx} {a b : Ex} (h : RT vs a) (hb : RT vs b) : RT vs (.mk 20 nn name field [a, b] line) := by
 have e : tyX vs (.mk 20 nn name field [a, b] line) = opT2 20 line (tyX vs a) (tyX vs b) := by
  conv => lhs; unfold tyX
  rw [if_neg (by omega), if_neg (by omega)]
  rfl
 unfold RT at h hb ⊢
 rw [e, run122 (by simp)]
 clear e
 generalize tyX vs a = T at *
 generalize tyX vs b = U at *
 simp [teR] at h hb
 simp [Tryz.f122, teR, drwK_end, exD_A, h, hb]
 by_cases h0 : T.e = 0
 · by_cases h1 : U.e = 0
   · by_cases h2 : T.t = 2 <;> by_cases h3 : U.t = 2 <;> simp [h0, h1, h2, h3, opT2, takT, givT, okT, badT]
   · simp [h0, h1, opT2]
 · simp [h0, opT2]
set_option maxHeartbeats 1000000 in
theorem rop_21 {nn line : Int} {name field : Tx} {a b : Ex} (h : RT vs a) (hb : RT vs b) : RT vs (.mk 21 nn name field [a, b] line) := by
 have e : tyX vs (.mk 21 nn name field [a, b] line) = opT2 21 line (tyX vs a) (tyX vs b) := by
  conv => lhs; unfold tyX
  rw [if_neg (by omega), if_neg (by omega)]
  rfl
 unfold RT at h hb ⊢
 rw [e, run122 (by simp)]
 clear e
 generalize tyX vs a = T at *
 generalize tyX vs b = U at *
 simp [teR] at h hb
 simp [Tryz.f122, teR, drwK_end, exD_A, h, hb]
 by_cases h0 : T.e = 0
 · by_cases h1 : U.e = 0
   · by_cases h2 : T.t = 2 <;> by_cases h3 : U.t = 2 <;> simp [h0, h1, h2, h3, opT2, takT, givT, okT, badT]
   · simp [h0, h1, opT2]
 · simp [h0, opT2]
end
theorem rop2_r {vs : List Vr} {op nn line : Int} {name field : Tx} {a b : Ex} (h8 : 8 ≤ op) (h21 : op ≤ 21) (h : RT vs a) (hb : RT vs b) : RT vs (.mk op nn name field [a, b] line) := by
 have hc : op = 8 ∨ op = 9 ∨ op = 10 ∨ op = 11 ∨ op = 12 ∨ op = 13 ∨ op = 14 ∨ op = 15 ∨ op = 16 ∨ op = 17 ∨ op = 18 ∨ op = 19 ∨ op = 20 ∨ op = 21 := by omega
 rcases hc with e | e | e | e | e | e | e | e | e | e | e | e | e | e <;> subst e
 · exact rop_8 h hb
 · exact rop_9 h hb
 · exact rop_10 h hb
 · exact rop_11 h hb
 · exact rop_12 h hb
 · exact rop_13 h hb
 · exact rop_14 h hb
 · exact rop_15 h hb
 · exact rop_16 h hb
 · exact rop_17 h hb
 · exact rop_18 h hb
 · exact rop_19 h hb
 · exact rop_20 h hb
 · exact rop_21 h hb
section
variable {vs : List Vr} (hl : vs.length < 1000000)
include hl
mutual
theorem rexpr_r : ∀ x : Ex, fitX x = true → RT vs x
 | .mk op nn name field sub line, hf => by
  simp only [fitX, Bool.and_eq_true, decide_eq_true_eq, Bool.not_eq_true', decide_eq_false_iff_not] at hf
  obtain ⟨hop, hlen, _, _, hsub⟩ := hf
  have ih := rexprs_r sub hsub
  unfold subsN at hlen
  by_cases h12 : op = 1 ∨ op = 2
  · exact rcon_r h12
  · by_cases h5 : op = 5
    · subst h5; exact rfieldx_r hl
    · by_cases h34 : op = 3 ∨ op = 4
      · refine rvarx_r hl h34 (fun h4 => ?_)
        rw [if_pos (.inl h4)] at hlen
        match sub, hlen with
        | [y], _ => exact ⟨y, rfl, ih y (by simp)⟩
      · by_cases h67 : op = 6 ∨ op = 7
        · rw [if_pos (.inr h67)] at hlen
          match sub, hlen with
          | [y], _ =>
           rcases h67 with e | e <;> subst e
           · exact rop_6 (ih y (by simp))
           · exact rop_7 (ih y (by simp))
        · rw [if_neg (by omega), if_pos (by omega)] at hlen
          match sub, hlen with
          | [y, z], _ => exact rop2_r (by omega) (by omega) (ih y (by simp)) (ih z (by simp))
theorem rexprs_r : ∀ l : List Ex, fitXs l = true → ∀ y ∈ l, RT vs y
 | [], _, y, hy => by simp at hy
 | x :: r, hf, y, hy => by
  simp only [fitXs, Bool.and_eq_true] at hf
  rcases List.mem_cons.1 hy with e | hy
  · rw [e]; exact rexpr_r x hf.1
  · exact rexprs_r r hf.2 y hy
end
end
theorem opT2_line {op line : Int} {a b : Te} (h : (opT2 op line a b).e = 0) : (opT2 op line a b).line = 0 := by
 rw [(opT2_ok h).2.2.2.2]; rfl
theorem tyX_line (vs : List Vr) : ∀ x : Ex, (tyX vs x).e = 0 → (tyX vs x).line = 0
 | .mk op nn name field sub line, h => by
  unfold tyX at h ⊢
  split at h
  · rename_i c; rw [if_pos c]; rfl
  · rename_i c
    rw [if_neg c]
    split at h
    · rename_i c2
      rw [if_pos c2]
      cases hf : findV vs name with
      | none => rw [hf] at h; simp [badT] at h
      | some v =>
       rw [hf] at h
       simp only at h ⊢
       split at h
       · rename_i c3
         rw [if_pos c3]
         split at h
         · simp [badT] at h
         · rename_i c4
           rw [if_neg c4]
           cases hp : pinF v.ty field with
           | none => rw [hp] at h; simp [badT] at h
           | some p => rfl
       · rename_i c3
         rw [if_neg c3]
         split at h
         · simp [badT] at h
         · rename_i c4
           rw [if_neg c4]
           split at h
           · rename_i c5
             rw [if_pos c5]
             cases sub with
             | nil => rfl
             | cons y r =>
              simp only [tyI] at h ⊢
              split at h
              · rename_i c6; exact absurd h c6
              · rename_i c6
                rw [if_neg c6]
                split at h
                · simp [badT] at h
                · rename_i c7; rw [if_neg c7]; rfl
           · rename_i c5; rw [if_neg c5]; rfl
    · rename_i c2
      rw [if_neg c2]
      match sub, h with
      | [], _ => rfl
      | [y], h => exact opT2_line h
      | y :: z :: _, h => exact opT2_line h
theorem wtE_want (vs : List Vr) (x : Ex) (t : Int) : wtE vs x t = wantX vs x t := by
 unfold wtE wantX
 have := tyX_line vs x
 by_cases h : (tyX vs x).e = 0
 · have hl := this h
   by_cases ht : (tyX vs x).t = t
   · simp [h, ht, hl]
   · simp [h, ht]
 · simp [h]
def RM (vs : List Vr) (lp : Bool) (x : Sm) : Prop := callT ctx 87 [.d (.list (vs.map vrD)), .d (.agg (smL x)), .d (.bool lp)] [] = some (.ret (elR (ckR (chM vs lp x))), [])
def RMs (vs : List Vr) (lp : Bool) (l : List Sm) : Prop := callT ctx 47 [.d (.list (vs.map vrD)), .d (.list (l.map smD)), .d (.bool lp)] [] = some (.ret (elR (ckR (chMs vs lp l))), [])
@[simp] def bxEr (e : EL) : Cont := .box [.d (.int .i64 e.1), .d (.int .i64 e.2)]
theorem rsl_loop {vs : List Vr} {lp : Bool} {l : List Sm} (hln : l.length < 100000000) (hK : ∀ x ∈ l, RM vs lp x) (k : Kt) (RF : EL → Ans)
 (h1 : ∀ e u v X, k .ret ⟨27, gl0, [(6, true, .ptr 400 u 0)], [⟨400, u, bxEr e⟩, ⟨500, v, X⟩]⟩ = RF e)
 (h2 : ∀ (u v : Nat) (X : Cont) (b c : AV), k (.exit 0) ⟨27, gl0, [(0, true, .d (.list (vs.map vrD))), (1, true, .d (.list (l.map smD))), (2, true, .d (.bool lp)), (6, true, .ptr 400 u 0), (7, true, b), (12, true, c)], [⟨400, u, bxEr (0, 0)⟩, ⟨500, v, X⟩]⟩ = RF (0, 0)) : ∀ (rest pre : List Sm) (u v : Nat) (X : Cont), l = pre ++ rest →
 denK ctx 47 (.loop (Code.at (codeOf Tryz.f47) [1, 0, 1, 0, 0])) ⟨27, gl0, [(0, true, .d (.list (vs.map vrD))), (1, true, .d (.list (l.map smD))), (2, true, .d (.bool lp)), (6, true, .ptr 400 u 0), (7, true, .d (.int .i64 pre.length))], [⟨400, u, bxEr (0, 0)⟩, ⟨500, v, X⟩]⟩ k = RF (ckR (chMs vs lp rest))
 | [], pre, u, v, X, hd => by
  have hl0 : pre.length = l.length := by rw [hd]; simp
  simp only [bxEr] at h2
  rw [hl0, denK_loop]
  simp [Tryz.f47, h2, chMs, ckR]
 | x :: rest, pre, u, v, X, hd => by
  have hb1 : pre.length < l.length := by rw [hd]; simp
  have hb2 : l[pre.length] = x := by simp [hd]
  have hm := hK x (by rw [hd]; simp)
  have ih := fun u v X => rsl_loop hln hK k RF h1 h2 rest (pre ++ [x]) u v X (by simp [hd])
  have w1 : IntKind.i64.wrap ((pre.length : Int) + 1) = (pre.length : Int) + 1 := wrap_id (by unfold I64; omega)
  have key : chMs vs lp (x :: rest) = orE (chM vs lp x) (chMs vs lp rest) := by rw [chMs]
  rw [key]
  unfold RM elR at hm
  generalize chM vs lp x = E at *
  generalize chMs vs lp rest = F at *
  simp only [bxEr] at h1
  rw [denK_loop]
  by_cases h0 : E.1 = 0
  · rw [orE_l h0]
    simp [ckR, h0] at hm
    simp [Tryz.f47] at ih ⊢
    simp [hb1, hb2, smD_A, hm, w1, ih]
  · rw [orE_r h0]
    have h1 := h1 E
    simp [ckR, h0] at hm
    simp [Tryz.f47]
    simp [hb1, hb2, smD_A, hm, h0, h1, ckR]
theorem rstmts_r {vs : List Vr} {lp : Bool} {l : List Sm} (hln : l.length < 100000000) (hK : ∀ x ∈ l, RM vs lp x) : RMs vs lp l := by
 unfold RMs
 have h := fun k RF h1 h2 u v X => rsl_loop hln hK k RF h1 h2 l [] u v X rfl
 rw [run47 (by simp)]
 simp [Tryz.f47] at h ⊢
 rw [h _ (fun e => some (.ret (elR e), []))]
 · intro a b u v X; simp [elR]
 · intro u v X b c; simp [elR]
theorem fit_hi {w : Vr} (h : fitV w = true) : w.arr = true → 0 ≤ w.lo ∧ w.lo ≤ w.hi ∧ w.hi ≤ 255 := by
 intro ha
 simp only [fitV, Bool.and_eq_true, ha, if_true, decide_eq_true_eq] at h
 exact h.2.2.1.2
theorem rck_loop (l : List Vr) (hln : l.length ≤ 1000) (hf : ∀ v ∈ l, fitV v = true) (D1 D2 : AV) (k : Kt) (RF : EL → Ans)
 (h1 : ∀ e u v X, e.1 ≠ 0 → k .ret ⟨58, gl0, [(2, true, .ptr 200 u 0)], [⟨150, 1, .box [D1, .d (.list (l.map vrD)), D2]⟩, ⟨200, u, bxEr e⟩, ⟨350, v, X⟩]⟩ = RF e)
 (h2 : ∀ (u v : Nat) (X : Cont) (a b c : AV), k (.exit 0) ⟨58, gl0, [(1, true, .ptr 150 1 0), (2, true, .ptr 200 u 0), (3, true, a), (4, true, b), (11, true, c)], [⟨150, 1, .box [D1, .d (.list (l.map vrD)), D2]⟩, ⟨200, u, bxEr (0, 0)⟩, ⟨350, v, X⟩]⟩ = RF (0, 0)) : ∀ (rest pre : List Vr) (n : Int) (u v : Nat) (X : Cont), l = pre ++ rest → 0 ≤ n → n ≤ 1024 →
 denK ctx 18 (.loop (Code.at (codeOf Tryz.f18) [1, 1, 0, 1, 0, 0])) ⟨58, gl0, [(1, true, .ptr 150 1 0), (2, true, .ptr 200 u 0), (3, true, .d (.int .i64 n)), (4, true, .d (.int .i64 pre.length))], [⟨150, 1, .box [D1, .d (.list (l.map vrD)), D2]⟩, ⟨200, u, bxEr (0, 0)⟩, ⟨350, v, X⟩]⟩ k = RF (chV rest pre n)
 | [], pre, n, u, v, X, hd, h0, hn => by
  have hl0 : pre.length = l.length := by rw [hd]; simp
  simp only [bxEr] at h2
  rw [hl0, denK_loop]
  simp [Tryz.f18, h2, chV]
 | x :: rest, pre, n, u, v, X, hd, h0, hn => by
  have hb1 : pre.length < l.length := by rw [hd]; simp
  have hb2 : l[pre.length] = x := by simp [hd]
  have hb3 : List.take pre.length (List.map vrD l) = List.map vrD pre := by simp [hd]
  have hb4 : pre.length ≤ l.length := by omega
  have hfx := hf x (by rw [hd]; simp)
  have hcs := cells_small hfx
  have hc := rcells_r (fit_hi hfx)
  have hfi := rfind_r (vs := pre) (by omega) x.name
  have ih := fun u v X => rck_loop l hln hf D1 D2 k RF h1 h2 rest (pre ++ [x]) (n + cellsF x) u v X (by simp [hd])
  have w1 : IntKind.i64.wrap ((pre.length : Int) + 1) = (pre.length : Int) + 1 := wrap_id (by unfold I64; omega)
  have w3 : IntKind.i64.wrap (n + cellsF x) = n + cellsF x := wrap_id (by unfold I64; omega)
  have h1a := fun u v X => h1 (11, x.line) u v X (by simp)
  have h1b := fun u v X => h1 (13, x.line) u v X (by simp)
  simp only [bxEr] at h1a h1b
  simp [vrC] at hc
  generalize hW : fV pre x.name = W at *
  simp [vrD, vrC] at hfi
  rw [denK_loop]
  unfold chV
  cases hin : (findV pre x.name).isSome with
  | true =>
   rw [hin] at hfi
   simp [Tryz.f18]
   simp [hb1, hb2, hb3, hb4, vrD, vrC, hfi, h1a, drwK_end]
  | false =>
   rw [hin] at hfi
   by_cases hgt : 1024 < n + cellsF x
   · simp [Tryz.f18]
     simp [hb1, hb2, hb3, hb4, vrD, vrC, hfi, hc, w3, hgt, h1b, drwK_end]
   · have ih := fun u v X => ih u v X (by omega) (by omega)
     simp [Tryz.f18] at ih ⊢
     simp [hb1, hb2, hb3, hb4, vrD, vrC, hfi, hc, w1, w3, hgt, ih, drwK_end]
theorem rcheck_r {p : Pg} (hf : fitP p = true) (hs : RMs p.vars false p.body) : callT ctx 18 [.d (.agg [.str p.name, .list (p.vars.map vrD), .list (p.body.map smD)])] [] = some (.ret (elR (ckR (checkP p))), []) := by
 simp only [fitP, Bool.and_eq_true, decide_eq_true_eq, List.all_eq_true] at hf
 obtain ⟨_, hvl, hvs, hb⟩ := hf
 unfold RMs at hs
 unfold checkP
 generalize hE : chMs p.vars false p.body = E at *
 have h := fun D1 D2 k RF h1 h2 u v X => rck_loop p.vars (by omega) hvs D1 D2 k RF h1 h2 p.vars [] 0 u v X rfl (by omega) (by omega)
 generalize hV : chV p.vars [] 0 = V at *
 rw [run18 (by simp)]
 simp [Tryz.f18] at h ⊢
 rw [h _ _ _ (fun e => some (.ret (elR (ckR (orE e E))), []))]
 · intro a b u v X hab
   rw [orE_r hab]
   simp [elR, ckR, hab]
 · intro u v X a b c
   rw [orE_l rfl]
   simp [hs, elR]
@[reducible] noncomputable def rcC (p : List Nat) : Code := Code.at (codeOf Tryz.f124) p
theorem rcI_loop {x : Sm} {f : Tx} {pre tl : List Tx} (hx : smf x = pre ++ f :: tl) (hlen : (smf x).length < 100000000) {a0 : AV} {u v5 v6 : Nat} {W X5 X6 : Cont} (k : Kt) (R1 R2 : Ans)
 (h1 : k .ret ⟨91, gl0, [(4, true, .ptr 300 u 0)], [⟨250, 1, bxS x⟩, ⟨300, u, bxEr (11, sml x)⟩, ⟨350, 1, W⟩, ⟨500, v5, X5⟩, ⟨650, v6, X6⟩]⟩ = R1)
 (h2 : ∀ b c, k (.exit 2) ⟨91, gl0, [(0, true, a0), (3, true, .ptr 250 1 0), (4, true, .ptr 300 u 0), (5, true, .ptr 350 1 0), (7, true, .d (.int .i64 pre.length)), (8, true, .ptr 500 v5 0), (10, true, b), (60, true, c)], [⟨250, 1, bxS x⟩, ⟨300, u, bxEr (0, 0)⟩, ⟨350, 1, W⟩, ⟨500, v5, X5⟩, ⟨650, v6, X6⟩]⟩ = R2) : ∀ (rest p2 : List Tx), pre = p2 ++ rest →
 denK ctx 124 (.loop (rcC [1, 1, 1, 1, 0, 1, 0, 0, 1, 0, 0, 1, 1, 0, 1, 0, 0])) ⟨91, gl0, [(0, true, a0), (3, true, .ptr 250 1 0), (4, true, .ptr 300 u 0), (5, true, .ptr 350 1 0), (7, true, .d (.int .i64 pre.length)), (8, true, .ptr 500 v5 0), (10, true, .d (.int .i64 p2.length))], [⟨250, 1, bxS x⟩, ⟨300, u, bxEr (0, 0)⟩, ⟨350, 1, W⟩, ⟨500, v5, X5⟩, ⟨650, v6, X6⟩]⟩ k = if f ∈ rest then R1 else R2
 | [], p2, hd => by
  have hl0 : p2.length = pre.length := by rw [hd]; simp
  simp only [bxEr, bxS] at h2
  rw [hl0, denK_loop]
  simp [rcC, Tryz.f124, h2]
 | c :: rest, p2, hd => by
  have hb1 : p2.length < pre.length := by rw [hd]; simp
  have hb2 : pre.length < (smf x).length := by rw [hx]; simp
  have hb3 : p2.length < (smf x).length := by omega
  have hb4 : (smf x)[pre.length] = f := by simp [hx]
  have hb5 : (smf x)[p2.length] = c := by simp [hx, hd]
  have ih := rcI_loop hx hlen k R1 R2 h1 h2 rest (p2 ++ [c]) (by simp [hd])
  have w1 : IntKind.i64.wrap ((p2.length : Int) + 1) = (p2.length : Int) + 1 := wrap_id (by unfold I64; omega)
  simp only [bxEr, bxS] at h1
  rw [denK_loop]
  by_cases hq : c = f
  · have hq' : f = c := hq.symm
    simp [rcC, Tryz.f124]
    simp [hb1, hb2, hb3, hb4, hb5, hq, h1, drwK_end]
  · have hq' : ¬ f = c := fun h => hq h.symm
    simp [rcC, Tryz.f124] at ih ⊢
    simp [hb1, hb2, hb3, hb4, hb5, hq, hq', w1, ih, drwK_end]
theorem rcO_loop {vs : List Vr} {x : Sm} {w : Vr} (hlen : (smf x).length < 100000000) (hle : (smc x).length = (smf x).length) (hC : ∀ y ∈ smc x, RT vs y) (k : Kt) (RF : EL → Ans)
 (h1 : ∀ e u v5 v6 X5 X6, k .ret ⟨91, gl0, [(4, true, .ptr 300 u 0)], [⟨250, 1, bxS x⟩, ⟨300, u, bxEr e⟩, ⟨350, 1, bxV w⟩, ⟨500, v5, X5⟩, ⟨650, v6, X6⟩]⟩ = RF e)
 (h2 : ∀ u v5 v6 X5 X6 b c, k (.exit 0) ⟨91, gl0, [(0, true, .d (.list (vs.map vrD))), (3, true, .ptr 250 1 0), (4, true, .ptr 300 u 0), (5, true, .ptr 350 1 0), (7, true, b), (34, true, c)], [⟨250, 1, bxS x⟩, ⟨300, u, bxEr (0, 0)⟩, ⟨350, 1, bxV w⟩, ⟨500, v5, X5⟩, ⟨650, v6, X6⟩]⟩ = RF (0, 0)) : ∀ (rest pre : List Tx) (cr cp : List Ex) (u v5 v6 : Nat) (X5 X6 : Cont), smf x = pre ++ rest → smc x = cp ++ cr → cp.length = pre.length →
 denK ctx 124 (.loop (rcC [1, 1, 1, 1, 0, 1, 0, 0])) ⟨91, gl0, [(0, true, .d (.list (vs.map vrD))), (3, true, .ptr 250 1 0), (4, true, .ptr 300 u 0), (5, true, .ptr 350 1 0), (7, true, .d (.int .i64 pre.length))], [⟨250, 1, bxS x⟩, ⟨300, u, bxEr (0, 0)⟩, ⟨350, 1, bxV w⟩, ⟨500, v5, X5⟩, ⟨650, v6, X6⟩]⟩ k = RF (ckR (callE vs w.ty (sml x) rest cr pre))
 | [], pre, cr, cp, u, v5, v6, X5, X6, hd, hc, hcl => by
  have hl0 : pre.length = (smf x).length := by rw [hd]; simp
  have e0 : callE vs w.ty (sml x) [] cr pre = (0, 0) := by unfold callE; rfl
  simp only [bxEr, bxS, bxV] at h2
  rw [e0, hl0, denK_loop]
  simp [rcC, Tryz.f124, h2, ckR]
 | f :: rest, pre, [], cp, u, v5, v6, X5, X6, hd, hc, hcl => by
  rw [hd, hc] at hle
  simp at hle
  omega
 | f :: rest, pre, y :: cr, cp, u, v5, v6, X5, X6, hd, hc, hcl => by
  have hb1 : pre.length < (smf x).length := by rw [hd]; simp
  have hb2 : (smf x)[pre.length] = f := by simp [hd]
  have hb3 : pre.length < (smc x).length := by omega
  have hb4 : (smc x)[pre.length] = y := by simp [← hcl, hc]
  have hy := hC y (by rw [hc]; simp)
  have hp := rpin_r w.ty f
  have ih := fun u v5 v6 X5 X6 => rcO_loop hlen hle hC k RF h1 h2 rest (pre ++ [f]) cr (cp ++ [y]) u v5 v6 X5 X6 (by simp [hd]) (by simp [hc]) (by simp [hcl])
  have hin := fun a0 u v5 v6 W X5 X6 k R1 R2 h1 h2 => rcI_loop (a0 := a0) (u := u) (v5 := v5) (v6 := v6) (W := W) (X5 := X5) (X6 := X6) hd hlen k R1 R2 h1 h2 pre [] rfl
  have w1 : IntKind.i64.wrap ((pre.length : Int) + 1) = (pre.length : Int) + 1 := wrap_id (by unfold I64; omega)
  have key : callE vs w.ty (sml x) (f :: rest) (y :: cr) pre = (match pinF w.ty f with
   | none => (9, sml x)
   | some q => if q.inp = false then (9, sml x) else if f ∈ pre then (11, sml x) else orE (wantX vs y q.ty) (callE vs w.ty (sml x) rest cr (pre ++ [f]))) := by
   conv => lhs; unfold callE
   rfl
  have h1a := h1 (9, sml x)
  have h1b := h1 (11, sml x)
  have h1c := h1 (wantX vs y (fP w.ty f).ty)
  have hw := rwants_r (fP w.ty f).ty hy
  rw [wtE_want] at hw
  unfold elR at hw
  simp only [bxEr, bxS, bxV] at h1a h1b h1c
  rw [key]
  clear key
  rw [denK_loop]
  cases hq : pinF w.ty f with
  | none =>
   simp [hq, fP, pnD, pnZ] at hp
   simp [rcC, Tryz.f124]
   simp [hb1, hb2, hp, h1a, ckR, drwK_end]
  | some q =>
   simp only [fP, hq, Option.getD_some] at hw h1c
   simp [hq, fP, pnD] at hp
   simp only
   generalize callE vs w.ty (sml x) rest cr (pre ++ [f]) = E at *
   generalize wantX vs y q.ty = T at *
   by_cases hi : q.inp = false
   · simp [hi] at hp
     simp [rcC, Tryz.f124]
     simp [hb1, hb2, hp, h1a, ckR, hi, drwK_end]
   · have hi : q.inp = true := by simpa using hi
     simp [hi] at hp
     simp [rcC, Tryz.f124] at hin ih ⊢
     simp [hb1, hb2, hp, hi, drwK_end]
     rw [hin (R1 := RF (11, sml x)) (R2 := RF (ckR (orE T E)))]
     · by_cases hm : f ∈ pre
       · simp [hm, ckR]
       · simp [hm]
     · simp [h1b]
     · intro b c
       by_cases h0 : T.1 = 0
       · rw [orE_l h0]
         simp [hb1, hb2, hb3, hb4, exD_A, hw, h0, w1, ih, drwK_end]
       · rw [orE_r h0]
         simp [hb1, hb2, hb3, hb4, exD_A, hw, h0, h1c, ckR, drwK_end]
theorem rcall_r {vs : List Vr} (hl : vs.length < 1000000) {x : Sm} (hlen : (smf x).length < 100000000) (hle : (smc x).length = (smf x).length) (hC : ∀ y ∈ smc x, RT vs y) : callT ctx 124 [.d (.list (vs.map vrD)), .d (.agg (smL x))] [] = some (.ret (elR (ckR (caE vs x))), []) := by
 have hf := rfind_r hl (sma x)
 rw [run124 (by simp)]
 unfold caE
 cases hv : findV vs (sma x) with
 | none =>
  simp [hv, fV, vrD, vrC, vrZ] at hf
  simp [Tryz.f124, hf, elR, ckR]
 | some v =>
  have h := fun k RF h1 h2 u v5 v6 X5 X6 => rcO_loop (w := v) hlen hle hC k RF h1 h2 (smf x) [] (smc x) [] u v5 v6 X5 X6 rfl rfl rfl
  simp [hv, fV, vrD, vrC] at hf
  by_cases h2 : v.ty ≤ 2
  · simp [Tryz.f124, hf, elR, ckR, h2]
  · generalize hE : callE vs v.ty (sml x) (smf x) (smc x) [] = E at *
    simp [rcC, Tryz.f124] at h
    simp [Tryz.f124, hf, h2]
    rw [h _ (fun e => some (.ret (elR e), []))]
    · rw [hE]
    · intro a b u v5 v6 X5 X6; simp [elR]
    · intro u v5 v6 X5 X6 b c; simp [elR]
section
variable {vs : List Vr} {lp : Bool} {x : Sm}
theorem rs7_r (h : smo x = 7) : RM vs lp x := by
 unfold RM
 rw [chM_A, run87 (by simp)]
 cases lp with
 | true => simp [Tryz.f87, h, elR, ckR]
 | false => simp [Tryz.f87, h, elR, ckR]
theorem rs8_r (h : smo x = 8) : RM vs lp x := by
 unfold RM
 rw [chM_A, run87 (by simp)]
 simp [Tryz.f87, h, elR, ckR]
theorem rs9_r (hl : vs.length < 1000000) (h : smo x = 9) (hlen : (smf x).length < 100000000) (hle : (smc x).length = (smf x).length) (hC : ∀ y ∈ smc x, RT vs y) : RM vs lp x := by
 have hc := rcall_r hl hlen hle hC
 unfold RM
 rw [chM_A, run87 (by simp)]
 generalize caE vs x = E at *
 simp [h, elR] at hc
 simp [Tryz.f87, h, elR, hc]
theorem rs5_r (h : smo x = 5) {b : List Sm} (hb : smb x = [b]) (hv : RT vs (smv x)) (hs : RMs vs true b) : RM vs lp x := by
 have hw := rwants_r 2 hv
 rw [wtE_want] at hw
 unfold RMs at hs
 unfold RM
 rw [chM_A, run87 (by simp)]
 have e : chH vs (smb x) = chMs vs true b := by rw [hb]; rfl
 rw [e]
 generalize wantX vs (smv x) 2 = T at *
 generalize chMs vs true b = E at *
 simp [elR] at hw hs
 by_cases h0 : T.1 = 0
 · simp [Tryz.f87, h, hb, bkD, elR, hw, hs, orE_l h0, h0]
 · simp [Tryz.f87, h, hb, elR, hw, orE_r h0, h0, ckR]
theorem rs6_r (h : smo x = 6) {b : List Sm} (hb : smb x = [b]) (hv : RT vs (smv x)) (hs : RMs vs true b) : RM vs lp x := by
 have hw := rwants_r 2 hv
 rw [wtE_want] at hw
 unfold RMs at hs
 unfold RM
 rw [chM_A, run87 (by simp)]
 have e : chH vs (smb x) = chMs vs true b := by rw [hb]; rfl
 have hT : (wantX vs (smv x) 2).1 = 0 → wantX vs (smv x) 2 = (0, 0) := by
  unfold wantX
  split
  · intro hh; rename_i c; exact absurd hh c
  · split
    · intro hh; simp at hh
    · intro _; rfl
 rw [e]
 generalize wantX vs (smv x) 2 = T at *
 generalize chMs vs true b = E at *
 have hT2 : ckR T = T := by
  unfold ckR
  by_cases h0 : T.1 = 0
  · rw [if_pos h0, hT h0]
  · rw [if_neg h0]
 simp [elR] at hw hs
 by_cases h0 : E.1 = 0
 · simp [ckR, h0] at hs
   simp [Tryz.f87, h, hb, bkD, elR, hw, hs, orE_l h0, hT2]
 · simp [ckR, h0] at hs
   simp [Tryz.f87, h, hb, bkD, elR, hs, orE_r h0, h0, ckR]
end
section
variable {vs : List Vr} {lp : Bool} {x : Sm}
theorem rs1_r (hl : vs.length < 1000000) (h : smo x = 1) (ht : RT vs (smt x)) (hv : RT vs (smv x)) : RM vs lp x := by
 have hf := rfind_r hl (exa (smt x))
 unfold RT at ht hv
 unfold RM
 rw [chM_A, run87 (by simp), if_pos h]
 unfold asE
 generalize tyX vs (smt x) = T at *
 generalize tyX vs (smv x) = U at *
 simp [teR] at ht hv
 cases hq : findV vs (exa (smt x)) with
 | none =>
  simp [hq, fV, vrD, vrC, vrZ] at hf
  simp [Tryz.f87, h, hf, elR, ckR]
 | some w =>
  simp [hq, fV, vrD, vrC] at hf
  by_cases h1 : w.sec = 1
  · simp [Tryz.f87, h, hf, h1, elR, ckR]
  · by_cases h2 : T.e = 0
    · have o1 : (teE T).1 = 0 := h2
      by_cases h3 : U.e = 0
      · have o2 : (teE U).1 = 0 := h3
        by_cases h4 : U.t = T.t
        · simp [Tryz.f87, h, hf, h1, ht, h2, hv, h3, h4, orE_l o1, orE_l o2, elR, ckR]
        · simp [Tryz.f87, h, hf, h1, ht, h2, hv, h3, h4, orE_l o1, orE_l o2, elR, ckR]
      · have o2 : ¬ (teE U).1 = 0 := h3
        simp [Tryz.f87, h, hf, h1, ht, h2, hv, h3, orE, elR, ckR, teE]
    · have o1 : ¬ (teE T).1 = 0 := h2
      simp [Tryz.f87, h, hf, h1, ht, h2, orE, elR, ckR, teE]
end
@[reducible] noncomputable def rsC (p : List Nat) : Code := Code.at (codeOf Tryz.f87) p
@[simp] def smem (x : Sm) (e : EL) (w7 w8 w85 w9 w11 : Nat) (Y7 Y8 Y85 Y9 Y11 Y10 : Cont) (w10 : Nat) : List Ent := [⟨300, 1, bxS x⟩, ⟨400, 1, bxEr e⟩, ⟨450, 0, .dead⟩, ⟨600, 0, .dead⟩, ⟨750, w7, Y7⟩, ⟨800, w8, Y8⟩, ⟨850, w85, Y85⟩, ⟨950, w9, Y9⟩, ⟨1000, w10, Y10⟩, ⟨1150, w11, Y11⟩, ⟨1200, 0, .dead⟩, ⟨1250, 0, .dead⟩]
section
variable {vs : List Vr} {lp : Bool} {x : Sm}
theorem rs3_loop {w85 : Nat} {Y85 : Cont} (hlen : (smb x).length < 100000000) (hB : ∀ b ∈ smb x, RMs vs lp b) (k : Kt) (RF : EL → Ans)
 (h1 : ∀ e w9 Y9, k .ret ⟨242, gl0, [(6, true, .ptr 400 1 0)], smem x e 0 0 w85 w9 0 .dead .dead Y85 Y9 .dead .dead 0⟩ = RF e)
 (h2 : ∀ w9 Y9 b c, k (.exit 3) ⟨242, gl0, [(0, true, .d (.list (vs.map vrD))), (2, true, .d (.bool lp)), (4, true, .ptr 300 1 0), (6, true, .ptr 400 1 0), (16, true, b), (128, true, c)], smem x (0, 0) 0 0 w85 w9 0 .dead .dead Y85 Y9 .dead .dead 0⟩ = RF (0, 0)) : ∀ (rest pre : List (List Sm)) (w9 : Nat) (Y9 : Cont), smb x = pre ++ rest →
 denK ctx 87 (.loop (rsC [1, 0, 1, 0, 1, 1, 1, 1, 1, 0, 1, 1, 0, 0])) ⟨242, gl0, [(0, true, .d (.list (vs.map vrD))), (2, true, .d (.bool lp)), (4, true, .ptr 300 1 0), (6, true, .ptr 400 1 0), (16, true, .d (.int .i64 pre.length))], smem x (0, 0) 0 0 w85 w9 0 .dead .dead Y85 Y9 .dead .dead 0⟩ k = RF (ckR (chC vs lp [] rest))
 | [], pre, w9, Y9, hd => by
  have hl0 : pre.length = (smb x).length := by rw [hd]; simp
  have e0 : chC vs lp [] [] = (0, 0) := by unfold chC; rfl
  simp only [smem, bxEr, bxS] at h2
  rw [e0, hl0, denK_loop]
  simp [rsC, Tryz.f87, h2, ckR]
 | b :: rest, pre, w9, Y9, hd => by
  have hb1 : pre.length < (smb x).length := by rw [hd]; simp
  have hb2 : (smb x)[pre.length] = b := by simp [hd]
  have hs := hB b (by rw [hd]; simp)
  have ih := fun w9 Y9 => rs3_loop hlen hB k RF h1 h2 rest (pre ++ [b]) w9 Y9 (by simp [hd])
  have w1 : IntKind.i64.wrap ((pre.length : Int) + 1) = (pre.length : Int) + 1 := wrap_id (by unfold I64; omega)
  have key : chC vs lp [] (b :: rest) = orE (chMs vs lp b) (chC vs lp [] rest) := by
   conv => lhs; unfold chC
  rw [key]
  clear key
  unfold RMs elR at hs
  generalize chMs vs lp b = E at *
  generalize chC vs lp [] rest = F at *
  have h1a := h1 E
  simp only [smem, bxEr, bxS] at h1a
  rw [denK_loop]
  by_cases h0 : E.1 = 0
  · rw [orE_l h0]
    simp [ckR, h0] at hs
    simp [rsC, Tryz.f87] at ih ⊢
    simp [hb1, hb2, bkD, hs, w1, ih]
  · rw [orE_r h0]
    simp [ckR, h0] at hs
    simp [rsC, Tryz.f87]
    simp [hb1, hb2, bkD, hs, h0, h1a, ckR]
theorem rs3_r (h : smo x = 3) (hlen : (smb x).length < 100000000) (hv : RT vs (smv x)) (hB : ∀ b ∈ smb x, RMs vs lp b) : RM vs lp x := by
 have hw := rwants_r 1 hv
 rw [wtE_want] at hw
 have hlo := fun w85 Y85 k RF h1 h2 w9 Y9 => rs3_loop (w85 := w85) (Y85 := Y85) hlen hB k RF h1 h2 (smb x) [] w9 Y9 rfl
 unfold RM
 rw [chM_A, run87 (by simp)]
 generalize wantX vs (smv x) 1 = T at *
 simp [elR] at hw
 by_cases h0 : T.1 = 0
 · rw [if_neg (by omega), if_neg (by omega), if_pos h, orE_l h0]
   generalize chC vs lp [] (smb x) = E at *
   simp [rsC, Tryz.f87, h] at hlo
   simp [Tryz.f87, h, hw, h0]
   rw [hlo _ _ _ (fun e => some (.ret (elR e), []))]
   · intro a b w9 Y9; simp [elR]
   · intro w9 Y9 b c; simp [elR]
 · simp [Tryz.f87, h, hw, h0, orE_r h0, ckR, elR]
theorem rs2_loop (hlen : (smb x).length < 100000000) (hlc : (smc x).length < 100000000) (hC : ∀ y ∈ smc x, RT vs y) (hB : ∀ b ∈ smb x, RMs vs lp b) (k : Kt) (RF : EL → Ans)
 (h1 : ∀ e w7 Y7 w8 Y8, k .ret ⟨242, gl0, [(6, true, .ptr 400 1 0)], smem x e w7 w8 0 0 0 Y7 Y8 .dead .dead .dead .dead 0⟩ = RF e)
 (h2 : ∀ w7 Y7 w8 Y8 b c, k (.exit 1) ⟨242, gl0, [(0, true, .d (.list (vs.map vrD))), (2, true, .d (.bool lp)), (4, true, .ptr 300 1 0), (6, true, .ptr 400 1 0), (12, true, b), (83, true, c)], smem x (0, 0) w7 w8 0 0 0 Y7 Y8 .dead .dead .dead .dead 0⟩ = RF (0, 0)) : ∀ (rest pre : List (List Sm)) (w7 : Nat) (Y7 : Cont) (w8 : Nat) (Y8 : Cont), smb x = pre ++ rest →
 denK ctx 87 (.loop (rsC [1, 0, 1, 0, 1, 1, 1, 0, 1, 0, 0])) ⟨242, gl0, [(0, true, .d (.list (vs.map vrD))), (2, true, .d (.bool lp)), (4, true, .ptr 300 1 0), (6, true, .ptr 400 1 0), (12, true, .d (.int .i64 pre.length))], smem x (0, 0) w7 w8 0 0 0 Y7 Y8 .dead .dead .dead .dead 0⟩ k = RF (ckR (chC vs lp ((smc x).drop pre.length) rest))
 | [], pre, w7, Y7, w8, Y8, hd => by
  have hl0 : pre.length = (smb x).length := by rw [hd]; simp
  have e0 : ∀ cs, chC vs lp cs [] = (0, 0) := by intro cs; unfold chC; rfl
  simp only [smem, bxEr, bxS] at h2
  rw [e0, hl0, denK_loop]
  simp [rsC, Tryz.f87, h2, ckR]
 | b :: rest, pre, w7, Y7, w8, Y8, hd => by
  have hb1 : pre.length < (smb x).length := by rw [hd]; simp
  have hb2 : (smb x)[pre.length] = b := by simp [hd]
  have hs := hB b (by rw [hd]; simp)
  have ih := fun w7 Y7 w8 Y8 => rs2_loop hlen hlc hC hB k RF h1 h2 rest (pre ++ [b]) w7 Y7 w8 Y8 (by simp [hd])
  have w1 : IntKind.i64.wrap ((pre.length : Int) + 1) = (pre.length : Int) + 1 := wrap_id (by unfold I64; omega)
  unfold RMs elR at hs
  have h1a := h1 (chMs vs lp b)
  simp only [smem, bxEr, bxS] at h1a
  rw [denK_loop]
  by_cases hc : pre.length < (smc x).length
  · have hy := hC _ (List.getElem_mem hc)
    have hw := rwants_r 2 hy
    rw [wtE_want] at hw
    have key : chC vs lp ((smc x).drop pre.length) (b :: rest) = orE (wantX vs (smc x)[pre.length] 2) (orE (chMs vs lp b) (chC vs lp ((smc x).drop (pre.length + 1)) rest)) := by
     rw [List.drop_eq_getElem_cons hc]
     conv => lhs; unfold chC
    rw [key]
    clear key
    have h1b := h1 (wantX vs (smc x)[pre.length] 2)
    simp only [smem, bxEr, bxS] at h1b
    simp only [List.length_append, List.length_cons, List.length_nil, Nat.zero_add] at ih
    generalize chMs vs lp b = E at *
    generalize chC vs lp ((smc x).drop (pre.length + 1)) rest = F at *
    generalize wantX vs (smc x)[pre.length] 2 = T at *
    unfold elR at hw
    by_cases ht : T.1 = 0
    · rw [orE_l ht]
      by_cases h0 : E.1 = 0
      · rw [orE_l h0]
        simp [ckR, h0] at hs
        simp [rsC, Tryz.f87] at ih ⊢
        simp [hb1, hb2, hc, exD_A, bkD, hw, ht, hs, w1, ih]
      · rw [orE_r h0]
        simp [ckR, h0] at hs
        simp [rsC, Tryz.f87]
        simp [hb1, hb2, hc, exD_A, bkD, hw, ht, hs, h0, h1a, ckR]
    · rw [orE_r ht]
      simp [rsC, Tryz.f87]
      simp [hb1, hb2, hc, exD_A, hw, ht, h1b, ckR]
  · have hdr : ∀ n, pre.length ≤ n → (smc x).drop n = [] := fun n hn => List.drop_eq_nil_of_le (by omega)
    have key : chC vs lp ((smc x).drop pre.length) (b :: rest) = orE (chMs vs lp b) (chC vs lp [] rest) := by
     rw [hdr _ (Nat.le_refl _)]
     conv => lhs; unfold chC
    rw [key]
    clear key
    simp only [List.length_append, List.length_cons, List.length_nil, Nat.zero_add, hdr (pre.length + 1) (by omega)] at ih
    generalize chMs vs lp b = E at *
    generalize chC vs lp [] rest = F at *
    by_cases h0 : E.1 = 0
    · rw [orE_l h0]
      simp [ckR, h0] at hs
      simp [rsC, Tryz.f87] at ih ⊢
      simp [hb1, hb2, hc, bkD, hs, w1, ih]
    · rw [orE_r h0]
      simp [ckR, h0] at hs
      simp [rsC, Tryz.f87]
      simp [hb1, hb2, hc, bkD, hs, h0, h1a, ckR]
end
section
variable {vs : List Vr} {lp : Bool} {x : Sm}
theorem rs2_r (h : smo x = 2) (hlen : (smb x).length < 100000000) (hlc : (smc x).length < 100000000) (hC : ∀ y ∈ smc x, RT vs y) (hB : ∀ b ∈ smb x, RMs vs lp b) : RM vs lp x := by
 have hlo := fun k RF h1 h2 w7 Y7 w8 Y8 => rs2_loop hlen hlc hC hB k RF h1 h2 (smb x) [] w7 Y7 w8 Y8 rfl
 unfold RM
 rw [chM_A, run87 (by simp)]
 rw [if_neg (by omega), if_pos h]
 simp only [List.length_nil, List.drop_zero] at hlo
 generalize chC vs lp (smc x) (smb x) = E at *
 simp [rsC, Tryz.f87, h] at hlo
 simp [Tryz.f87, h]
 rw [hlo _ (fun e => some (.ret (elR e), []))]
 · intro a b w7 Y7 w8 Y8; simp [elR]
 · intro w7 Y7 w8 Y8 b c; simp [elR]
theorem rs4_loop {W : Cont} (hlc : (smc x).length < 100000000) (hC : ∀ y ∈ smc x, RT vs y) (k : Kt) (RF : EL → Ans)
 (h1 : ∀ (e : EL) w11 Y11, ¬ e.1 = 0 → k .ret ⟨242, gl0, [(6, true, .ptr 400 1 0)], smem x e 0 0 0 0 w11 .dead .dead .dead .dead Y11 W 1⟩ = RF e)
 (h2 : ∀ w11 Y11 b c, k (.exit 5) ⟨242, gl0, [(0, true, .d (.list (vs.map vrD))), (4, true, .ptr 300 1 0), (6, true, .ptr 400 1 0), (20, true, b), (177, true, c)], smem x (0, 0) 0 0 0 0 w11 .dead .dead .dead .dead Y11 W 1⟩ = RF (0, 0)) : ∀ (rest pre : List Ex) (w11 : Nat) (Y11 : Cont), smc x = pre ++ rest →
 denK ctx 87 (.loop (rsC [1, 0, 1, 0, 1, 1, 1, 1, 1, 1, 1, 0, 1, 1, 1, 1, 0, 1, 0, 0])) ⟨242, gl0, [(0, true, .d (.list (vs.map vrD))), (4, true, .ptr 300 1 0), (6, true, .ptr 400 1 0), (20, true, .d (.int .i64 pre.length))], smem x (0, 0) 0 0 0 0 w11 .dead .dead .dead .dead Y11 W 1⟩ k = RF (ckR (wantsE vs 1 rest))
 | [], pre, w11, Y11, hd => by
  have hl0 : pre.length = (smc x).length := by rw [hd]; simp
  simp only [smem, bxEr, bxS] at h2
  rw [hl0, denK_loop]
  simp [rsC, Tryz.f87, h2, ckR, wantsE]
 | y :: rest, pre, w11, Y11, hd => by
  have hb1 : pre.length < (smc x).length := by rw [hd]; simp
  have hb2 : (smc x)[pre.length] = y := by simp [hd]
  have hw := rwants_r 1 (hC y (by rw [hd]; simp))
  rw [wtE_want] at hw
  have ih := fun w11 Y11 => rs4_loop hlc hC k RF h1 h2 rest (pre ++ [y]) w11 Y11 (by simp [hd])
  have w1 : IntKind.i64.wrap ((pre.length : Int) + 1) = (pre.length : Int) + 1 := wrap_id (by unfold I64; omega)
  have key : wantsE vs 1 (y :: rest) = orE (wantX vs y 1) (wantsE vs 1 rest) := rfl
  rw [key]
  clear key
  unfold elR at hw
  generalize wantX vs y 1 = E at *
  generalize wantsE vs 1 rest = F at *
  rw [denK_loop]
  by_cases h0 : E.1 = 0
  · rw [orE_l h0]
    simp [rsC, Tryz.f87] at ih ⊢
    simp [hb1, hb2, exD_A, hw, h0, w1, ih]
  · rw [orE_r h0]
    have h1a := fun w Y => h1 E w Y h0
    simp only [smem, bxEr, bxS] at h1a
    simp [rsC, Tryz.f87]
    simp [hb1, hb2, exD_A, hw, h0, h1a, ckR]
set_option maxHeartbeats 1000000 in
theorem rs4c_r (h : smo x = 4) (hlc : (smc x).length < 100000000) (hC : ∀ y ∈ smc x, RT vs y) {b : List Sm} (hb : smb x = [b]) (hs : RMs vs true b) {w : Vr} (hq : findV vs (sma x) = some w) (hf : callT ctx 45 [.d (.list (vs.map vrD)), .d (.str (sma x))] [] = some (.ret (.tup [.d (vrD (fV vs (sma x))), .d (.bool (findV vs (sma x)).isSome)]), [])) (h1 : ¬ w.sec = 1) (h2 : w.arr = false) (h3 : w.ty = 1) :
 callT ctx 87 [.d (.list (vs.map vrD)), .d (.agg (smL x)), .d (.bool lp)] [] = some (.ret (elR (ckR (orE (wantsE vs 1 (smc x)) (chMs vs true b)))), []) := by
 have hlo := fun W k RF h1 h2 w11 Y11 => rs4_loop (W := W) hlc hC k RF h1 h2 (smc x) [] w11 Y11 rfl
 unfold RMs at hs
 rw [run87 (by simp)]
 generalize chMs vs true b = F at *
 generalize wantsE vs 1 (smc x) = E at *
 simp [hq, fV, vrD, vrC] at hf
 simp [rsC, Tryz.f87, h, hb] at hlo
 simp [elR] at hs
 simp [Tryz.f87, h, hf, h1, h2, h3, hb]
 rw [hlo _ _ (fun e => some (.ret (elR (ckR (orE e F))), []))]
 · by_cases h0 : E.1 = 0
   · simp [ckR, h0, orE]
   · simp [ckR, h0, orE]
 · intro e1 e2 w11 Y11 h0
   simp [elR, orE, h0, ckR]
 · intro w11 Y11 c d
   simp [bkD, hs, elR, orE]
theorem rs4_r (hl : vs.length < 1000000) (h : smo x = 4) (hlc : (smc x).length < 100000000) (hC : ∀ y ∈ smc x, RT vs y) {b : List Sm} (hb : smb x = [b]) (hs : RMs vs true b) : RM vs lp x := by
 have hf := rfind_r hl (sma x)
 unfold RM
 rw [chM_A]
 rw [if_neg (by omega), if_neg (by omega), if_neg (by omega), if_pos h]
 have e : chH vs (smb x) = chMs vs true b := by rw [hb]; rfl
 unfold coE
 rw [e]
 cases hq : findV vs (sma x) with
 | none =>
  rw [run87 (by simp)]
  simp [hq, fV, vrD, vrC, vrZ] at hf
  simp [Tryz.f87, h, hf, elR, ckR]
 | some w =>
  by_cases h1 : w.sec = 1
  · rw [run87 (by simp)]
    simp [hq, fV, vrD, vrC] at hf
    simp [Tryz.f87, h, hf, h1, elR, ckR]
  · by_cases h2 : w.arr = true
    · rw [run87 (by simp)]
      simp [hq, fV, vrD, vrC] at hf
      simp [Tryz.f87, h, hf, h1, h2, elR, ckR]
    · have h2 : w.arr = false := by simpa using h2
      by_cases h3 : w.ty = 1
      · rw [rs4c_r h hlc hC hb hs hq hf h1 h2 h3]
        simp only [if_neg h1, h2, h3]
        simp
      · rw [run87 (by simp)]
        simp [hq, fV, vrD, vrC] at hf
        simp [Tryz.f87, h, hf, h1, h2, h3, elR, ckR]
end
theorem len_one {α : Type} {l : List α} (h : l.length = 1) : ∃ a, l = [a] := by
 match l, h with
 | [a], _ => exact ⟨a, rfl⟩
section
variable {vs : List Vr} (hl : vs.length < 1000000)
include hl
theorem rstmt_r {lp : Bool} {x : Sm} (hf : fitM x = true) (hlb : (smb x).length < 100000000) (hlc : (smc x).length < 100000000) (hlf : (smf x).length < 100000000) (hB : ∀ b ∈ smb x, ∀ q, RMs vs q b) : RM vs lp x := by
 have hfx : ∃ op name to val conds labels fields blocks line, x = .mk op name to val conds labels fields blocks line := by
  obtain ⟨op, name, to, val, conds, labels, fields, blocks, line⟩ := x
  exact ⟨op, name, to, val, conds, labels, fields, blocks, line, rfl⟩
 have facts : (1 ≤ smo x ∧ smo x ≤ 9) ∧ (smo x = 1 → fitX (smt x) = true) ∧ ((smo x = 1 ∨ smo x = 3 ∨ smo x = 5 ∨ smo x = 6) → fitX (smv x) = true) ∧ fitXs (smc x) = true ∧ shapeB (smo x) (smc x).length (smlb x).length (smf x).length (smb x).length = true := by
  obtain ⟨op, name, to, val, conds, labels, fields, blocks, line, rfl⟩ := hfx
  simp only [fitM, Bool.and_eq_true, decide_eq_true_eq] at hf
  obtain ⟨hop, hname, hto, hval, hconds, hshape, hfields, hlabels, hblocks⟩ := hf
  refine ⟨hop, fun h1 => ?_, fun h1 => ?_, hconds, hshape⟩
  · simp only [smo_mk] at h1
    rw [if_pos h1] at hto
    simp only [Bool.and_eq_true] at hto
    exact hto.2
  · simp only [smo_mk] at h1
    rw [if_pos h1] at hval
    simp only [Bool.and_eq_true] at hval
    exact hval.2
 obtain ⟨hop, hto, hval, hconds, hshape⟩ := facts
 have hC := rexprs_r hl (smc x) hconds
 have hc : smo x = 1 ∨ smo x = 2 ∨ smo x = 3 ∨ smo x = 4 ∨ smo x = 5 ∨ smo x = 6 ∨ smo x = 7 ∨ smo x = 8 ∨ smo x = 9 := by omega
 rcases hc with h | h | h | h | h | h | h | h | h
 · exact rs1_r hl h (rexpr_r hl _ (hto h)) (rexpr_r hl _ (hval (.inl h)))
 · exact rs2_r h hlb hlc hC (fun b hb => hB b hb lp)
 · exact rs3_r h hlb (rexpr_r hl _ (hval (.inr (.inl h)))) (fun b hb => hB b hb lp)
 · rw [h] at hshape
   simp [shapeB] at hshape
   obtain ⟨b, hb⟩ := len_one hshape.2.2.2
   exact rs4_r hl h hlc hC hb (hB b (by rw [hb]; simp) true)
 · rw [h] at hshape
   simp [shapeB] at hshape
   obtain ⟨b, hb⟩ := len_one hshape.2.2.2
   exact rs5_r h hb (rexpr_r hl _ (hval (.inr (.inr (.inl h))))) (hB b (by rw [hb]; simp) true)
 · rw [h] at hshape
   simp [shapeB] at hshape
   obtain ⟨b, hb⟩ := len_one hshape.2.2.2
   exact rs6_r h hb (rexpr_r hl _ (hval (.inr (.inr (.inr h))))) (hB b (by rw [hb]; simp) true)
 · exact rs7_r h
 · exact rs8_r h
 · rw [h] at hshape
   simp [shapeB] at hshape
   exact rs9_r hl h hlf hshape.1 hC
mutual
theorem rM_all : ∀ (x : Sm), fitM x = true → ndM x < 100000000 → ∀ lp, RM vs lp x
 | .mk op name to val conds labels fields blocks line, hf, hn, lp => by
  have hfb : fitBs blocks = true := by
   simp only [fitM, Bool.and_eq_true] at hf
   exact hf.2.2.2.2.2.2.2.2
  have hbl := ndBs_len blocks
  simp only [ndM] at hn
  exact rstmt_r hl hf (by simp only [smb_mk]; omega) (by simp only [smc_mk]; omega) (by simp only [smf_mk]; omega) (fun b hb q => rBs_all blocks hfb (by omega) b hb q)
theorem rMl_all : ∀ (l : List Sm), fitMs l = true → ndMs l < 100000000 → ∀ x ∈ l, ∀ lp, RM vs lp x
 | [], _, _, x, hx, _ => by simp at hx
 | y :: r, hf, hn, x, hx, lp => by
  simp only [fitMs, Bool.and_eq_true] at hf
  simp only [ndMs] at hn
  have h1 := rM_all y hf.1 (by omega)
  have h2 := rMl_all r hf.2 (by omega)
  rcases List.mem_cons.1 hx with h | hx
  · rw [h]; exact h1 lp
  · exact h2 x hx lp
theorem rBs_all : ∀ (bs : List (List Sm)), fitBs bs = true → ndBs bs < 100000000 → ∀ b ∈ bs, ∀ q, RMs vs q b
 | [], _, _, b, hb, _ => by simp at hb
 | c :: r, hf, hn, b, hb, q => by
  simp only [fitBs, Bool.and_eq_true] at hf
  simp only [ndBs] at hn
  have hcl := ndMs_len c
  have h1 := rMl_all c hf.1 (by omega)
  have h2 := rBs_all r hf.2 (by omega)
  rcases List.mem_cons.1 hb with h | hb
  · rw [h]; exact rstmts_r (by omega) (fun x hx => h1 x hx q)
  · exact h2 b hb q
end
end
theorem rcheckP_r {p : Pg} (hf : fitP p = true) (hn : ndMs p.body < 100000000) : callT ctx 18 [.d (.agg [.str p.name, .list (p.vars.map vrD), .list (p.body.map smD)])] [] = some (.ret (elR (ckR (checkP p))), []) := by
 have hf2 := hf
 simp only [fitP, Bool.and_eq_true, decide_eq_true_eq, List.all_eq_true] at hf2
 obtain ⟨_, hvl, hvs, hb⟩ := hf2
 have hml := ndMs_len p.body
 exact rcheck_r hf (rstmts_r (by omega) (fun x hx => rMl_all (by omega) p.body hb hn x hx false))
theorem kindsRight_go {p : Pg} (hb : p.body.length < 100000000) (hl : lnMs p.body) (hn : ndMs p.body < 50000000) (haw : callT ctx 26 [] [] = some (.ret (.d (.bool true)), [])) : callT ctx 5 [.d (.agg [.str p.name, .list (p.vars.map vrD), .list (p.body.map smD)])] [] = some (.ret (.d (.bool true)), []) := by
 obtain ⟨B, hsh⟩ := short_r hb hl
 have hfi := fits_r hb hl
 rw [run5 (by simp)]
 cases B with
 | false => simp [Tryz.f5, haw, hsh]
 | true =>
  cases hf : fitP p with
  | false =>
   rw [hf] at hfi
   simp [Tryz.f5, haw, hsh, hfi]
  | true =>
   rw [hf] at hfi
   have hk := kcheck_r hf hn
   have hr := rcheckP_r hf (by omega)
   unfold elR at hr
   simp [Tryz.f5, haw, hsh, hfi, hk, hr]
def pgA : Pg := ⟨[112], [⟨[97], 1, 0, false, 0, 0, 0, 1⟩], [.mk 1 [] (.mk 3 0 [97] [] [] 1) (.mk 1 1 [] [] [] 1) [] [] [] [] 1, .mk 1 [] (.mk 3 0 [97] [] [] 2) (.mk 8 0 [] [] [.mk 3 0 [97] [] [] 2, .mk 2 1 [] [] [] 2] 2) [] [] [] [] 2]⟩
theorem pgA_fit : fitP pgA = true := by kernel_rfl
theorem pgA_check : checkP pgA = (10, 2) := by kernel_rfl
theorem pgA_nd : ndMs pgA.body < 50000000 := by decide
theorem pgA_kinds : callT ctx 27 [.d (.agg [.str pgA.name, .list (pgA.vars.map vrD), .list (pgA.body.map smD)])] [] = some (.ret (.tup [.d (.int .i64 10), .d (.int .i64 2)]), []) := by
 have h := kcheck_r pgA_fit pgA_nd
 rw [pgA_check] at h
 exact h
end Go.Am
end
section
namespace Go.Am
open Go
abbrev AnsT := Option (Out × List (Nat × Cont))
theorem hoistB (c : Prop) [Decidable c] (a b : Bool) (l : List (Nat × Cont)) : (if c then (some (Out.ret (.d (.bool a)), l) : AnsT) else some (Out.ret (.d (.bool b)), l)) = some (Out.ret (.d (.bool (if c then a else b))), l) := by split <;> rfl
theorem retB_iff (a b : Bool) (l : List (Nat × Cont)) : (some (Out.ret (.d (.bool a)), l) : AnsT) = some (Out.ret (.d (.bool b)), l) ↔ (a = true ↔ b = true) := by
 cases a <;> cases b <;> simp
end Go.Am
end
section
namespace Go.Am
open Go Go.Proofs
variable [Inhabited Mx2]
set_option maxRecDepth 20000
theorem wrap8_id {n : Int} (h1 : 0 ≤ n) (h2 : n ≤ 255) : IntKind.u8.wrap n = n := by
 simp [IntKind.wrap, IntKind.bits, IntKind.signed]
 omega
theorem letter_run (c : UInt8) : callT ctx 202 [.d (.int .u8 c.toNat)] [] = some (.ret (.d (.bool (letterB c))), []) := by
 rw [run202 (by simp)]
 simp [Tryz.f202, drwK_end]
 grind [letterB]
theorem digit_run (c : UInt8) : callT ctx 206 [.d (.int .u8 c.toNat)] [] = some (.ret (.d (.bool (digitB c))), []) := by
 rw [run206 (by simp)]
 simp [Tryz.f206, drwK_end]
 grind [digitB]
theorem inner_run (c : UInt8) : callT ctx 204 [.d (.int .u8 c.toNat)] [] = some (.ret (.d (.bool (innerB c))), []) := by
 rw [run204 (by simp)]
 simp [Tryz.f204, drwK_end, letter_run, digit_run]
 simp only [hoistB, retB_iff]
 grind [innerB]
theorem value_run (c : UInt8) : callT ctx 249 [.d (.int .u8 c.toNat)] [] = some (.ret (.d (.int .i64 (valB c))), []) := by
 rw [run249 (by simp)]
 simp [Tryz.f249, drwK_end, digit_run]
 have hc : c.toNat < 256 := c.toNat_lt
 have w : ∀ y : Int, -9223372036854775808 ≤ y → y ≤ 9223372036854775807 → IntKind.i64.wrap y = y := fun y h1 h2 => wrap_id ⟨h1, h2⟩
 have w8 : ∀ y : Int, 0 ≤ y → y ≤ 255 → IntKind.u8.wrap y = y := fun y h1 h2 => wrap8_id h1 h2
 grind [valB, digitB]
theorem strAt_eq {s : Tx} {i : Nat} (h : i < s.length) : strAt s i = s[i] := by simp [strAt, h]
theorem u8_eq (c : UInt8) (n : Nat) (hn : n < 256) : ((c.toNat : Int) = n) ↔ c = UInt8.ofNat n := by
 constructor
 · intro h
   have h : c.toNat = n := by omega
   rw [← h]; simp
 · rintro rfl
   simp; omega
@[simp] def rBox (s : Tx) (i : Nat) : Cont := .box [.d (.str s), .d (.int .i64 i), .d (.int .i64 (plOf (s.take i)).1), .d (.int .i64 (plOf (s.take i)).2)]
theorem rest_run (s : Tx) (i : Nat) (h : i ≤ s.length) : callT ctx 143 [.ptr 0 0 0] [rBox s i] = some (.ret (.d (.str (s.drop i))), [(0, rBox s i)]) := by
 rw [run143 (by simp)]
 simp [Tryz.f143, drwK_end, h]
theorem skip_loop (s : Tx) (i n : Nat) (h : i + n ≤ s.length) (hs : s.length ≤ 100000) (k : Kt) : ∀ (r j : Nat), j + r = n →
 denK ctx 145 (.loop (Code.at (codeOf Tryz.f145) [1, 0, 0])) ⟨42, gl0, [(0, true, .ptr 0 0 0), (4, true, .d (.int .i64 n)), (5, true, .d (.int .i64 j))], [⟨0, 0, rBox s (i + j)⟩]⟩ k =
  k (.exit 0) ⟨42, gl0, [(0, true, .ptr 0 0 0), (4, true, .d (.int .i64 n)), (5, true, .d (.int .i64 n)), (6, true, .d (.bool false))], [⟨0, 0, rBox s (i + n)⟩]⟩
 | 0, j, hj => by
  have hj : j = n := by omega
  subst hj
  rw [denK_loop]
  simp [Tryz.f145]
 | r + 1, j, hj => by
  have ih := skip_loop s i n h hs k r (j + 1) (by omega)
  have hlt : i + j < s.length := by omega
  have hb := plOf_take (s := s) (i := i + j)
  have hsu := plOf_succ hlt
  rw [show i + (j + 1) = i + j + 1 by omega] at ih
  generalize hp : plOf (s.take (i + j)) = p at *
  generalize hq : plOf (s.take (i + j + 1)) = q at *
  obtain ⟨l, c⟩ := p
  obtain ⟨l2, c2⟩ := q
  simp only at hb
  have w1 : IntKind.i64.wrap (c + 1) = c + 1 := wrap_id (by unfold I64; omega)
  have w2 : IntKind.i64.wrap (l + 1) = l + 1 := wrap_id (by unfold I64; omega)
  have w3 : IntKind.i64.wrap ((i : Int) + j + 1) = (i : Int) + j + 1 := wrap_id (by unfold I64; omega)
  have w4 : IntKind.i64.wrap ((j : Int) + 1) = (j : Int) + 1 := wrap_id (by unfold I64; omega)
  have hjn : j < n := by omega
  rw [denK_loop]
  simp [Tryz.f145, hp, hq] at ih ⊢
  have h0 : (0 : Int) ≤ (i : Int) + j := by omega
  have ht : ((i : Int) + j).toNat = i + j := by omega
  have hst := strAt_eq hlt
  have h10 := u8_eq s[i + j] 10 (by omega)
  simp at h10
  unfold plStep at hsu
  by_cases hc : s[i + j] = 10
  · rw [if_pos hc] at hsu
    cases hsu
    simp [hjn, w1, w2, w3, w4, hlt, drwK_end, h0, ht, hst, hc, ih]
  · rw [if_neg hc] at hsu
    cases hsu
    simp [hjn, w1, w2, w3, w4, hlt, drwK_end, h0, ht, hst, h10, hc, ih]
theorem skip_run (s : Tx) (i n : Nat) (h : i + n ≤ s.length) (hs : s.length ≤ 100000) : callT ctx 145 [.ptr 0 0 0, .d (.int .i64 n)] [rBox s i] = some (.ret (.tup []), [(0, rBox s (i + n))]) := by
 have hl := fun k => skip_loop s i n h hs k n 0 (by omega)
 rw [run145 (by simp)]
 simp [Tryz.f145] at hl ⊢
 simp [hl]
theorem indexByte_run (t : Tx) (c : UInt8) : callT ctx 200 [.d (.str t), .d (.int .u8 c.toNat)] [] = some (.ret (.d (.int .i64 (Go.Lib.indexByte t c))), []) := by
 rw [run200 (by simp)]
 simp [Tryz.f200, drwK_end]
set_option maxHeartbeats 1000000 in
theorem gap_loop (s : Tx) (hs : s.length ≤ 100000) (k : Kt) (R : Ans) : ∀ (f i : Nat), i ≤ s.length → s.length - i < f →
 (k .ret ⟨51, gl0, [(2, true, .d (.bool (gapC f (s.drop i)).2))], [⟨0, 0, rBox s (i + (gapC f (s.drop i)).1)⟩]⟩ = R) →
 denK ctx 142 (.loop (Code.at (codeOf Tryz.f142) [1, 0, 0])) ⟨51, gl0, [(0, true, .ptr 0 0 0)], [⟨0, 0, rBox s i⟩]⟩ k = R
 | 0, i, hi, hf, hk => by omega
 | f + 1, i, hi, hf, hk => by
  have hr := rest_run s i hi
  cases ht : s.drop i with
  | nil =>
   rw [ht] at hr hk
   simp [gapC] at hr hk
   rw [denK_loop]
   simp [Tryz.f142, hr, hk, drwK_end]
  | cons c r =>
   have hlen : i + (r.length + 1) = s.length := by have := congrArg List.length ht; simp at this; omega
   have hb1 := indexByte_run (c :: r) 10
   rw [indexByte_line] at hb1
   rw [ht] at hr hk
   unfold gapC at hk
   have hst : strAt (c :: r) 0 = c := rfl
   have hlb := lineN_le (c :: r)
   by_cases h1 : blankB c = true
   · rw [if_pos h1] at hk
     have hsk := skip_run s i 1 (by omega) hs
     have hd : s.drop (i + 1) = r := by rw [← List.tail_drop, ht]; rfl
     have ih := gap_loop s hs k R f (i + 1) (by omega) (by omega) (by rw [hd, show i + 1 + (gapC f r).1 = i + (1 + (gapC f r).1) by omega]; exact hk)
     simp [blankB] at h1
     rw [denK_loop]
     simp [Tryz.f142] at hr hsk ih ⊢
     rcases h1 with (h1 | h1) | h1 <;> simp [hr, hst, h1, hsk, ih, drwK_end]
   rw [if_neg h1] at hk
   have n1 : ¬ (c.toNat : Int) = 32 := fun h => h1 (by simp [blankB]; omega)
   have n2 : ¬ (c.toNat : Int) = 10 := fun h => h1 (by simp [blankB]; omega)
   have n3 : ¬ (c.toNat : Int) = 9 := fun h => h1 (by simp [blankB]; omega)
   have p1 := hasPrefix2 47 47 c r
   have p2 := hasPrefix2 40 42 c r
   by_cases h2 : c = 47 ∧ r.head? = some 47
   · rw [if_pos h2] at hk
     have p1 : Go.Lib.hasPrefix (c :: r) [47, 47] = true := by rw [p1]; simp [h2]
     have hsk := skip_run s i (lineN (c :: r)) (by simp at hlb; omega) hs
     have hd : s.drop (i + lineN (c :: r)) = (c :: r).drop (lineN (c :: r)) := by rw [← List.drop_drop, ht]
     have hpos : 0 < lineN (c :: r) := by simp [lineN, h2.1]
     have ih := gap_loop s hs k R f (i + lineN (c :: r)) (by simp at hlb; omega) (by omega) (by rw [hd, Nat.add_assoc]; exact hk)
     generalize lineN (c :: r) = n at *
     rw [denK_loop]
     by_cases hl : n < (c :: r).length
     · rw [if_pos hl] at hb1
       have hnn : ¬ ((n : Int) < 0) := by omega
       simp [Tryz.f142] at hr hsk ih hb1 ⊢
       simp [hr, hst, n1, n2, n3, p1, hb1, hnn, hsk, ih, drwK_end]
     · rw [if_neg hl] at hb1
       have hn : n = r.length + 1 := by simp at hl hlb; omega
       subst hn
       simp [Tryz.f142] at hr hsk ih hb1 ⊢
       simp [hr, hst, n1, n2, n3, p1, hb1, hsk, ih, drwK_end]
   rw [if_neg h2] at hk
   have p1 : Go.Lib.hasPrefix (c :: r) [47, 47] = false := by rw [p1]; simpa using h2
   by_cases h3 : c = 40 ∧ r.head? = some 42
   · rw [if_pos h3] at hk
     have p2 : Go.Lib.hasPrefix (c :: r) [40, 42] = true := by rw [p2]; simp [h3]
     have hi2 := index_end r.tail
     have h2l : (2 : Int) ≤ (r.length : Int) + 1 := by cases r with | nil => simp at h3 | cons d r => simp; omega
     have hb : r.length - 1 < 4294967281 := by omega
     cases hf2 : findEnd r.tail with
     | none =>
      rw [hf2] at hk hi2
      simp at hk hi2 hr
      rw [denK_loop]
      simp [Tryz.f142]
      simp [hr, hst, n1, n2, n3, p1, p2, h2l, hb, hi2, hk, drwK_end]
     | some m =>
      rw [hf2] at hk hi2
      have hm := findEnd_le hf2
      have hmt : r.tail.length = r.length - 1 := by simp
      have hsk := skip_run s i (m + 4) (by omega) hs
      have hd : s.drop (i + (m + 4)) = (c :: r).drop (m + 4) := by rw [← List.drop_drop, ht]
      have ih := gap_loop s hs k R f (i + (m + 4)) (by omega) (by omega) (by rw [hd, Nat.add_assoc]; exact hk)
      have hnn : ¬ ((m : Int) < 0) := by omega
      have w1 : IntKind.i64.wrap ((m : Int) + 4) = m + 4 := wrap_id (by unfold I64; omega)
      rw [denK_loop]
      simp [Tryz.f142] at hr hsk ih hi2 ⊢
      simp [hr, hst, n1, n2, n3, p1, p2, h2l, hb, hi2, hnn, w1, hsk, ih, drwK_end]
   rw [if_neg h3] at hk
   have p2 : Go.Lib.hasPrefix (c :: r) [40, 42] = false := by rw [p2]; simpa using h3
   simp at hk hr
   rw [denK_loop]
   simp [Tryz.f142]
   simp [hr, hst, n1, n2, n3, p1, p2, hk, drwK_end]
theorem gap_run (s : Tx) (i : Nat) (hi : i ≤ s.length) (hs : s.length ≤ 100000) (f : Nat) (hf : s.length - i < f) :
 callT ctx 142 [.ptr 0 0 0] [rBox s i] = some (.ret (.d (.bool (gapC f (s.drop i)).2)), [(0, rBox s (i + (gapC f (s.drop i)).1))]) := by
 have hl := fun k R => gap_loop s hs k R f i hi hf
 rw [run142 (by simp)]
 simp [Tryz.f142] at hl ⊢
 rw [hl]
 simp
theorem number1_run (c : UInt8) (b : Int) : callT ctx 248 [.d (.int .u8 c.toNat), .ptr 0 0 0] [.box [.d (.int .i64 b)]] = some (.ret (.d (.bool (decide ((valB c : Int) < b)))), [(0, .box [.d (.int .i64 b)])]) := by
 rw [run248 (by simp)]
 simp [Tryz.f248, drwK_end, value_run]
theorem whileA_loop (s : Tx) (hs : s.length ≤ 100000) (k : Kt) : ∀ (r n : Nat), n + r = s.length →
 denK ctx 203 (.loop (Code.at (codeOf Tryz.f203) [1, 1, 0, 0, 0])) ⟨20, gl0, [(0, true, .d (.str s)), (1, true, .fn 204 []), (5, true, .d (.int .i64 n))], []⟩ k =
  k (.exit 0) ⟨20, gl0, [(0, true, .d (.str s)), (1, true, .fn 204 []), (5, true, .d (.int .i64 (n + ((s.drop n).takeWhile innerB).length : Nat))), (16, true, .d (.bool false))], []⟩
 | 0, n, hn => by
  have hn : n = s.length := by omega
  subst hn
  rw [denK_loop]
  simp [Tryz.f203]
 | r + 1, n, hn => by
  have hlt : n < s.length := by omega
  have ih := whileA_loop s hs k r (n + 1) (by omega)
  have w1 : IntKind.i64.wrap ((n : Int) + 1) = (n : Int) + 1 := wrap_id (by unfold I64; omega)
  have hst := strAt_eq hlt
  have hin := inner_run s[n]
  have hd : s.drop n = s[n] :: s.drop (n + 1) := List.drop_eq_getElem_cons hlt
  rw [hd, List.takeWhile_cons]
  rw [denK_loop]
  cases hq : innerB s[n] with
  | true =>
   rw [hq] at hin
   have e : n + 1 + (List.takeWhile innerB (s.drop (n + 1))).length = n + ((List.takeWhile innerB (s.drop (n + 1))).length + 1) := by omega
   rw [e] at ih
   simp [Tryz.f203] at ih hin ⊢
   simp [hlt, hst, hin, w1, ih]
  | false =>
   rw [hq] at hin
   simp [Tryz.f203] at hin ⊢
   simp [hlt, hst, hin]
theorem whileA_run (s : Tx) (hs : s.length ≤ 100000) : callT ctx 203 [.d (.str s), .fn 204 []] [] = some (.ret (.d (.int .i64 (s.takeWhile innerB).length)), []) := by
 have hl := fun k => whileA_loop s hs k s.length 0 (by omega)
 rw [run203 (by simp)]
 simp [Tryz.f203] at hl ⊢
 simp [hl]
theorem whileB_loop (s : Tx) (hs : s.length ≤ 100000) (b : Nat) (k : Kt) : ∀ (r n : Nat), n + r = s.length →
 denK ctx 203 (.loop (Code.at (codeOf Tryz.f203) [1, 1, 0, 0, 0])) ⟨20, gl0, [(0, true, .d (.str s)), (1, true, .fn 248 [.ptr 0 0 0]), (5, true, .d (.int .i64 n))], [⟨0, 0, .box [.d (.int .i64 b)]⟩]⟩ k =
  k (.exit 0) ⟨20, gl0, [(0, true, .d (.str s)), (1, true, .fn 248 [.ptr 0 0 0]), (5, true, .d (.int .i64 (n + ((s.drop n).takeWhile (fun c => decide (valB c < b))).length : Nat))), (16, true, .d (.bool false))], [⟨0, 0, .box [.d (.int .i64 b)]⟩]⟩
 | 0, n, hn => by
  have hn : n = s.length := by omega
  subst hn
  rw [denK_loop]
  simp [Tryz.f203]
 | r + 1, n, hn => by
  have hlt : n < s.length := by omega
  have ih := whileB_loop s hs b k r (n + 1) (by omega)
  have w1 : IntKind.i64.wrap ((n : Int) + 1) = (n : Int) + 1 := wrap_id (by unfold I64; omega)
  have hst := strAt_eq hlt
  have hin := number1_run s[n] b
  have hd : s.drop n = s[n] :: s.drop (n + 1) := List.drop_eq_getElem_cons hlt
  rw [hd, List.takeWhile_cons]
  rw [denK_loop]
  by_cases hq : valB s[n] < b
  · have e : n + 1 + (List.takeWhile (fun c => decide (valB c < b)) (s.drop (n + 1))).length = n + ((List.takeWhile (fun c => decide (valB c < b)) (s.drop (n + 1))).length + 1) := by omega
    rw [e] at ih
    simp [Tryz.f203, hq] at ih hin ⊢
    simp [hlt, hst, hin, w1, ih]
  · simp [Tryz.f203, hq] at hin ⊢
    simp [hlt, hst, hin]
theorem whileB_run (s : Tx) (hs : s.length ≤ 100000) (b : Nat) : callT ctx 203 [.d (.str s), .fn 248 [.ptr 0 0 0]] [.box [.d (.int .i64 b)]] =
 some (.ret (.d (.int .i64 (s.takeWhile (fun c => decide (valB c < b))).length)), [(0, .box [.d (.int .i64 b)])]) := by
 have hl := fun k => whileB_loop s hs b k s.length 0 (by omega)
 rw [run203 (by simp)]
 simp [Tryz.f203] at hl ⊢
 simp [hl]
theorem valB_le (c : UInt8) : valB c ≤ 99 := by
 unfold valB digitB
 split
 · rename_i h; simp at h; omega
 · split <;> omega
set_option maxHeartbeats 1000000 in
theorem num_loop (s : Tx) (hs : s.length ≤ 100000) (b : Nat) (hb : 2 ≤ b ∧ b ≤ 16) (n v : Nat) (ct : Cont) (hn : n ≤ s.length) (k : Kt) (R : Ans) : ∀ (rest : Tx) (i x : Nat), (s.drop i).take rest.length = rest → i + rest.length = n → x ≤ 9223372036854775807 →
 (match valN b x rest with
  | none => k .ret ⟨83, gl0, [(2, true, .d (.int .i64 0)), (3, true, .d (.int .i64 0)), (4, true, .d (.int .i64 2))], [⟨350, 1, .box [.d (.int .i64 b)]⟩, ⟨500, v, ct⟩]⟩
  | some y => k (.exit 2) ⟨83, gl0, [(0, true, .d (.str s)), (5, true, .ptr 350 1 0), (9, true, .d (.int .i64 n)), (10, true, .d (.int .i64 y)), (11, true, .d (.int .i64 n)), (63, true, .d (.bool false))], [⟨350, 1, .box [.d (.int .i64 b)]⟩, ⟨500, v, ct⟩]⟩) = R →
 denK ctx 207 (.loop (Code.at (codeOf Tryz.f207) [1, 1, 1, 1, 1, 1, 0, 1, 0, 0])) ⟨83, gl0, [(0, true, .d (.str s)), (5, true, .ptr 350 1 0), (9, true, .d (.int .i64 n)), (10, true, .d (.int .i64 x)), (11, true, .d (.int .i64 i))], [⟨350, 1, .box [.d (.int .i64 b)]⟩, ⟨500, v, ct⟩]⟩ k = R
 | [], i, x, ht, hi, hx, hR => by
  have hi : i = n := by simpa using hi
  subst hi
  simp [valN] at hR
  rw [denK_loop]
  simp [Tryz.f207, hR]
 | c :: rest, i, x, ht, hi, hx, hR => by
  simp only [List.length_cons] at hi ht
  have hlt : i < s.length := by omega
  have hin : i < n := by omega
  have hd : s.drop i = s[i] :: s.drop (i + 1) := List.drop_eq_getElem_cons hlt
  rw [hd, List.take_succ_cons] at ht
  have hc : s[i] = c := (List.cons.inj ht).1
  have ht2 := (List.cons.inj ht).2
  have hst := strAt_eq hlt
  have hv := value_run c
  have hvl := valB_le c
  have w1 : IntKind.i64.wrap ((i : Int) + 1) = (i : Int) + 1 := wrap_id (by unfold I64; omega)
  have w2 : IntKind.i64.wrap (9223372036854775807 - (valB c : Int)) = ((9223372036854775807 - valB c : Nat) : Int) := by rw [wrap_id (by unfold I64; omega)]; omega
  have hqb : (9223372036854775807 - valB c) / b ≤ 9223372036854775807 := Nat.le_trans (Nat.div_le_self _ _) (Nat.sub_le _ _)
  have w3 : IntKind.i64.wrap (((9223372036854775807 - valB c : Nat) : Int) / (b : Int)) = (((9223372036854775807 - valB c) / b : Nat) : Int) := by
   rw [← Int.natCast_ediv]
   generalize (9223372036854775807 - valB c) / b = z at hqb
   exact wrap_id (by unfold I64; omega)
  have hb0 : b ≠ 0 := by omega
  unfold valN at hR
  rw [denK_loop]
  by_cases ho : (9223372036854775807 - valB c) / b < x
  · have ho' : ((9223372036854775807 - valB c : Nat) : Int) / (b : Int) < x := by rw [← Int.natCast_ediv]; exact Int.ofNat_lt.2 ho
    rw [if_pos ho] at hR
    simp at hR hv
    simp [Tryz.f207]
    simp [hin, hlt, hst, hc, hv, w2, w3, hb0, ho', hR]
  · have ho' : ¬ (((9223372036854775807 - valB c : Nat) : Int) / (b : Int) < x) := by rw [← Int.natCast_ediv]; exact fun h => ho (Int.ofNat_lt.1 h)
    rw [if_neg ho] at hR
    have hm : x * b ≤ 9223372036854775807 - valB c := by
     have h1 : x ≤ (9223372036854775807 - valB c) / b := by omega
     have := Nat.mul_le_mul_right b h1
     have h2 := Nat.div_mul_le_self (9223372036854775807 - valB c) b
     omega
    have hm2 : (x : Int) * (b : Int) = ((x * b : Nat) : Int) := by simp
    have w4 : IntKind.i64.wrap ((x : Int) * b) = ((x * b : Nat) : Int) := by rw [hm2]; exact wrap_id (by unfold I64; omega)
    have w5 : IntKind.i64.wrap (((x * b : Nat) : Int) + valB c) = ((x * b + valB c : Nat) : Int) := by rw [wrap_id (by unfold I64; omega)]; simp
    have ih := num_loop s hs b hb n v ct hn k R rest (i + 1) (x * b + valB c) ht2 (by omega) (by omega) hR
    generalize hxb : x * b + valB c = xb at *
    generalize x * b = xm at *
    simp [Tryz.f207] at ih ⊢
    simp [hin, hlt, hst, hc, hv, w1, w2, w3, w4, w5, hb0, ho', ih]
theorem pre_head {a : UInt8} {p s : Tx} (h : (a :: p).isPrefixOf s = true) : s.head? = some a ∧ p.length + 1 ≤ s.length := by
 have h' := List.isPrefixOf_iff_prefix.1 h
 refine ⟨?_, by simpa using h'.length_le⟩
 obtain ⟨t, rfl⟩ := h'
 rfl
theorem head_cases (s : Tx) : (Go.Lib.hasPrefix s [50, 35] = true ∧ Go.Lib.hasPrefix s [56, 35] = false ∧ Go.Lib.hasPrefix s [49, 54, 35] = false ∧ headN s = (2, 2) ∧ 2 ≤ s.length) ∨
 (Go.Lib.hasPrefix s [50, 35] = false ∧ Go.Lib.hasPrefix s [56, 35] = true ∧ Go.Lib.hasPrefix s [49, 54, 35] = false ∧ headN s = (8, 2) ∧ 2 ≤ s.length) ∨
 (Go.Lib.hasPrefix s [50, 35] = false ∧ Go.Lib.hasPrefix s [56, 35] = false ∧ Go.Lib.hasPrefix s [49, 54, 35] = true ∧ headN s = (16, 3) ∧ 3 ≤ s.length) ∨
 (Go.Lib.hasPrefix s [50, 35] = false ∧ Go.Lib.hasPrefix s [56, 35] = false ∧ Go.Lib.hasPrefix s [49, 54, 35] = false ∧ headN s = (10, 0) ∧ 0 ≤ s.length) := by
 unfold Go.Lib.hasPrefix headN
 have x1 : ([50, 35] : Tx).isPrefixOf s = true → ([56, 35] : Tx).isPrefixOf s = true → False := fun h g => by
  have h := (pre_head h).1; have g := (pre_head g).1; rw [h] at g; revert g; decide
 have x2 : ([50, 35] : Tx).isPrefixOf s = true → ([49, 54, 35] : Tx).isPrefixOf s = true → False := fun h g => by
  have h := (pre_head h).1; have g := (pre_head g).1; rw [h] at g; revert g; decide
 have x3 : ([56, 35] : Tx).isPrefixOf s = true → ([49, 54, 35] : Tx).isPrefixOf s = true → False := fun h g => by
  have h := (pre_head h).1; have g := (pre_head g).1; rw [h] at g; revert g; decide
 have l1 : ([50, 35] : Tx).isPrefixOf s = true → 2 ≤ s.length := fun h => (pre_head h).2
 have l2 : ([56, 35] : Tx).isPrefixOf s = true → 2 ≤ s.length := fun h => (pre_head h).2
 have l3 : ([49, 54, 35] : Tx).isPrefixOf s = true → 3 ≤ s.length := fun h => (pre_head h).2
 cases h2 : ([50, 35] : Tx).isPrefixOf s <;> cases h8 : ([56, 35] : Tx).isPrefixOf s <;> cases h16 : ([49, 54, 35] : Tx).isPrefixOf s <;> simp_all
set_option maxHeartbeats 2000000 in
theorem number_run (s : Tx) (hs : s.length ≤ 100000) : callT ctx 207 [.d (.str s)] [] = some (.ret (.tup [.d (.int .i64 (numF s).1), .d (.int .i64 (numF s).2.1), .d (.int .i64 (numF s).2.2)]), []) := by
 obtain ⟨b, h, hbh, hb, hhl⟩ : ∃ b h, headN s = (b, h) ∧ (2 ≤ b ∧ b ≤ 16) ∧ h ≤ s.length := by
  rcases head_cases s with ⟨_, _, _, e, hl⟩ | ⟨_, _, _, e, hl⟩ | ⟨_, _, _, e, hl⟩ | ⟨_, _, _, e, hl⟩ <;> exact ⟨_, _, e, by omega, by omega⟩
 have hw := whileB_run (s.drop h) (by simp; omega) b
 obtain ⟨ds, hds⟩ : ∃ ds, ds = (s.drop h).takeWhile (fun c => decide (valB c < b)) := ⟨_, rfl⟩
 rw [← hds] at hw
 have hdl : ds.length ≤ s.length - h := by
  have := (List.takeWhile_prefix (fun c => decide (valB c < b)) (l := s.drop h)).length_le
  rw [← hds] at this; simpa using this
 have hdt : (s.drop h).take ds.length = ds := by
  rw [hds]; exact List.prefix_iff_eq_take.1 (List.takeWhile_prefix _) |>.symm
 obtain ⟨n, hn⟩ : ∃ n, n = h + ds.length := ⟨_, rfl⟩
 have hns : n ≤ s.length := by omega
 have hloop := fun v ct k R => num_loop s hs b hb n v ct hns k R ds h 0 hdt hn.symm (by omega)
 have wn : IntKind.i64.wrap ((h : Int) + ds.length) = (n : Int) := by rw [wrap_id (by unfold I64; omega)]; omega
 have hn0 : ¬ ((n : Int) < 0) := by omega
 have hn1 : (0 : Int) ≤ n := by omega
 obtain ⟨F, hF⟩ : ∃ F : Nat × Nat × Nat, F = numG s b h ds := ⟨_, rfl⟩
 have hFF : numF s = F := by unfold numF; rw [hF, hbh]; simp only [← hds]
 rw [hFF]
 have c1 : IntKind.i64.wrap 1 = 1 := wrap_id (by unfold I64; omega)
 have c2 : IntKind.i64.wrap 2 = 2 := wrap_id (by unfold I64; omega)
 have c3 : IntKind.i64.wrap 3 = 3 := wrap_id (by unfold I64; omega)
 have r3 : List.range' 0 3 = [0, 1, 2] := rfl
 have key : ∀ (v : Nat) (ct : Cont) (k : Kt), n ≠ h → (n < s.length → innerB (strAt s n) = false ∧ strAt s n ≠ 35) →
  (∀ x, k (.exit 2) ⟨83, gl0, [(0, true, .d (.str s)), (5, true, .ptr 350 1 0), (9, true, .d (.int .i64 n)), (10, true, .d (.int .i64 x)), (11, true, .d (.int .i64 n)), (63, true, .d (.bool false))], [⟨350, 1, .box [.d (.int .i64 b)]⟩, ⟨500, v, ct⟩]⟩ = some (.ret (.tup [.d (.int .i64 n), .d (.int .i64 x), .d (.int .i64 0)]), [])) →
  (k .ret ⟨83, gl0, [(2, true, .d (.int .i64 0)), (3, true, .d (.int .i64 0)), (4, true, .d (.int .i64 2))], [⟨350, 1, .box [.d (.int .i64 b)]⟩, ⟨500, v, ct⟩]⟩ = some (.ret (.tup [.d (.int .i64 0), .d (.int .i64 0), .d (.int .i64 2)]), [])) →
  denK ctx 207 (.loop (Code.at (codeOf Tryz.f207) [1, 1, 1, 1, 1, 1, 0, 1, 0, 0])) ⟨83, gl0, [(0, true, .d (.str s)), (5, true, .ptr 350 1 0), (9, true, .d (.int .i64 n)), (10, true, .d (.int .i64 (0 : Nat))), (11, true, .d (.int .i64 h))], [⟨350, 1, .box [.d (.int .i64 b)]⟩, ⟨500, v, ct⟩]⟩ k =
   some (.ret (.tup [.d (.int .i64 F.1), .d (.int .i64 F.2.1), .d (.int .i64 F.2.2)]), []) := by
  intro v ct k h1 h2 h3 h4
  have hne : ¬ (ds = [] ∨ ∃ c, s[h + ds.length]? = some c ∧ (innerB c = true ∨ c = 35)) := by
   rintro (hc | ⟨c, hc, hc2⟩)
   · exact h1 (by rw [hn, hc]; rfl)
   · rw [← hn] at hc
     obtain ⟨hlt, hcc⟩ := List.getElem?_eq_some_iff.1 hc
     have h5 := h2 hlt
     rw [strAt_eq hlt, hcc] at h5
     rcases hc2 with hc2 | hc2
     · rw [h5.1] at hc2; cases hc2
     · exact h5.2 hc2
  unfold numG at hF
  rw [if_neg hne, ← hn] at hF
  refine hloop v ct k _ ?_
  cases hv : valN b 0 ds with
  | none => rw [hv] at hF; rw [hF]; exact h4
  | some x => rw [hv] at hF; rw [hF]; exact h3 x
 have err : ∀ c, n < s.length → strAt s n = c → (innerB c = true ∨ c = 35) → F = (0, 0, 5) := by
  intro c hlt hc hc2
  unfold numG at hF
  rw [hF, if_pos (.inr ⟨c, by rw [← hn, List.getElem?_eq_getElem hlt, ← strAt_eq hlt, hc], hc2⟩)]
 have err2 : n = h → F = (0, 0, 5) := by
  intro he
  unfold numG at hF
  rw [hF, if_pos (.inl (List.length_eq_zero_iff.1 (by omega)))]
 have hinr := inner_run (strAt s n)
 have h35 := u8_eq (strAt s n) 35 (by omega)
 simp at h35
 clear hF hloop
 rw [run207 (by simp)]
 rcases head_cases s with ⟨p1, p2, p3, e, hl⟩ | ⟨p1, p2, p3, e, hl⟩ | ⟨p1, p2, p3, e, hl⟩ | ⟨p1, p2, p3, e, hl⟩
 all_goals
  obtain ⟨h', hh'⟩ : ∃ h' : Nat, h' = h := ⟨_, rfl⟩
  rw [hbh] at e
  cases e
  have hlI := Int.ofNat_le.2 hl
  simp [Tryz.f207] at hw wn hlI key err2
  simp [Tryz.f207, r3]
  iterate 4 (rw [denK_loop]; simp [p1, p2, p3, c1, c2, c3, drwK_end])
  simp [hl, hlI, hw, wn]
  by_cases hnh : n = h'
  · have hFe := err2 (hnh.trans hh')
    rw [hh'] at hnh
    simp [hnh, hFe]
  · have hnI : ¬ ((n : Int) = (h' : Int)) := by omega
    rw [hh'] at hnI hnh
    simp at hnI
    by_cases hlt : n < s.length
    · cases hin : innerB (strAt s n)
      · rw [hin] at hinr
        by_cases h35' : strAt s n = 35
        · have hFe := err _ hlt h35' (.inr rfl)
          rw [h35'] at hinr
          simp at hinr
          simp [hnI, hlt, hinr, h35', hFe]
        · have h35n : ¬ ((strAt s n).toNat : Int) = 35 := fun h => h35' (h35.1 h)
          simp [hnI, hlt, hinr, h35n]
          exact key _ _ _ hnh (fun _ => ⟨hin, h35'⟩) (fun x => by simp) (by simp)
      · have hFe := err _ hlt rfl (.inl hin)
        rw [hin] at hinr
        simp [hnI, hlt, hinr, hFe]
    · simp [hnI, hlt]
      exact key _ _ _ hnh (fun h => absurd h hlt) (fun x => by simp) (by simp)
def idxR (s : Tx) : Nat → List Tx → Int
 | _, [] => -1
 | i, x :: r => if s = x then (i : Int) else idxR s (i + 1) r
theorem idxR_mem (s : Tx) : ∀ (l : List Tx) (i : Nat), decide (0 ≤ idxR s i l) = decide (s ∈ l)
 | [], i => by simp [idxR]
 | x :: r, i => by
  have := idxR_mem s r (i + 1)
  unfold idxR
  by_cases h : s = x
  · simp [h]
  · simp only [if_neg h, this]; simp [h]
theorem strIdx_loop (l : List Tx) (hl : l.length ≤ 1000) (s : Tx) (k : Kt) (R : Ans) : ∀ (rest : List Tx) (i : Nat), l.drop i = rest → i + rest.length = l.length →
 ((if 0 ≤ idxR s i rest then k .ret ⟨19, gl0, [(4, true, .d (.int .i64 (idxR s i rest)))], []⟩ else k (.exit 0) ⟨19, gl0, [(0, true, .d (.list (l.map .str))), (1, true, .d (.str s)), (7, true, .d (.int .i64 l.length)), (8, true, .d (.int .i64 l.length)), (9, true, .d (.bool false))], []⟩) = R) →
 denK ctx 261 (.loop (Code.at (codeOf Tryz.f261) [1, 0, 1, 0, 0])) ⟨19, gl0, [(0, true, .d (.list (l.map .str))), (1, true, .d (.str s)), (7, true, .d (.int .i64 l.length)), (8, true, .d (.int .i64 i))], []⟩ k = R
 | [], i, hd, hi, h => by
  have hi : i = l.length := by simpa using hi
  subst hi
  rw [denK_loop]
  simp [idxR] at h
  simp [Tryz.f261, h]
 | x :: rest, i, hd, hi, h => by
  have hlt : i < l.length := by simp at hi; omega
  have hx : l[i] = x := by
   have := congrArg (·[0]?) hd
   simp at this
   simpa [hlt] using this
  have w1 : IntKind.i64.wrap ((i : Int) + 1) = (i : Int) + 1 := wrap_id (by unfold I64; omega)
  unfold idxR at h
  rw [denK_loop]
  by_cases hs : s = x
  · simp [hs] at h
    simp [Tryz.f261]
    simp [hlt, hx, hs, h]
  · rw [if_neg hs] at h
    have ih := strIdx_loop l hl s k R rest (i + 1) (by rw [← List.tail_drop, hd]; rfl) (by simp at hi; omega) h
    simp [Tryz.f261] at ih ⊢
    simp [hlt, hx, hs, w1, ih]
theorem idxR_neg (s : Tx) : ∀ (l : List Tx) (i : Nat), ¬ 0 ≤ idxR s i l → idxR s i l = -1
 | [], i, _ => rfl
 | x :: r, i, h => by
  unfold idxR at h ⊢
  split
  · rename_i hs; rw [if_pos hs] at h; omega
  · rename_i hs; rw [if_neg hs] at h; exact idxR_neg s r (i + 1) h
theorem strIdx_run (l : List Tx) (hl : l.length ≤ 1000) (s : Tx) : callT ctx 261 [.d (.list (l.map .str)), .d (.str s)] [] = some (.ret (.d (.int .i64 (idxR s 0 l))), []) := by
 have hlo := fun k R h => strIdx_loop l hl s k R l 0 rfl (by simp) h
 rw [run261 (by simp)]
 simp [Tryz.f261] at hlo ⊢
 rw [hlo]
 split
 · simp
 · rename_i h; simp [idxR_neg s l 0 h]
theorem contains_run (l : List Tx) (hl : l.length ≤ 1000) (s : Tx) : callT ctx 222 [.d (.list (l.map .str)), .d (.str s)] [] = some (.ret (.d (.bool (decide (s ∈ l)))), []) := by
 have h := strIdx_run l hl s
 rw [run222 (by simp)]
 simp [Tryz.f222, h, ← idxR_mem s l 0]
theorem fields_run : callT ctx 166 [.d (.str wordsT)] [] = some (.ret (.d (.list (wordsL.map .str))), []) := callT_of 300 (by kernel_rfl)
theorem word_run (s : Tx) : callT ctx 205 [.d (.str s)] [] = some (.ret (.d (.bool (wordB s))), []) := by
 have hf := fields_run
 have hc := contains_run wordsL (by decide) s
 unfold wordsT at hf
 generalize wordsL.map D.str = W at hf hc
 rw [run205 (by simp)]
 simp [Tryz.f205, hf, hc, wordB]
theorem indexByte_mem (c : UInt8) : ∀ (l : Tx), 0 ≤ Go.Lib.indexByte l c ↔ c ∈ l
 | [] => by simp [Go.Lib.indexByte]
 | b :: r => by
  have ih := indexByte_mem c r
  have hg := Go.Lib.indexByte_ge r c
  unfold Go.Lib.indexByte
  by_cases h : b = c
  · simp [h]
  · have h' : ¬ c = b := fun e => h e.symm
    simp only [beq_iff_eq, h, if_false, List.mem_cons, h', false_or, ← ih]
    split <;> omega
theorem signF_eq (c : UInt8) (r : Tx) : signF (c :: r) = if Go.Lib.hasPrefix (c :: r) [58, 61] = true then 2 else if Go.Lib.hasPrefix (c :: r) [60, 61] = true then 2 else if Go.Lib.hasPrefix (c :: r) [62, 61] = true then 2 else if Go.Lib.hasPrefix (c :: r) [60, 62] = true then 2 else if Go.Lib.hasPrefix (c :: r) [46, 46] = true then 2 else if 0 ≤ Go.Lib.indexByte signs1 c then 1 else 0 := by
 have hm := indexByte_mem c signs1
 unfold signF signs2 Go.Lib.hasPrefix
 simp only [List.any_cons, List.any_nil, Bool.or_false, Bool.or_eq_true, hm]
 grind
theorem sign_run (c : UInt8) (r : Tx) : callT ctx 208 [.d (.str (c :: r))] [] = some (.ret (.d (.int .i64 (signF (c :: r)))), []) := by
 have r5 : List.range' 0 5 = [0, 1, 2, 3, 4] := rfl
 have c1 : IntKind.i64.wrap 1 = 1 := wrap_id (by unfold I64; omega)
 have c2 : IntKind.i64.wrap 2 = 2 := wrap_id (by unfold I64; omega)
 have c3 : IntKind.i64.wrap 3 = 3 := wrap_id (by unfold I64; omega)
 have c4 : IntKind.i64.wrap 4 = 4 := wrap_id (by unfold I64; omega)
 have c5 : IntKind.i64.wrap 5 = 5 := wrap_id (by unfold I64; omega)
 have hb := indexByte_run signs1 c
 rw [run208 (by simp)]
 simp [Tryz.f208, r5]
 iterate 6 (try (rw [denK_loop]; simp [c1, c2, c3, c4, c5, drwK_end]))
 have hst : strAt (c :: r) 0 = c := rfl
 rw [signF_eq]
 unfold signs1 at hb ⊢
 simp [hst, hb]
 grind
end Go.Am
end

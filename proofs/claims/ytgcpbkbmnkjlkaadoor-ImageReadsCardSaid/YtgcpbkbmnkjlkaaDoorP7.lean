/-
  Texts of one proof, one behind the other.
-/
import Derived.Test.YtgcpbkbmnkjlkaaDoorP6
import Derived.ProofKit
import Derived.ChangeArms
import Derived.ChangeCalls
import Derived.Test.YtgcpbkbmnkjlkaaDoorProg
import Derived.Shelf.Lays
import Derived.KernelRfl
import Derived.Shelf.Strings.Search3
import Derived.Shelf.Strings.Prefix
import Derived.LaidLaws
import Derived.SizedLaws
import Derived.Handed
import Derived.Shelf.Vars
set_option linter.all false
section
namespace Go.Am
open Go Go.Proofs
variable [Inhabited Mx2]
set_option maxRecDepth 20000
def partsX (x : Ins) : Option (List UInt8) := partsR x.op.toNat 0 [x.a, x.b, x.n, x.m]
def partsAll : List Ins → Option (List UInt8)
  | [] => some []
  | x :: r => match partsX x with
    | none => none
    | some p => (partsAll r).map ((opByte x.op :: p) ++ ·)
theorem partsR_len (op : Nat) : ∀ (zs : List Int) (k : Nat) (p : List UInt8), partsR op k zs = some p → p.length ≤ 8 * zs.length
  | [], k, p, h => by simp [partsR] at h; subst h; simp
  | z :: r, k, p, h => by
    unfold partsR at h
    split at h
    · cases h
    · cases hq : partsR op (k + 1) r with
      | none => rw [hq] at h; simp at h
      | some q =>
        rw [hq] at h
        simp at h
        subst h
        have h1 := partsR_len op r (k + 1) q hq
        have h2 := sz_le (op := op) (k := k)
        simp [bigB_len]
        omega
set_option maxHeartbeats 1000000 in
theorem rputs_loop (l : List Ins) (hl : l.length ≤ 5000) (vars cells : Int) (hop : ∀ x ∈ l, 1 ≤ x.op ∧ x.op ≤ 15) (k : Kt) (R : Ans) (H : List UInt8) (hH : H.length = 10)
    (hN : partsAll l = none → ∀ v2 v6 c6 (e : Ent), k .ret ⟨92, gl0, [(2, true, .vec 200 v2 0 0), (3, true, .d (.int .i64 1))], [⟨150, 1, .box [.d (.list (l.map insD)), .d (.int .i64 vars), .d (.int .i64 cells)]⟩, ⟨200, v2, .vec 1 []⟩, ⟨400, v6, .box c6⟩, e]⟩ = R)
    (hS : ∀ T, (partsAll l).map (H ++ ·) = some T → ∀ v2 v6 c6 v, PlainC c6 → k (.exit 0) ⟨92, gl0, [(1, true, .ptr 150 1 0), (4, true, .vec 750 v 0 T.length), (5, true, .d (.int .i64 l.length)), (37, true, .d (.bool false))], [⟨150, 1, .box [.d (.list (l.map insD)), .d (.int .i64 vars), .d (.int .i64 cells)]⟩, ⟨200, v2, .vec 1 []⟩, ⟨400, v6, c6⟩, ⟨750, v, .vec 1 (T.map byteD)⟩]⟩ = R) :
    ∀ (r : List Ins) (i : Nat) (out : List UInt8) (v v2 v6 : Nat) (c6 : Cont), PlainC c6 → l.drop i = r → i + r.length = l.length → out.length ≤ 10 + 33 * i → (partsAll r).map (out ++ ·) = (partsAll l).map (H ++ ·) →
    denK ctx 29 (.loop (Code.at (codeOf Tryd.f29) [1, 1, 1, 1, 1, 1, 0, 1, 0, 0]))
      ⟨92, gl0, [(1, true, .ptr 150 1 0), (4, true, .vec 750 v 0 out.length), (5, true, .d (.int .i64 i))], [⟨150, 1, .box [.d (.list (l.map insD)), .d (.int .i64 vars), .d (.int .i64 cells)]⟩, ⟨200, v2, .vec 1 []⟩, ⟨400, v6, c6⟩, ⟨750, v, .vec 1 (out.map byteD)⟩]⟩ k = R
  | [], i, out, v, v2, v6, c6, hc6, hd, hi, hol, hT => by
    have hi : i = l.length := by simpa using hi
    subst hi
    have hS := hS out (by rw [← hT]; simp [partsAll]) v2 v6 c6 v hc6
    rw [denK_loop]
    simp [Tryd.f29, hS]
  | x :: r, i, out, v, v2, v6, c6, hc6, hd, hi, hol, hT => by
    have hlt : i < l.length := by simp at hi; omega
    have hltI : (i : Int) < l.length := by omega
    have hx : l[i] = x := by
      have := congrArg (·[0]?) hd
      simp at this
      simpa [hlt] using this
    have hxo := hop x (by rw [← hx]; exact List.getElem_mem hlt)
    obtain ⟨op, hopn⟩ : ∃ op : Nat, x.op = op := ⟨x.op.toNat, by omega⟩
    have w1 : IntKind.i64.wrap ((i : Int) + 1) = (i : Int) + 1 := wrap_id (by unfold I64; omega)
    have hw := opByte_wrap x.op
    have ha := u64N_wrap x.a
    have hb := u64N_wrap x.b
    have hn := u64N_wrap x.n
    have hm := u64N_wrap x.m
    have g1 : out.length ≤ 140737488355327 ∧ out.length ≤ 4611686018427387903 := by omega
    have hpx : partsX x = partsR op 0 [x.a, x.b, x.n, x.m] := by unfold partsX; rw [hopn]; rfl
    have epa : partsAll (x :: r) = match partsX x with | none => none | some p => (partsAll r).map ((opByte x.op :: p) ++ ·) := rfl
    rw [epa, hpx] at hT
    obtain ⟨o1, ho1⟩ : ∃ o1, o1 = out ++ [opByte x.op] := ⟨_, rfl⟩
    have hm1 : out.map byteD ++ [D.int .u8 (opByte x.op).toNat] = o1.map byteD := by rw [ho1]; simp
    have hl1 : out.length + 1 = o1.length := by rw [ho1]; simp
    rw [hopn] at hw hm1
    have g2 : o1.length ≤ 140737488355328 ∧ o1.length ≤ 4611686018427387904 := by omega
    have hpl := fun k R v v6 v2 hR => parts_loop op (by omega) [x.a, x.b, x.n, x.m] rfl [.d (.list (l.map insD)), .d (.int .i64 vars), .d (.int .i64 cells)] i v6 v2 x.a x.b x.n x.m k R [x.a, x.b, x.n, x.m] 0 o1 v rfl rfl (by simp; omega) hR
    cases hp : partsR op 0 [x.a, x.b, x.n, x.m] with
    | none =>
      rw [hp] at hT
      simp only [hp] at hpl
      have hnone : partsAll l = none := by
        cases hq : partsAll l with
        | none => rfl
        | some q => rw [hq] at hT; simp at hT
      have hN := hN hnone
      clear hT hS
      rw [denK_loop]
      simp [Tryd.f29]
      simp [Tryd.f29] at hpl
      simp [hlt, hltI, hx, hw, hopn, ha, hb, hn, hm, g1, g2, hm1, hl1]
      refine hpl _ _ _ _ _ (fun e => ?_)
      simp [hN]
    | some p =>
      rw [hp] at hT
      simp only [hp] at hpl
      have hplen := partsR_len op _ _ _ hp
      simp at hplen
      have ih := fun v v2 v6 => rputs_loop l hl vars cells hop k R H hH hN hS r (i + 1) (o1 ++ p) v v2 v6 (.box [.d (.int .i64 x.op), .d (.int .i64 x.a), .d (.int .i64 x.b), .d (.int .i64 x.n), .d (.int .i64 x.m)]) (.inr ⟨[.int .i64 x.op, .int .i64 x.a, .int .i64 x.b, .int .i64 x.n, .int .i64 x.m], rfl⟩) (by rw [← List.tail_drop, hd]; rfl) (by simp at hi; omega) (by simp; omega) (by
        rw [← hT, ho1]
        cases partsAll r <;> simp)
      rw [hopn] at ih
      clear hT hS hN
      generalize o1 ++ p = o2 at *
      rw [denK_loop]
      simp [Tryd.f29]
      simp [Tryd.f29] at hpl ih
      simp [hlt, hltI, hx, hw, hopn, ha, hb, hn, hm, g1, g2, hm1, hl1]
      refine hpl _ _ _ _ _ (fun v X => ?_)
      simp [w1, ih]
end Go.Am
end
section
namespace Go.Am
open Go Go.Proofs
variable [Inhabited Mx2]
set_option maxRecDepth 20000
theorem rpins10 : retLen (callN ctx 120 80 [.d (.int .i64 10)] []) = some 4 := by kernel_rfl
theorem rpins11 : retLen (callN ctx 120 80 [.d (.int .i64 11)] []) = some 4 := by kernel_rfl
theorem rpins12 : retLen (callN ctx 120 80 [.d (.int .i64 12)] []) = some 6 := by kernel_rfl
theorem rpins13 : retLen (callN ctx 120 80 [.d (.int .i64 13)] []) = some 6 := by kernel_rfl
theorem rpins14 : retLen (callN ctx 120 80 [.d (.int .i64 14)] []) = some 6 := by kernel_rfl
theorem rpins15 : retLen (callN ctx 120 80 [.d (.int .i64 15)] []) = some 3 := by kernel_rfl
theorem rpins16 : retLen (callN ctx 120 80 [.d (.int .i64 16)] []) = some 3 := by kernel_rfl
theorem rpins17 : retLen (callN ctx 120 80 [.d (.int .i64 17)] []) = some 3 := by kernel_rfl
theorem rpins18 : retLen (callN ctx 120 80 [.d (.int .i64 18)] []) = some 3 := by kernel_rfl
theorem rpins19 : retLen (callN ctx 120 80 [.d (.int .i64 19)] []) = some 0 := by kernel_rfl
theorem rpins20 : retLen (callN ctx 120 80 [.d (.int .i64 20)] []) = some 4 := by kernel_rfl
theorem rpins21 : retLen (callN ctx 120 80 [.d (.int .i64 21)] []) = some 9 := by kernel_rfl
theorem rpins22 : retLen (callN ctx 120 80 [.d (.int .i64 22)] []) = some 9 := by kernel_rfl
theorem rpins23 : retLen (callN ctx 120 80 [.d (.int .i64 23)] []) = some 9 := by kernel_rfl
theorem rpins24 : retLen (callN ctx 120 80 [.d (.int .i64 24)] []) = some 12 := by kernel_rfl
theorem rpins25 : retLen (callN ctx 120 80 [.d (.int .i64 25)] []) = some 12 := by kernel_rfl
theorem rpins26 : retLen (callN ctx 120 80 [.d (.int .i64 26)] []) = some 12 := by kernel_rfl
theorem rpins27 : retLen (callN ctx 120 80 [.d (.int .i64 27)] []) = some 10 := by kernel_rfl
theorem rpins28 : retLen (callN ctx 120 80 [.d (.int .i64 28)] []) = some 12 := by kernel_rfl
theorem rpins29 : retLen (callN ctx 120 80 [.d (.int .i64 29)] []) = some 5 := by kernel_rfl
theorem rpins30 : retLen (callN ctx 120 80 [.d (.int .i64 30)] []) = some 6 := by kernel_rfl
theorem rpins31 : retLen (callN ctx 120 80 [.d (.int .i64 31)] []) = some 4 := by kernel_rfl
theorem rpins_ok : PinsOk 80 pinsN := by
  intro b
  by_cases h1 : b < 10
  · refine ⟨[], ?_, ?_, ?_⟩
    · rw [run80 (by simp)]
      simp [Tryd.f80, h1]
    · unfold pinsN; repeat' (rw [if_neg (by omega)])
      rfl
    · unfold pinsN; repeat' (rw [if_neg (by omega)])
      omega
  by_cases h2 : 31 < b
  · refine ⟨[], ?_, ?_, ?_⟩
    · rw [run80 (by simp)]
      simp [Tryd.f80, h1, h2]
    · unfold pinsN; repeat' (rw [if_neg (by omega)])
      rfl
    · unfold pinsN; repeat' (rw [if_neg (by omega)])
      omega
  have h : b = 10 ∨ b = 11 ∨ b = 12 ∨ b = 13 ∨ b = 14 ∨ b = 15 ∨ b = 16 ∨ b = 17 ∨ b = 18 ∨ b = 19 ∨ b = 20 ∨ b = 21 ∨ b = 22 ∨ b = 23 ∨ b = 24 ∨ b = 25 ∨ b = 26 ∨ b = 27 ∨ b = 28 ∨ b = 29 ∨ b = 30 ∨ b = 31 := by omega
  rcases h with rfl | rfl | rfl | rfl | rfl | rfl | rfl | rfl | rfl | rfl | rfl | rfl | rfl | rfl | rfl | rfl | rfl | rfl | rfl | rfl | rfl | rfl
  · obtain ⟨l, h1, h2⟩ := pins_of rpins10; exact ⟨l, h1, by rw [h2]; rfl, by decide⟩
  · obtain ⟨l, h1, h2⟩ := pins_of rpins11; exact ⟨l, h1, by rw [h2]; rfl, by decide⟩
  · obtain ⟨l, h1, h2⟩ := pins_of rpins12; exact ⟨l, h1, by rw [h2]; rfl, by decide⟩
  · obtain ⟨l, h1, h2⟩ := pins_of rpins13; exact ⟨l, h1, by rw [h2]; rfl, by decide⟩
  · obtain ⟨l, h1, h2⟩ := pins_of rpins14; exact ⟨l, h1, by rw [h2]; rfl, by decide⟩
  · obtain ⟨l, h1, h2⟩ := pins_of rpins15; exact ⟨l, h1, by rw [h2]; rfl, by decide⟩
  · obtain ⟨l, h1, h2⟩ := pins_of rpins16; exact ⟨l, h1, by rw [h2]; rfl, by decide⟩
  · obtain ⟨l, h1, h2⟩ := pins_of rpins17; exact ⟨l, h1, by rw [h2]; rfl, by decide⟩
  · obtain ⟨l, h1, h2⟩ := pins_of rpins18; exact ⟨l, h1, by rw [h2]; rfl, by decide⟩
  · obtain ⟨l, h1, h2⟩ := pins_of rpins19; exact ⟨l, h1, by rw [h2]; rfl, by decide⟩
  · obtain ⟨l, h1, h2⟩ := pins_of rpins20; exact ⟨l, h1, by rw [h2]; rfl, by decide⟩
  · obtain ⟨l, h1, h2⟩ := pins_of rpins21; exact ⟨l, h1, by rw [h2]; rfl, by decide⟩
  · obtain ⟨l, h1, h2⟩ := pins_of rpins22; exact ⟨l, h1, by rw [h2]; rfl, by decide⟩
  · obtain ⟨l, h1, h2⟩ := pins_of rpins23; exact ⟨l, h1, by rw [h2]; rfl, by decide⟩
  · obtain ⟨l, h1, h2⟩ := pins_of rpins24; exact ⟨l, h1, by rw [h2]; rfl, by decide⟩
  · obtain ⟨l, h1, h2⟩ := pins_of rpins25; exact ⟨l, h1, by rw [h2]; rfl, by decide⟩
  · obtain ⟨l, h1, h2⟩ := pins_of rpins26; exact ⟨l, h1, by rw [h2]; rfl, by decide⟩
  · obtain ⟨l, h1, h2⟩ := pins_of rpins27; exact ⟨l, h1, by rw [h2]; rfl, by decide⟩
  · obtain ⟨l, h1, h2⟩ := pins_of rpins28; exact ⟨l, h1, by rw [h2]; rfl, by decide⟩
  · obtain ⟨l, h1, h2⟩ := pins_of rpins29; exact ⟨l, h1, by rw [h2]; rfl, by decide⟩
  · obtain ⟨l, h1, h2⟩ := pins_of rpins30; exact ⟨l, h1, by rw [h2]; rfl, by decide⟩
  · obtain ⟨l, h1, h2⟩ := pins_of rpins31; exact ⟨l, h1, by rw [h2]; rfl, by decide⟩
end Go.Am
end
section
namespace Go.Am
open Go Go.Proofs
variable [Inhabited Mx2]
set_option maxRecDepth 20000
def WfI (z : Int) : Prop := -9223372036854775808 ≤ z ∧ z ≤ 9223372036854775807
def WfIns (x : Ins) : Prop := WfI x.a ∧ WfI x.b ∧ WfI x.n ∧ WfI x.m
theorem u64N_zero {z : Int} (h : WfI z) : u64N z = 0 ↔ z = 0 := by
  unfold WfI at h
  unfold u64N
  constructor
  · intro h0
    have h1 : 0 ≤ z % 18446744073709551616 := Int.emod_nonneg _ (by omega)
    have h2 : z % 18446744073709551616 = 0 := by omega
    omega
  · rintro rfl; rfl
theorem bigB_0 (n : Nat) : bigB n 0 = [] := rfl
theorem partsX_eq (x : Ins) (ho : 1 ≤ x.op ∧ x.op ≤ 15) (hw : WfIns x) : (partsX x).map (opByte x.op :: ·) = if fitsB x = true then some (putB x) else none := by
  obtain ⟨h1, h2, h3, h4⟩ := hw
  have z1 := u64N_zero h1
  have z2 := u64N_zero h2
  have z3 := u64N_zero h3
  have z4 := u64N_zero h4
  have h : x.op = 1 ∨ x.op = 2 ∨ x.op = 3 ∨ x.op = 4 ∨ x.op = 5 ∨ x.op = 6 ∨ x.op = 7 ∨ x.op = 8 ∨ x.op = 9 ∨ x.op = 10 ∨ x.op = 11 ∨ x.op = 12 ∨ x.op = 13 ∨ x.op = 14 ∨ x.op = 15 := by omega
  unfold partsX fitsB putB
  rcases h with h | h | h | h | h | h | h | h | h | h | h | h | h | h | h
  all_goals
    rw [h]
    simp [partsR, szN, sizesL, hasA, hasB, hasN, hasM, hasK, partB, bigB_0, z1, z2, z3, z4]
  all_goals
    by_cases q1 : x.a = 0 <;> by_cases q2 : x.b = 0 <;> by_cases q3 : x.n = 0 <;> by_cases q4 : x.m = 0 <;> simp [q1, q2, q3, q4]
theorem partsAll_eq : ∀ l : List Ins, (∀ x ∈ l, 1 ≤ x.op ∧ x.op ≤ 15) → (∀ x ∈ l, WfIns x) → partsAll l = if l.all fitsB = true then some (putsB l) else none
  | [], _, _ => rfl
  | x :: r, ho, hw => by
    have ih := partsAll_eq r (fun y hy => ho y (by simp [hy])) (fun y hy => hw y (by simp [hy]))
    have h := partsX_eq x (ho x (by simp)) (hw x (by simp))
    have epa : partsAll (x :: r) = match partsX x with | none => none | some p => (partsAll r).map ((opByte x.op :: p) ++ ·) := rfl
    rw [epa, List.all_cons]
    cases hp : partsX x with
    | none =>
      rw [hp] at h
      have : fitsB x = false := by
        cases hf : fitsB x with
        | false => rfl
        | true => rw [hf] at h; simp at h
      rw [this]; rfl
    | some p =>
      rw [hp] at h
      cases hf : fitsB x with
      | false => rw [hf] at h; simp at h
      | true =>
        rw [hf] at h
        simp at h
        simp only [Bool.true_and, ih]
        have e : putsB (x :: r) = putB x ++ putsB r := by simp [putsB]
        rw [e, ← h]
        cases r.all fitsB <;> simp
theorem form_op {pins : Int → Nat} {cells last i : Int} {x : Ins} (h : formB pins cells last i x = true) : 1 ≤ x.op ∧ x.op ≤ 15 := by
  unfold formB at h
  by_cases h1 : x.op = 1 ∨ x.op = 11
  · omega
  rw [if_neg h1] at h
  by_cases h2 : x.op = 2 ∨ x.op = 3 ∨ x.op = 6 ∨ x.op = 14
  · omega
  rw [if_neg h2] at h
  by_cases h3 : x.op = 13
  · omega
  rw [if_neg h3] at h
  by_cases h4 : x.op = 4 ∨ x.op = 5 ∨ x.op = 7
  · omega
  rw [if_neg h4] at h
  by_cases h5 : x.op = 8
  · omega
  rw [if_neg h5] at h
  by_cases h6 : x.op = 9 ∨ x.op = 10
  · omega
  rw [if_neg h6] at h
  by_cases h7 : x.op = 12
  · omega
  rw [if_neg h7] at h
  by_cases h8 : x.op = 15
  · omega
  rw [if_neg h8] at h
  cases h
theorem code_ops {pins : Int → Nat} {ins : List Ins} {vars cells : Int} (h : okCode pins ins vars cells = true) : ∀ x ∈ ins, 1 ≤ x.op ∧ x.op ≤ 15 := by
  intro x hx
  simp only [okCode, okForms, Bool.and_eq_true] at h
  obtain ⟨i, hi, rfl⟩ := List.getElem_of_mem hx
  exact form_op (forms_get h.1.1.2 i _ (by simp [hi]))
set_option maxHeartbeats 1000000 in
theorem rput_run (ins : List Ins) (vars cells : Int) (hl : ins.length ≤ 5000) (hw : ∀ x ∈ ins, WfIns x) : callT ctx 29 [.d (codeD ins vars cells)] [] =
    some (.ret (.tup [.d (.list ((putP ins vars cells).1.map byteD)), .d (.int .i64 (putP ins vars cells).2)]), []) := by
  have hc := refCode_run ins vars cells pinsN rpins_ok hl
  rw [ref_ok] at hc
  rw [run29 (by simp)]
  unfold putP
  cases h1 : okCode pinsN ins vars cells with
  | false =>
    rw [h1] at hc
    simp at hc
    simp [Tryd.f29, drwK_end, hc]
  | true =>
    have hops := code_ops h1
    have hpa := partsAll_eq ins hops hw
    rw [h1] at hc
    have r4 : [0, 1, 2, 3] = List.range' 0 4 := rfl
    have hlv := laid_run (u64N vars) 2 (by omega) (by unfold u64N; have : vars % 18446744073709551616 < 18446744073709551616 := Int.emod_lt_of_pos _ (by omega); omega)
    have hlc := laid_run (u64N cells) 2 (by omega) (by unfold u64N; have : cells % 18446744073709551616 < 18446744073709551616 := Int.emod_lt_of_pos _ (by omega); omega)
    have hln := laid_run (u64N ins.length) 2 (by omega) (by unfold u64N; have : (ins.length : Int) % 18446744073709551616 < 18446744073709551616 := Int.emod_lt_of_pos _ (by omega); omega)
    have hav := u64N_wrap vars
    have hac := u64N_wrap cells
    have han := u64N_wrap ins.length
    have hHl : (headBs ins.length vars cells).length = 10 := by simp [headBs, bigB_len]
    have b1 := bigB_len (u64N vars) 2
    have b2 := bigB_len (u64N cells) 2
    have b3 := bigB_len (u64N ins.length) 2
    have hHm : [D.int .u8 83, .int .u8 86, .int .u8 67, .int .u8 49] ++ (bigB (u64N vars) 2).map byteD ++ (bigB (u64N cells) 2).map byteD ++ (bigB (u64N ins.length) 2).map byteD = (headBs ins.length vars cells).map byteD := by simp [headBs]
    have hlo := fun k R hN hS v v2 v6 c6 hc6 => rputs_loop ins hl vars cells hops k R (headBs ins.length vars cells) hHl hN hS ins 0 (headBs ins.length vars cells) v v2 v6 c6 hc6 rfl (by simp) (by omega) rfl
    rw [hpa] at hlo
    simp only [hHl] at hlo
    generalize bigB (u64N vars) 2 = BV at *
    generalize bigB (u64N cells) 2 = BC at *
    generalize bigB (u64N ins.length) 2 = BN at *
    cases h2 : ins.all fitsB with
    | false =>
      rw [h2] at hlo
      simp [Tryd.f29] at hlo hc hlv hlc hln hHm
      simp [Tryd.f29, drwK_end, hc, hav, hac, han, r4, hlv, hlc, hln, b1, b2, b3, hHm]
      refine hlo _ _ (fun v2 v6 c6 e => ?_) _ _ _ _ (.inl rfl)
      simp
    | true =>
      rw [h2] at hlo
      have hbl := bodyB_len ins vars cells
      have eB : headBs ins.length vars cells ++ putsB ins = bodyB ins vars cells := rfl
      simp only [if_true, Option.map_some, Option.some.injEq, eB] at hlo
      have hs := rsumOf_run (bodyB ins vars cells) (by omega)
      have hsl := (crcL 65535#16 (bodyB ins vars cells)).isLt
      have hld := laid_run (crcL 65535#16 (bodyB ins vars cells)).toNat 2 (by omega) (by omega)
      have w1 : IntKind.u64.wrap ((crcL 65535#16 (bodyB ins vars cells)).toNat : Int) = ((crcL 65535#16 (bodyB ins vars cells)).toNat : Int) := by
        simp [IntKind.wrap, IntKind.bits, IntKind.signed]; omega
      have b4 := bigB_len (crcL 65535#16 (bodyB ins vars cells)).toNat 2
      unfold sumB
      generalize crcL 65535#16 (bodyB ins vars cells) = s at *
      generalize bodyB ins vars cells = B at *
      generalize bigB s.toNat 2 = BS at *
      simp [Tryd.f29] at hlo hc hlv hlc hln hHm hld
      simp [Tryd.f29, drwK_end, hc, hav, hac, han, r4, hlv, hlc, hln, b1, b2, b3, hHm]
      refine hlo _ _ (fun v2 v6 c6 v hc6 => ?_) _ _ _ _ (.inl rfl)
      have g1 : B.length + 2 ≤ 140737488355328 ∧ B.length + 2 ≤ 4611686018427387904 := by omega
      rcases hc6 with rfl | ⟨ds, rfl⟩
      · simp [hs, w1, hld, b4, g1]
        done
      · simp [hs, w1, hld, b4, g1]
        done
end Go.Am
end
section
namespace Go.Am
open Go Go.Proofs
variable [Inhabited Mx2]
set_option maxRecDepth 20000
theorem rtake_ok (l : List UInt8) (s : Nat) (hs : s ≤ 8) (hl : s ≤ l.length) (hL : l.length ≤ 900000) : callT ctx 68 [.ptr 0 0 0, .d (.int .i64 s)] [rdBox l 0] = some (.ret (.d (.int .u64 (bigN (l.take s)))), [(0, rdBox (l.drop s) 0)]) := by
  have h := fun c0 k R hR => rtake_loop (l.take s) (by simp; omega) s c0 k R hR (l.take s) 0 0 rfl (by simp) (by simp) rfl
  have hln : (l.take s).length = s := by simp; omega
  have h1 : ¬ ((l.length : Int) < s) := by omega
  have h2 : (s : Int) ≤ l.length := by omega
  generalize bigN (l.take s) = z at *
  rw [hln] at h
  rw [run68 (by simp)]
  simp [Tryd.f68] at h
  have hmin : min s l.length = s := by omega
  simp [Tryd.f68, h1, h2, hl, hmin]
  rw [h]
  simp [h2, hl]
theorem rtake_short (l : List UInt8) (s : Nat) (hl : l.length < s) : callT ctx 68 [.ptr 0 0 0, .d (.int .i64 s)] [rdBox l 0] = some (.ret (.d (.int .u64 0)), [(0, rdBox l 4)]) := by
  have h1 : ((l.length : Int) < s) := by omega
  rw [run68 (by simp)]
  simp [Tryd.f68, h1]
theorem rtake_err (l : List UInt8) (s : Nat) (e : Int) (he : e ≠ 0) : callT ctx 68 [.ptr 0 0 0, .d (.int .i64 s)] [rdBox l e] = some (.ret (.d (.int .u64 0)), [(0, rdBox l e)]) := by
  rw [run68 (by simp)]
  simp [Tryd.f68, he]
def takeF (s : Nat) (p : List UInt8 × Nat) : Nat × (List UInt8 × Nat) := if p.2 = 0 then (if p.1.length < s then (0, (p.1, 4)) else (bigN (p.1.take s), (p.1.drop s, 0))) else (0, p)
theorem rtake_run (p : List UInt8 × Nat) (s : Nat) (hs : s ≤ 8) (hL : p.1.length ≤ 900000) : callT ctx 68 [.ptr 0 0 0, .d (.int .i64 s)] [rdBox p.1 p.2] = some (.ret (.d (.int .u64 (takeF s p).1)), [(0, rdBox (takeF s p).2.1 (takeF s p).2.2)]) := by
  obtain ⟨l, e⟩ := p
  unfold takeF
  by_cases he : e = 0
  · subst he
    by_cases hl : l.length < s
    · have := rtake_short l s hl
      simpa [hl] using this
    · have := rtake_ok l s hs (by omega) hL
      simpa [hl] using this
  · have := rtake_err l s e (by omega)
    simpa [he] using this
theorem takeF_len (s : Nat) (p : List UInt8 × Nat) : (takeF s p).2.1.length ≤ p.1.length := by
  unfold takeF
  split
  · split
    · simp
    · simp
  · simp
theorem takeF_lt (s : Nat) (p : List UInt8 × Nat) (hs : s ≤ 8) : (takeF s p).1 < 18446744073709551616 := by
  unfold takeF
  split
  · split
    · simp
    · have h := bigN_lt (p.1.take s)
      have h2 : (256 : Nat) ^ (p.1.take s).length ≤ 256 ^ 8 := Nat.pow_le_pow_right (by omega) (by simp; omega)
      have e : (256 : Nat) ^ 8 = 18446744073709551616 := by decide
      simp only
      omega
  · simp
def condT (b : Bool) (s : Nat) (p : List UInt8 × Nat) : Nat × (List UInt8 × Nat) := if b then takeF s p else (0, p)
def i64N (n : Nat) : Int := IntKind.i64.wrap n
def kindP (p : List UInt8 × Nat) (op : Int) : List UInt8 × Nat := if p.2 = 0 ∧ hasK op = false then (p.1, 5) else p
theorem condT_run (b : Bool) (s : Nat) (q0 : List UInt8) (e0 : Nat) (hs : s ≤ 8) (hL : q0.length ≤ 900000) : ∃ n q e, condT b s (q0, e0) = (n, (q, e)) ∧ q.length ≤ q0.length ∧
    (b = true → callT ctx 68 [.ptr 0 0 0, .d (.int .i64 s)] [rdBox q0 e0] = some (.ret (.d (.int .u64 n)), [(0, rdBox q e)])) ∧ (b = false → n = 0 ∧ q = q0 ∧ e = e0) := by
  have h := rtake_run (q0, e0) s hs hL
  have hl := takeF_len s (q0, e0)
  cases b with
  | false => exact ⟨0, q0, e0, rfl, Nat.le_refl _, fun h => by (cases h), fun _ => ⟨rfl, rfl, rfl⟩⟩
  | true => exact ⟨_, _, _, rfl, hl, fun _ => h, fun h => by (cases h)⟩
/-- An instruction, and what is left. -/
def insF (p : List UInt8 × Nat) : Ins × (List UInt8 × Nat) :=
  let t0 := takeF 1 p
  let ta := condT (hasA (i64N t0.1)) 2 (kindP t0.2 (i64N t0.1))
  let tb := condT (hasB (i64N t0.1)) 2 ta.2
  let tn := condT (hasN (i64N t0.1)) 8 tb.2
  let tm := condT (hasM (i64N t0.1)) 8 tn.2
  (⟨i64N t0.1, i64N ta.1, i64N tb.1, i64N tn.1, i64N tm.1⟩, tm.2)
set_option maxHeartbeats 2000000 in
theorem ins_run (p : List UInt8 × Nat) (hL : p.1.length ≤ 900000) : callT ctx 69 [.ptr 0 0 0] [rdBox p.1 p.2] = some (.ret (.d (insD (insF p).1)), [(0, rdBox (insF p).2.1 (insF p).2.2)]) := by
  obtain ⟨q, e⟩ := p
  obtain ⟨n0, q0, e0', t0, l0, F0, _⟩ := condT_run true 1 q e (by omega) hL
  have t0 : takeF 1 (q, e) = (n0, (q0, e0')) := t0
  have F0 := F0 rfl
  unfold insF
  rw [t0]
  simp only
  have hh := has_run (i64N n0)
  obtain ⟨e1', hp1⟩ : ∃ e1', kindP (q0, e0') (i64N n0) = (q0, e1') ∧ e1' = if e0' = 0 ∧ hasK (i64N n0) = false then 5 else e0' := by unfold kindP; split <;> exact ⟨_, rfl, rfl⟩
  obtain ⟨hp1, he1⟩ := hp1
  rw [hp1]
  simp only at hL
  obtain ⟨na, qa, ea', ta, l1, F1, G1⟩ := condT_run (hasA (i64N n0)) 2 q0 e1' (by omega) (by omega)
  rw [ta]
  obtain ⟨nb, qb, eb', tb, l2, F2, G2⟩ := condT_run (hasB (i64N n0)) 2 qa ea' (by omega) (by omega)
  rw [tb]
  obtain ⟨nn, qn, en', tn, l3, F3, G3⟩ := condT_run (hasN (i64N n0)) 8 qb eb' (by omega) (by omega)
  rw [tn]
  obtain ⟨nm, qm, em', tm, l4, F4, G4⟩ := condT_run (hasM (i64N n0)) 8 qn en' (by omega) (by omega)
  rw [tm]
  simp only
  have x0 : IntKind.i64.wrap (n0 : Int) = i64N n0 := rfl
  have xa : IntKind.i64.wrap (na : Int) = i64N na := rfl
  have xb : IntKind.i64.wrap (nb : Int) = i64N nb := rfl
  have xn : IntKind.i64.wrap (nn : Int) = i64N nn := rfl
  have xm : IntKind.i64.wrap (nm : Int) = i64N nm := rfl
  have xz : i64N 0 = 0 := rfl
  generalize hasA (i64N n0) = bA at *
  generalize hasB (i64N n0) = bB at *
  generalize hasN (i64N n0) = bN at *
  generalize hasM (i64N n0) = bM at *
  generalize hasK (i64N n0) = bK at *
  clear l0 l1 l2 l3 l4 hL t0 hp1 ta tb tn tm
  rw [run69 (by simp)]
  simp at F0
  by_cases hk : e0' = 0 ∧ bK = false
  · rw [if_pos hk] at he1
    subst he1
    cases bA <;> cases bB <;> cases bN <;> cases bM
    all_goals
      (try (obtain ⟨rfl, rfl, rfl⟩ := G1 rfl))
      (try (obtain ⟨rfl, rfl, rfl⟩ := G2 rfl))
      (try (obtain ⟨rfl, rfl, rfl⟩ := G3 rfl))
      (try (obtain ⟨rfl, rfl, rfl⟩ := G4 rfl))
      (try (replace F1 := F1 rfl; simp at F1))
      (try (replace F2 := F2 rfl; simp at F2))
      (try (replace F3 := F3 rfl; simp at F3))
      (try (replace F4 := F4 rfl; simp at F4))
      clear G1 G2 G3 G4
      simp [Tryd.f69, drwK_end, *]
  · rw [if_neg hk] at he1
    subst he1
    have hk' : e1' = 0 → bK = true := fun h => by
      cases hb : bK with
      | true => rfl
      | false => exact absurd ⟨h, hb⟩ hk
    cases bA <;> cases bB <;> cases bN <;> cases bM
    all_goals
      (try (obtain ⟨rfl, rfl, rfl⟩ := G1 rfl))
      (try (obtain ⟨rfl, rfl, rfl⟩ := G2 rfl))
      (try (obtain ⟨rfl, rfl, rfl⟩ := G3 rfl))
      (try (obtain ⟨rfl, rfl, rfl⟩ := G4 rfl))
      (try (replace F1 := F1 rfl; simp at F1))
      (try (replace F2 := F2 rfl; simp at F2))
      (try (replace F3 := F3 rfl; simp at F3))
      (try (replace F4 := F4 rfl; simp at F4))
      clear G1 G2 G3 G4
      simp [Tryd.f69, drwK_end, *]
end Go.Am
end
section
namespace Go.Am
open Go Go.Proofs
variable [Inhabited Mx2]
set_option maxRecDepth 20000
def readsF : Nat → List UInt8 × Nat → List Ins → List Ins × (List UInt8 × Nat)
  | 0, p, acc => (acc, p)
  | n + 1, p, acc => if p.2 = 0 then readsF n (insF p).2 (acc ++ [(insF p).1]) else (acc, p)
theorem condT_len (b : Bool) (s : Nat) (p : List UInt8 × Nat) : (condT b s p).2.1.length ≤ p.1.length := by
  unfold condT; split; exact takeF_len s p; simp
theorem insF_len (p : List UInt8 × Nat) : (insF p).2.1.length ≤ p.1.length := by
  unfold insF
  simp only
  refine Nat.le_trans (condT_len _ _ _) (Nat.le_trans (condT_len _ _ _) (Nat.le_trans (condT_len _ _ _) (Nat.le_trans (condT_len _ _ _) ?_)))
  have : ∀ (q : List UInt8 × Nat) (op : Int), (kindP q op).1 = q.1 := by intro q op; unfold kindP; split <;> rfl
  rw [this]
  exact takeF_len 1 p
set_option maxHeartbeats 1000000 in
theorem reads_loop (c2 : Cont) (vars cells : Int) (k : Kt) (R : Ans) (T : List Ins × (List UInt8 × Nat)) (N : Nat) (hN : N ≤ 70000)
    (hR : ∀ v (n : Int) (X : Env), k (.exit 0) ⟨74, gl0, [(2, true, .ptr 200 1 0), (6, true, .ptr 1100 1 0), (7, true, .ptr 450 1 0), (8, true, .d (.int .i64 n))] ++ X, [⟨200, 1, c2⟩, ⟨450, 1, .box [.vec 451 v 0 T.1.length, .d (.int .i64 vars), .d (.int .i64 cells)]⟩, ⟨451, v, .vec 5 (T.1.map insD)⟩, ⟨1100, 1, rdBox T.2.1 T.2.2⟩]⟩ = R) :
    ∀ (n : Nat) (p : List UInt8 × Nat) (acc : List Ins) (v : Nat), p.1.length ≤ 900000 → acc.length + n ≤ N → readsF n p acc = T →
    denK ctx 31 (.loop (Code.at (codeOf Tryd.f31) [1, 1, 1, 1, 1, 0, 1, 0, 0]))
      ⟨74, gl0, [(2, true, .ptr 200 1 0), (6, true, .ptr 1100 1 0), (7, true, .ptr 450 1 0), (8, true, .d (.int .i64 n))], [⟨200, 1, c2⟩, ⟨450, 1, .box [.vec 451 v 0 acc.length, .d (.int .i64 vars), .d (.int .i64 cells)]⟩, ⟨451, v, .vec 5 (acc.map insD)⟩, ⟨1100, 1, rdBox p.1 p.2⟩]⟩ k = R
  | 0, p, acc, v, hp, ha, ht => by
    have ht : (acc, p) = T := ht
    subst ht
    have hR := hR v
    simp at hR
    rw [denK_loop]
    simp [Tryd.f31, hR]
  | n + 1, p, acc, v, hp, ha, ht => by
    unfold readsF at ht
    obtain ⟨l, e⟩ := p
    simp only at ht hp
    have hpos : (0 : Int) < (n : Int) + 1 := by omega
    have w1 : IntKind.i64.wrap ((n : Int)) = (n : Int) := wrap_id (by unfold I64; omega)
    by_cases he : e = 0
    · subst he
      rw [if_pos rfl] at ht
      have hi := ins_run (l, 0) hp
      have hil := insF_len (l, 0)
      generalize insF (l, 0) = I at *
      obtain ⟨x, q, e2⟩ := I
      simp only at ht hi hil
      have ih := fun v => reads_loop c2 vars cells k R T N hN hR n (q, e2) (acc ++ [x]) v (by simp only; omega) (by simp; omega) ht
      have g1 : (acc.length + 1) * 40 ≤ 140737488355328 ∧ acc.length ≤ 4611686018427387903 := by omega
      simp at hi
      simp [Tryd.f31] at ih
      rw [denK_loop]
      simp [Tryd.f31]
      simp [hpos, w1, hi, g1, drwK_end, ih]
      done
    · rw [if_neg he] at ht
      subst ht
      have hR := fun v n => hR v n [(39, true, .d (.bool false))]
      simp at hR
      rw [denK_loop]
      simp [Tryd.f31]
      simp [hpos, he, hR]
      done
end Go.Am
end
section
namespace Go.Am
set_option maxRecDepth 10000
def lowB (x : UInt8) : W16 := BitVec.ofNat 16 x.toNat
theorem low_steps (x : UInt8) : cstepN 8 (lowB x) = topB x := by
  have h : ∀ i : Fin 256, cstepN 8 (BitVec.ofNat 16 i.val) = BitVec.ofNat 16 (i.val * 256) := by decide +kernel
  exact h ⟨x.toNat, x.toNat_lt⟩
theorem word_xor (x y : UInt8) : topB x ^^^ lowB y = BitVec.ofNat 16 (x.toNat * 256 + y.toNat) := by
  have hx := x.toNat_lt
  have hy := y.toNat_lt
  apply BitVec.eq_of_toNat_eq
  unfold topB lowB
  rw [BitVec.toNat_xor, BitVec.toNat_ofNat, BitVec.toNat_ofNat, BitVec.toNat_ofNat, Nat.mod_eq_of_lt (show x.toNat * 256 < 2 ^ 16 by omega), Nat.mod_eq_of_lt (show y.toNat < 2 ^ 16 by omega), Nat.mod_eq_of_lt (show x.toNat * 256 + y.toNat < 2 ^ 16 by omega)]
  have h := Nat.shiftLeft_add_eq_or_of_lt (show y.toNat < 2 ^ 8 by omega) x.toNat
  rw [Nat.shiftLeft_eq] at h
  have e : x.toNat * 256 = x.toNat * 2 ^ 8 := by omega
  rw [e, h]
  have hd : x.toNat * 2 ^ 8 &&& y.toNat = 0 := by
    apply Nat.eq_of_testBit_eq
    intro i
    rw [Nat.testBit_and, Nat.testBit_mul_two_pow]
    by_cases hi : 8 ≤ i
    · have : y.toNat.testBit i = false := Nat.testBit_lt_two_pow (Nat.lt_of_lt_of_le hy (by
        have : (2 : Nat) ^ 8 ≤ 2 ^ i := Nat.pow_le_pow_right (by omega) hi
        omega))
      simp [this]
    · simp [hi]
  apply Nat.eq_of_testBit_eq
  intro i
  have hi := congrArg (·.testBit i) hd
  simp only [Nat.testBit_and, Nat.zero_testBit] at hi
  rw [Nat.testBit_xor, Nat.testBit_or]
  cases h1 : (x.toNat * 2 ^ 8).testBit i <;> cases h2 : y.toNat.testBit i <;> simp_all
theorem word_zero {x y : UInt8} (h : topB x ^^^ lowB y = 0#16) : x = 0 ∧ y = 0 := by
  rw [word_xor] at h
  have hx := x.toNat_lt
  have hy := y.toNat_lt
  have h2 := congrArg BitVec.toNat h
  rw [BitVec.toNat_ofNat, Nat.mod_eq_of_lt (by omega)] at h2
  simp at h2
  exact ⟨UInt8.toNat_inj.1 (by simp; omega), UInt8.toNat_inj.1 (by simp; omega)⟩
theorem topB_xor (c x : UInt8) : topB (c ^^^ x) = topB c ^^^ topB x := by
  apply BitVec.eq_of_getLsbD_eq
  intro i hi
  unfold topB
  rw [BitVec.getLsbD_xor, BitVec.getLsbD_ofNat, BitVec.getLsbD_ofNat, BitVec.getLsbD_ofNat]
  have e : ∀ n : Nat, n * 256 = n * 2 ^ 8 := fun n => by omega
  simp only [e, Nat.testBit_mul_two_pow, UInt8.toNat_xor, Nat.testBit_xor]
  by_cases h : 8 ≤ i <;> simp [h, hi]
theorem crcL_app (s : W16) (a b : List UInt8) : crcL s (a ++ b) = crcL (crcL s a) b := by unfold crcL; rw [List.foldl_append]
theorem xor_eq_zero {s t : W16} : s ^^^ t = 0#16 ↔ s = t := by
  constructor
  · intro h
    have : s ^^^ t ^^^ t = 0#16 ^^^ t := by rw [h]
    rw [BitVec.xor_assoc, BitVec.xor_self] at this
    simpa using this
  · rintro rfl; exact BitVec.xor_self
theorem crc_word (s : W16) (x y : UInt8) : crcL s [x, y] = 0#16 ↔ s.toNat = x.toNat * 256 + y.toNat := by
  have hx := x.toNat_lt
  have hy := y.toNat_lt
  have e : crcL s [x, y] = cstepN 8 (cstepN 8 (s ^^^ topB x ^^^ lowB y)) := by
    show cstepN 8 (cstepN 8 (s ^^^ topB x) ^^^ topB y) = _
    rw [← low_steps y, ← cstepN_xor]
  rw [e]
  have h1 : cstepN 8 (cstepN 8 (s ^^^ topB x ^^^ lowB y)) = 0#16 ↔ s = topB x ^^^ lowB y := by
    constructor
    · intro h
      have := cstepN_zero (cstepN_zero h)
      rw [BitVec.xor_assoc] at this
      exact xor_eq_zero.1 this
    · rintro rfl
      rw [BitVec.xor_assoc, xor_eq_zero.2 rfl, cstepN_of_zero, cstepN_of_zero]
  rw [h1, word_xor]
  constructor
  · rintro rfl
    rw [BitVec.toNat_ofNat, Nat.mod_eq_of_lt (by omega)]
  · intro h
    apply BitVec.eq_of_toNat_eq
    rw [h, BitVec.toNat_ofNat, Nat.mod_eq_of_lt (by omega)]
theorem crc_spoilt (s0 : W16) (p r : List UInt8) (c d x y : UInt8) (hxy : ¬ (x = 0 ∧ y = 0)) : crcL s0 (p ++ (c ^^^ x) :: (d ^^^ y) :: r) ≠ crcL s0 (p ++ c :: d :: r) := by
  rw [crcL_app, crcL_app]
  generalize crcL s0 p = s
  show crcL (crcB (crcB s (c ^^^ x)) (d ^^^ y)) r ≠ crcL (crcB (crcB s c) d) r
  refine crcL_ne (fun h => hxy ?_) r
  have h1 := crcB_xor (crcB s (c ^^^ x)) (crcB s c) (d ^^^ y) d
  rw [h, BitVec.xor_self, crcB_xor, BitVec.xor_self, topB_xor, topB_xor] at h1
  have e1 : topB c ^^^ topB x ^^^ topB c = topB x := by rw [BitVec.xor_comm, ← BitVec.xor_assoc, BitVec.xor_self]; simp
  have e2 : topB d ^^^ topB y ^^^ topB d = topB y := by rw [BitVec.xor_comm, ← BitVec.xor_assoc, BitVec.xor_self]; simp
  rw [e1, e2] at h1
  simp only [BitVec.zero_xor] at h1
  have h2 := cstepN_zero h1.symm
  rw [← low_steps y, ← cstepN_xor] at h2
  exact word_zero (cstepN_zero h2)
end Go.Am
end
section
namespace Go.Am
open Go Go.Proofs
variable [Inhabited Mx2]
set_option maxRecDepth 20000
theorem bsame_loop (a b : List UInt8) (ha : a.length ≤ 1000000) (hl : a.length = b.length) (k : Kt) (R1 R2 : Ans)
    (h1 : k .ret ⟨26, gl0, [(4, true, .d (.bool false))], []⟩ = R1) (h2 : ∀ Y : Env, k (.exit 0) ⟨26, gl0, Y, []⟩ = R2) : ∀ (ra rb : List UInt8) (i : Nat), a.drop i = ra → b.drop i = rb → i + ra.length = a.length →
    denK ctx 30 (.loop (Code.at (codeOf Tryd.f30) [1, 1, 0, 1, 0, 0])) ⟨26, gl0, [(0, true, .d (.list (a.map byteD))), (1, true, .d (.list (b.map byteD))), (5, true, .d (.int .i64 i))], []⟩ k = if ra = rb then R2 else R1
  | [], rb, i, hra, hrb, hi => by
    have hi : i = a.length := by simpa using hi
    subst hi
    have : rb = [] := by rw [← hrb, hl]; simp
    subst this
    rw [denK_loop]
    simp [Tryd.f30, h2]
  | x :: ra, rb, i, hra, hrb, hi => by
    have hlt : i < a.length := by simp at hi; omega
    have hltI : (i : Int) < a.length := by omega
    have hlt2 : i < b.length := by omega
    have hx : a[i] = x := by
      have := congrArg (·[0]?) hra
      simp at this
      simpa [hlt] using this
    obtain ⟨y, hy⟩ : ∃ y, y = b[i] := ⟨_, rfl⟩
    have hrb2 : rb = y :: b.drop (i + 1) := by rw [← hrb, hy]; exact List.drop_eq_getElem_cons hlt2
    have ih := bsame_loop a b ha hl k R1 R2 h1 h2 ra (b.drop (i + 1)) (i + 1) (by rw [← List.tail_drop, hra]; rfl) rfl (by simp at hi; omega)
    have w1 : IntKind.i64.wrap ((i : Int) + 1) = (i : Int) + 1 := wrap_id (by unfold I64; omega)
    rw [hrb2, denK_loop]
    simp [Tryd.f30] at ih
    simp [Tryd.f30]
    by_cases hxy : x = y
    · subst hxy
      simp [hlt, hltI, hlt2, hx, ← hy, w1, ih, drwK_end]
    · have hne : ¬ ((x.toNat : Int) = y.toNat) := fun h => hxy (UInt8.toNat_inj.1 (by omega))
      simp [hlt, hltI, hlt2, hx, ← hy, hne, hxy, h1, drwK_end]
theorem bsame_run (a b : List UInt8) (ha : a.length ≤ 1000000) : callT ctx 30 [.d (.list (a.map byteD)), .d (.list (b.map byteD))] [] = some (.ret (.d (.bool (decide (a = b)))), []) := by
  rw [run30 (by simp)]
  by_cases hl : a.length = b.length
  · have h := fun k R1 R2 h1 h2 => bsame_loop a b ha hl k R1 R2 h1 h2 a b 0 rfl rfl (by simp)
    simp [Tryd.f30] at h
    simp [Tryd.f30, hl]
    rw [h _ (some (.ret (.d (.bool false)), [])) (some (.ret (.d (.bool true)), [])) (by simp) (by simp)]
    by_cases e : a = b <;> simp [e]
  · have hI : ¬ ((a.length : Int) = b.length) := by omega
    have hne : a ≠ b := fun h => hl (by rw [h])
    simp [Tryd.f30, hI, hne, hl]
end Go.Am
end
section
namespace Go.Am
open Go Go.Proofs
variable [Inhabited Mx2]
set_option maxRecDepth 20000
theorem awake31_run : callT ctx 27 [] [] = some (.ret (.d (.bool true)), []) := callT_of 60 (by kernel_rfl)
theorem putP_len (ins : List Ins) (vars cells : Int) : (putP ins vars cells).1.length ≤ 12 + 21 * ins.length := by
  have h1 := bodyB_len ins vars cells
  unfold putP
  split
  · simp [sumB, bigB_len]; omega
  · simp
theorem imagePuts_run (ins : List Ins) (vars cells : Int) (hw : ∀ x ∈ ins, WfIns x) : callT ctx 10 [.d (codeD ins vars cells)] [] = some (.ret (.d (.bool true)), []) := by
  rw [run10 (by simp)]
  by_cases h1 : ins.length ≤ 300
  · have hp := imgPut_run ins vars cells (by omega)
    have hq := rput_run ins vars cells (by omega) hw
    have hl := putP_len ins vars cells
    have hs := bsame_run (putP ins vars cells).1 (putP ins vars cells).1 (by omega)
    have h1' : ¬ ((300 : Int) < ins.length) := by omega
    generalize putP ins vars cells = P at *
    obtain ⟨B, e⟩ := P
    simp at hp hq hs
    simp [Tryd.f10, drwK_end, awake31_run, h1', hp, hq, hs]
  · have h1' : (300 : Int) < ins.length := by omega
    simp [Tryd.f10, drwK_end, awake31_run, h1']
end Go.Am
end
section
namespace Go.Am
open Go Go.Proofs
variable [Inhabited Mx2]
set_option maxRecDepth 20000
theorem sumB_zero (b : List UInt8) : crcL 65535#16 (sumB b) = 0#16 := by
  have hs := (crcL 65535#16 b).isLt
  unfold sumB
  rw [crcL_app]
  generalize crcL 65535#16 b = s at *
  show crcL s [UInt8.ofNat (s.toNat / 2 ^ (8 * 1)), UInt8.ofNat (s.toNat / 2 ^ (8 * 0))] = 0#16
  rw [crc_word]
  simp
  omega
theorem open_sum {b : List UInt8} (hl : b.length ≤ 131072) (h2 : 2 ≤ b.length) (h : crcL 65535#16 b ≠ 0#16) : openF b = ([], 6) := by
  unfold openF
  rw [if_neg (by omega), if_pos]
  right
  intro he
  obtain ⟨t, x, y, rfl⟩ := split2 b h2
  apply h
  rw [crcL_app, crc_word]
  have e1 : (t ++ [x, y]).length - 2 = t.length := by simp
  have e2 : (t ++ [x, y]).length - 1 = t.length + 1 := by simp
  unfold lastN at he
  rw [e1, e2] at he
  simpa using he
theorem spoilt_open (B : List UInt8) (hB : crcL 65535#16 B = 0#16) (hl : B.length ≤ 131072) (i : Nat) (hi : i + 1 < B.length) (c d x y : UInt8) (hc : B[i]? = some c) (hd : B[i + 1]? = some d) (hxy : ¬ (x = 0 ∧ y = 0)) :
    openF ((B.set i (c ^^^ x)).set (i + 1) (d ^^^ y)) = ([], 6) := by
  refine open_sum (by simpa using hl) (by simp; omega) ?_
  have e1 : B = B.take i ++ c :: d :: B.drop (i + 2) := by
    have h1 : B.drop i = c :: d :: B.drop (i + 2) := by
      rw [List.drop_eq_getElem_cons (by omega), List.drop_eq_getElem_cons hi]
      rw [List.getElem?_eq_getElem (by omega)] at hc hd
      rw [Option.some.inj hc, Option.some.inj hd]
    rw [← h1, List.take_append_drop]
  have hti : (B.take i).length = i := by simp; omega
  have e2 : (B.set i (c ^^^ x)).set (i + 1) (d ^^^ y) = B.take i ++ (c ^^^ x) :: (d ^^^ y) :: B.drop (i + 2) := by
    conv => lhs; rw [e1]
    rw [List.set_append_right _ _ (by omega), hti, Nat.sub_self, List.set_cons_zero, List.set_append_right _ _ (by omega), hti, show i + 1 - i = 1 by omega, List.set_cons_succ, List.set_cons_zero]
  rw [e2]
  have := crc_spoilt 65535#16 (B.take i) (B.drop (i + 2)) c d x y hxy
  rw [← e1, hB] at this
  exact this
theorem read_err (b : List UInt8) (hl : b.length ≤ 900000) (e : Nat) (he : e ≠ 0) (h : openF b = ([], e)) : callT ctx 31 [.d (.list (b.map byteD))] [] = some (.ret (.tup [.d (codeD [] 0 0), .d (.int .i64 e)]), []) := by
  have ho := opened_run b hl
  rw [h] at ho
  have heI : ¬ ((e : Int) = 0) := by omega
  rw [run31 (by simp)]
  simp at ho
  simp [Tryd.f31, drwK_end, ho, he, heI]
theorem xor8 (c x : UInt8) : IntKind.u8.wrap (((c.toNat % 256) ^^^ (x.toNat % 256) : Nat) : Int) = ((c ^^^ x).toNat : Int) := by
  rw [Nat.mod_eq_of_lt c.toNat_lt, Nat.mod_eq_of_lt x.toNat_lt, ← UInt8.toNat_xor]
  generalize c ^^^ x = z
  have := z.toNat_lt
  simp [IntKind.wrap, IntKind.bits, IntKind.signed]; omega
set_option maxHeartbeats 1000000 in
theorem imageSpoilt_run (ins : List Ins) (vars cells at_ : Int) (x y : UInt8) : callT ctx 12 [.d (codeD ins vars cells), .d (.int .i64 at_), .d (.int .u8 x.toNat), .d (.int .u8 y.toNat)] [] = some (.ret (.d (.bool true)), []) := by
  rw [run12 (by simp)]
  by_cases h1 : ins.length ≤ 300
  rotate_left
  · have h1' : (300 : Int) < ins.length := by omega
    simp [Tryd.f12, drwK_end, awake31_run, h1']
  have h1' : ¬ ((300 : Int) < ins.length) := by omega
  by_cases hxy : x = 0 ∧ y = 0
  · obtain ⟨rfl, rfl⟩ := hxy
    simp [Tryd.f12, drwK_end, awake31_run, h1']
  have hxyI : (x.toNat : Int) = 0 → ¬ ((y.toNat : Int) = 0) := fun h h2 => hxy ⟨UInt8.toNat_inj.1 (by simp; omega), UInt8.toNat_inj.1 (by simp; omega)⟩
  have hp := imgPut_run ins vars cells (by omega)
  have hl := putP_len ins vars cells
  have hz : (putP ins vars cells).2 = 0 → crcL 65535#16 (putP ins vars cells).1 = 0#16 := by
    unfold putP
    split
    · intro _; exact sumB_zero _
    · intro h; simp at h
  generalize putP ins vars cells = P at *
  obtain ⟨B, e⟩ := P
  simp only at hp hl hz
  by_cases he : e = 0
  rotate_left
  · have heI : ¬ ((e : Int) = 0) := by omega
    simp at hp
    simp [Tryd.f12, drwK_end, awake31_run, h1', hp, he, heI]
    done
  subst he
  have hB := hz rfl
  have wl : IntKind.i64.wrap ((B.length : Int) - 1) = (B.length : Int) - 1 := wrap_id (by unfold I64; omega)
  by_cases hat : at_ < 0 ∨ (B.length : Int) - 1 ≤ at_
  · simp at hp
    have hat2 : ¬ (at_ < 0) → (B.length : Int) - 1 ≤ at_ := fun h => by omega
    by_cases hx0 : x.toNat = 0
    · have hy0 : ¬ y.toNat = 0 := fun h => hxyI (by omega) (by omega)
      simp [Tryd.f12, drwK_end, awake31_run, h1', hp, hx0, hy0, wl, hat]
    · simp [Tryd.f12, drwK_end, awake31_run, h1', hp, hx0, wl, hat]
  obtain ⟨i, hi⟩ : ∃ i : Nat, at_ = i := ⟨at_.toNat, by omega⟩
  subst hi
  have hiB : i + 1 < B.length := by omega
  have hiB0 : i < B.length := by omega
  have hiI : (i : Int) < B.length := by omega
  have hiI1 : (i : Int) + 1 < B.length := by omega
  have w1 : IntKind.i64.wrap ((i : Int) + 1) = (i : Int) + 1 := wrap_id (by unfold I64; omega)
  have hn1 : ((i : Int) + 1).toNat = i + 1 := by omega
  have hn0 : (0 : Int) ≤ (i : Int) + 1 := by omega
  have hnl : ¬ ((B.length : Int) - 1 ≤ i) := by omega
  obtain ⟨c, hc⟩ : ∃ c, c = B[i] := ⟨_, rfl⟩
  obtain ⟨d, hd⟩ : ∃ d, d = B[i + 1] := ⟨_, rfl⟩
  have hsp := spoilt_open B hB (by omega) i hiB c d x y (by rw [hc]; simp) (by rw [hd]; simp) hxy
  have hrd := read_err _ (by simp; omega) 6 (by omega) hsp
  have hset : ((B.map byteD).set i (.int .u8 ((c ^^^ x).toNat : Int))).set (i + 1) (.int .u8 ((d ^^^ y).toNat : Int)) = ((B.set i (c ^^^ x)).set (i + 1) (d ^^^ y)).map byteD := by
    rw [List.map_set, List.map_set]; rfl
  rw [← hset] at hrd
  have x1 := xor8 c x
  have x2 := xor8 d y
  rw [Nat.mod_eq_of_lt c.toNat_lt, Nat.mod_eq_of_lt x.toNat_lt] at x1
  rw [Nat.mod_eq_of_lt d.toNat_lt, Nat.mod_eq_of_lt y.toNat_lt] at x2
  have hb8 : IntKind.bits .u8 = 8 := rfl
  have m1 : c.toNat % 256 = c.toNat := Nat.mod_eq_of_lt c.toNat_lt
  have m2 : d.toNat % 256 = d.toNat := Nat.mod_eq_of_lt d.toNat_lt
  have m3 : x.toNat % 256 = x.toNat := Nat.mod_eq_of_lt x.toNat_lt
  have m4 : y.toNat % 256 = y.toNat := Nat.mod_eq_of_lt y.toNat_lt
  generalize (c ^^^ x).toNat = cx at *
  generalize (d ^^^ y).toNat = dy at *
  simp at hp hrd
  by_cases hx0 : x.toNat = 0
  · have hy0 : ¬ y.toNat = 0 := fun h => hxyI (by omega) (by omega)
    rw [hx0, Nat.xor_zero] at x1
    simp [Tryd.f12, drwK_end, awake31_run, h1', hp, hx0, hy0, wl, hnl, hiB, hiB0, hiI, hiI1, ← hc, ← hd, w1, hn1, hn0, hb8, m1, m2, m3, m4, x1, x2, hrd]
  · simp [Tryd.f12, drwK_end, awake31_run, h1', hp, hx0, wl, hnl, hiB, hiB0, hiI, hiI1, ← hc, ← hd, w1, hn1, hn0, hb8, m1, m2, m3, m4, x1, x2, hrd]
end Go.Am
end
section
namespace Go.Am
open Go Go.Proofs
variable [Inhabited Mx2]
set_option maxRecDepth 20000
theorem takeF_ok {s : Nat} {p : List UInt8 × Nat} (h : (takeF s p).2.2 = 0) : p.2 = 0 ∧ (takeF s p).2.1.length + s = p.1.length := by
  unfold takeF at h ⊢
  by_cases h1 : p.2 = 0
  · rw [if_pos h1] at h ⊢
    by_cases h2 : p.1.length < s
    · rw [if_pos h2] at h; simp at h
    · rw [if_neg h2]; exact ⟨h1, by simp; omega⟩
  · rw [if_neg h1] at h; exact absurd h h1
theorem condT_ok {b : Bool} {s : Nat} {p : List UInt8 × Nat} (h : (condT b s p).2.2 = 0) : p.2 = 0 ∧ (condT b s p).2.1.length ≤ p.1.length := by
  refine ⟨?_, condT_len b s p⟩
  unfold condT at h
  split at h
  · exact (takeF_ok h).1
  · exact h
theorem insF_ok {p : List UInt8 × Nat} (h : (insF p).2.2 = 0) : (insF p).2.1.length + 1 ≤ p.1.length := by
  unfold insF at h ⊢
  simp only at h ⊢
  have h4 := condT_ok h
  have h3 := condT_ok h4.1
  have h2 := condT_ok h3.1
  have h1 := condT_ok h2.1
  have hk : ∀ (q : List UInt8 × Nat) (op : Int), (kindP q op).2 = 0 → q.2 = 0 ∧ (kindP q op).1 = q.1 := by
    intro q op hq
    unfold kindP at hq ⊢
    split at hq
    · simp at hq
    · rename_i hc; rw [if_neg hc]; exact ⟨hq, rfl⟩
  have h0 := hk _ _ h1.1
  have ht := takeF_ok h0.1
  have h1' := h1.2
  rw [h0.2] at h1'
  omega
theorem readsF_ok : ∀ (n : Nat) (p : List UInt8 × Nat) (acc : List Ins), (readsF n p acc).2.2 = 0 → p.2 = 0 ∧ (readsF n p acc).1.length + (readsF n p acc).2.1.length ≤ acc.length + p.1.length
  | 0, p, acc, h => ⟨h, Nat.le_refl _⟩
  | n + 1, p, acc, h => by
    unfold readsF at h ⊢
    by_cases he : p.2 = 0
    · rw [if_pos he] at h ⊢
      obtain ⟨h1, h2⟩ := readsF_ok n _ _ h
      have h3 := insF_ok h1
      refine ⟨he, ?_⟩
      simp only [List.length_append, List.length_singleton] at h2
      omega
    · rw [if_neg he] at h; exact absurd h he
def readP (b : List UInt8) : List Ins × Int × Int × Nat :=
  if (openF b).2 ≠ 0 then ([], 0, 0, (openF b).2) else
  let t1 := takeF 2 ((openF b).1, 0)
  let t2 := takeF 2 t1.2
  let t3 := takeF 2 t2.2
  let r := readsF t3.1 t3.2 []
  if r.2.2 ≠ 0 then ([], 0, 0, r.2.2) else if r.2.1 ≠ [] then ([], 0, 0, 5) else if okCode pinsN r.1 (i64N t1.1) (i64N t2.1) = false then ([], 0, 0, 1) else (r.1, i64N t1.1, i64N t2.1, 0)
theorem openF_len (b : List UInt8) : (openF b).1.length ≤ b.length := by
  unfold openF
  split
  · simp
  · split
    · simp
    · split
      · simp
      · simp; omega
theorem openF_err {b : List UInt8} (h : (openF b).2 ≠ 0) : openF b = ([], (openF b).2) := by
  unfold openF at h ⊢
  split
  · rfl
  · rename_i h1
    rw [if_neg h1] at h
    split
    · rfl
    · rename_i h2
      rw [if_neg h2] at h
      split
      · rfl
      · rename_i h3; rw [if_neg h3] at h; simp at h
set_option maxHeartbeats 1000000 in
theorem read_run (b : List UInt8) (hl : b.length ≤ 4000) : callT ctx 31 [.d (.list (b.map byteD))] [] = some (.ret (.tup [.d (codeD (readP b).1 (readP b).2.1 (readP b).2.2.1), .d (.int .i64 (readP b).2.2.2)]), []) := by
  unfold readP
  by_cases h0 : (openF b).2 = 0
  rotate_left
  · rw [if_pos h0]
    exact read_err b (by omega) _ h0 (openF_err h0)
  rw [if_neg (fun h => h h0)]
  simp only
  have ho := opened_run b (by omega)
  have hol := openF_len b
  rw [h0] at ho
  generalize (openF b).1 = l at *
  have k1 := rtake_run (l, 0) 2 (by omega) (by simp only; omega)
  have j1 := takeF_len 2 (l, 0)
  have b1 := takeF_lt 2 (l, 0) (by omega)
  generalize takeF 2 (l, 0) = t1 at *
  obtain ⟨n1, l1, e1⟩ := t1
  simp only at k1 j1 b1 ⊢
  have k2 := rtake_run (l1, e1) 2 (by omega) (by simp only; omega)
  have j2 := takeF_len 2 (l1, e1)
  generalize takeF 2 (l1, e1) = t2 at *
  obtain ⟨n2, l2, e2⟩ := t2
  simp only at k2 j2 ⊢
  have k3 := rtake_run (l2, e2) 2 (by omega) (by simp only; omega)
  have j3 := takeF_len 2 (l2, e2)
  have b3 : (takeF 2 (l2, e2)).1 < 65536 := by
    unfold takeF
    split
    · split
      · simp
      · have h := bigN_lt (l2.take 2)
        have h2 : (256 : Nat) ^ (l2.take 2).length ≤ 256 ^ 2 := Nat.pow_le_pow_right (by omega) (by simp; omega)
        have e : (256 : Nat) ^ 2 = 65536 := by decide
        simp only
        omega
    · simp
  generalize takeF 2 (l2, e2) = t3 at *
  obtain ⟨n3, l3, e3⟩ := t3
  simp only at k3 j3 b3 ⊢
  have hrl := fun k R hR v => reads_loop (.box [.lit (.slice none 0 0), .d (.int .i64 0), .d (.int .i64 0)]) (i64N n1) (i64N n2) k R (readsF n3 (l3, e3) []) n3 (by omega) hR n3 (l3, e3) [] v (by simp only; omega) (by simp) rfl
  have hok := readsF_ok n3 (l3, e3) []
  generalize readsF n3 (l3, e3) [] = T at *
  obtain ⟨ins, l4, e4⟩ := T
  simp only at hrl hok ⊢
  have x1 : IntKind.i64.wrap (n1 : Int) = i64N n1 := rfl
  have x2 : IntKind.i64.wrap (n2 : Int) = i64N n2 := rfl
  have x3 : IntKind.i64.wrap (n3 : Int) = (n3 : Int) := wrap_id (by unfold I64; omega)
  simp at ho k1 k2 k3
  simp [Tryd.f31] at hrl
  rw [run31 (by simp)]
  by_cases he : e4 = 0
  rotate_left
  · have heI : ¬ ((e4 : Int) = 0) := by omega
    simp [Tryd.f31, drwK_end, ho, k1, k2, k3, x1, x2, x3, he]
    refine hrl _ _ (fun v n X => ?_) _
    simp [drwK_end, he, heI]
    done
  subst he
  have hok := (hok rfl).2
  simp only [List.length_nil] at hok
  have hc := checkCode_run pinsN pins_ok ins (i64N n1) (i64N n2) (by omega)
  by_cases hr : l4 = []
  rotate_left
  · have hrl2 : 0 < l4.length := List.length_pos_iff.2 hr
    simp [Tryd.f31, drwK_end, ho, k1, k2, k3, x1, x2, x3, hr]
    refine hrl _ _ (fun v n X => ?_) _
    simp [drwK_end, hrl2]
    done
  subst hr
  cases hq : okCode pinsN ins (i64N n1) (i64N n2) with
  | false =>
    rw [hq] at hc
    simp at hc
    simp [Tryd.f31, drwK_end, ho, k1, k2, k3, x1, x2, x3]
    refine hrl _ _ (fun v n X => ?_) _
    simp [drwK_end, hc]
    done
  | true =>
    rw [hq] at hc
    simp at hc
    simp [Tryd.f31, drwK_end, ho, k1, k2, k3, x1, x2, x3]
    refine hrl _ _ (fun v n X => ?_) _
    simp [drwK_end, hc]
    done
end Go.Am
end
section
namespace Go.Am
open Go Go.Proofs
variable [Inhabited Mx2]
set_option maxRecDepth 20000
@[simp] def u64n (n : Nat) : D := .int .u64 n
theorem mul64 (n : Nat) (x : UInt8) (hn : n < 72057594037927936) : IntKind.u64.wrap (IntKind.u64.wrap ((n : Int) * 256) + (x.toNat : Int)) = ((n * 256 + x.toNat : Nat) : Int) := by
  have hx := x.toNat_lt
  have e1 : IntKind.u64.wrap ((n : Int) * 256) = ((n * 256 : Nat) : Int) := by simp [IntKind.wrap, IntKind.bits, IntKind.signed]; omega
  rw [e1]
  simp [IntKind.wrap, IntKind.bits, IntKind.signed]; omega
set_option maxHeartbeats 1000000 in
theorem rbyte_loop (b : List UInt8) (hb : b.length ≤ 900000) (kk : Nat) (hk : kk < 4) (base : List Nat) (hbase : base.length = 4) (sz a0 : Nat) (hsz : sz ≤ 8) (ha : a0 + sz ≤ b.length) (n8 : AV) (A2 A4 A6 A7 A11 : AV) (E1 E2 E3 E4 : Ent) (h1 : E1.key = 200) (h2 : E2.key = 450) (h3 : E3.key = 451) (h4 : E4.key = 650) (v : Nat) (k : Kt) (R : Ans)
    (hR : k (.exit 7) ⟨182, gl0, [(0, true, .d (.list (b.map byteD))), (2, true, A2), (4, true, A4), (5, true, .d (.int .i64 (a0 + sz : Nat))), (6, true, A6), (7, true, A7), (8, true, n8), (11, true, A11), (12, true, .eptr 700 v 0 0), (13, true, .d (.int .i64 kk)), (14, true, .d (.int .i64 sz)), (15, true, .d (.int .i64 sz)), (132, true, .d (.bool false))], [E1, E2, E3, E4, ⟨700, v, .vec 1 ((base.set kk (bigN ((b.drop a0).take sz))).map u64n)⟩]⟩ = R) :
    ∀ (r : List UInt8) (j n : Nat), ((b.drop a0).take sz).drop j = r → j + r.length = sz → n < 256 ^ j → r.foldl (fun n x => n * 256 + x.toNat) n = bigN ((b.drop a0).take sz) →
    denK ctx 32 (.loop (Code.at (codeOf Tryd.f32) [1, 1, 1, 1, 1, 1, 1, 1, 1, 1, 0, 0, 0, 1, 0, 0, 1, 1, 1, 1, 1, 0, 1, 0, 0, 1, 0, 0, 1, 1, 1, 0, 0]))
      ⟨182, gl0, [(0, true, .d (.list (b.map byteD))), (2, true, A2), (4, true, A4), (5, true, .d (.int .i64 (a0 + j : Nat))), (6, true, A6), (7, true, A7), (8, true, n8), (11, true, A11), (12, true, .eptr 700 v 0 0), (13, true, .d (.int .i64 kk)), (14, true, .d (.int .i64 sz)), (15, true, .d (.int .i64 j))], [E1, E2, E3, E4, ⟨700, v, .vec 1 ((base.set kk n).map u64n)⟩]⟩ k = R
  | [], j, n, hd, hj, hn, hf => by
    have hj : j = sz := by simpa using hj
    subst hj
    simp only [List.foldl_nil] at hf
    subst hf
    rw [denK_loop]
    simp [Tryd.f32]
    simp at hR
    simp [hR]
  | x :: r, j, n, hd, hj, hn, hf => by
    have hlt : j < sz := by simp at hj; omega
    have hltI : (j : Int) < sz := by omega
    have hx : b[a0 + j]? = some x := by
      have := congrArg (·[0]?) hd
      simp [List.getElem?_drop, List.getElem?_take] at this
      exact this.2
    have hab : a0 + j < b.length := by omega
    have habI : (a0 : Int) + j < b.length := by omega
    have hx2 : ∀ h, b[a0 + j]'h = x := fun h => by rw [List.getElem?_eq_getElem h] at hx; exact Option.some.inj hx
    have hxl := x.toNat_lt
    have w1 : IntKind.i64.wrap ((j : Int) + 1) = (j : Int) + 1 := wrap_id (by unfold I64; omega)
    have w2 : IntKind.i64.wrap ((a0 : Int) + j + 1) = (a0 : Int) + j + 1 := wrap_id (by unfold I64; omega)
    have hn7 : n < 72057594037927936 := by
      have : 256 ^ j ≤ 256 ^ 7 := Nat.pow_le_pow_right (by omega) (by omega)
      have e : (256 : Nat) ^ 7 = 72057594037927936 := by decide
      omega
    have hnext : n * 256 + x.toNat < 256 ^ (j + 1) := by
      rw [Nat.pow_succ]
      have : (n + 1) * 256 ≤ 256 ^ j * 256 := Nat.mul_le_mul_right _ hn
      omega
    have ih := rbyte_loop b hb kk hk base hbase sz a0 hsz ha n8 A2 A4 A6 A7 A11 E1 E2 E3 E4 h1 h2 h3 h4 v k R hR r (j + 1) (n * 256 + x.toNat) (by rw [← List.tail_drop, hd]; rfl) (by simp at hj; omega) hnext hf
    have hmul := mul64 n x hn7
    have e5 : IntKind.u64.wrap (x.toNat : Int) = (x.toNat : Int) := by simp [IntKind.wrap, IntKind.bits, IntKind.signed]; omega
    have hset : ((base.set kk n).map u64n).set kk (.int .u64 ((n * 256 + x.toNat : Nat) : Int)) = (base.set kk (n * 256 + x.toNat)).map u64n := by
      rw [show (.int .u64 ((n * 256 + x.toNat : Nat) : Int) : D) = u64n (n * 256 + x.toNat) from rfl, ← List.map_set, List.set_set]
    have hget : ((base.set kk n).map u64n)[kk]? = some (u64n n) := by simp [hbase, hk]
    have hget2 : ∀ h, ((base.set kk n).map u64n)[kk]'h = u64n n := fun h => by rw [List.getElem?_eq_getElem h] at hget; exact Option.some.inj hget
    have hlen : ((base.set kk n).map u64n).length = 4 := by simp [hbase]
    rw [← hset] at ih
    generalize (base.set kk n).map u64n = rows at *
    generalize hz : n * 256 + x.toNat = z at *
    obtain ⟨k1, v1, c1⟩ := E1
    obtain ⟨k2, v2, c2⟩ := E2
    obtain ⟨k3, v3, c3⟩ := E3
    obtain ⟨k4, v4, c4⟩ := E4
    simp only at h1 h2 h3 h4
    subst h1; subst h2; subst h3; subst h4
    have i1 : (a0 : Int) + j + 1 = (a0 : Int) + (j + 1) := by omega
    rw [i1] at w2
    have hcast : ((a0 : Int) + (j : Int)).toNat = a0 + j := by omega
    have hnn : (0 : Int) ≤ (a0 : Int) + j := by omega
    simp [Tryd.f32] at ih
    rw [denK_loop]
    simp [Tryd.f32]
    simp [hlt, hltI, hab, habI, hnn, hcast, hx, hx2, hget, hget2, hlen, hk, e5, hmul, w1, i1, w2, drwK_end, ih]
    done
end Go.Am
end
section
namespace Go.Am
open Go Go.Proofs
variable [Inhabited Mx2]
set_option maxRecDepth 20000
def partsG (op : Nat) : Nat → Nat → List UInt8 → Option (List Nat × List UInt8)
  | _, 0, l => some ([], l)
  | k, m + 1, l => if l.length < szN op k then none else (partsG op (k + 1) m (l.drop (szN op k))).map (fun q => (bigN (l.take (szN op k)) :: q.1, q.2))
theorem partsG_len (op : Nat) : ∀ (m k : Nat) (l : List UInt8) (q : List Nat × List UInt8), partsG op k m l = some q → q.1.length = m ∧ q.2.length ≤ l.length ∧ q.2 = l.drop (l.length - q.2.length)
  | 0, k, l, q, h => by simp [partsG] at h; subst h; simp
  | m + 1, k, l, q, h => by
    unfold partsG at h
    split at h
    · cases h
    · rename_i hl
      cases hp : partsG op (k + 1) m (l.drop (szN op k)) with
      | none => rw [hp] at h; simp at h
      | some p =>
        rw [hp] at h
        simp at h
        subst h
        obtain ⟨i1, i2, i3⟩ := partsG_len op m (k + 1) _ p hp
        simp only [List.length_drop] at i2 i3
        refine ⟨by simp [i1], by simp only; omega, ?_⟩
        simp only
        rw [List.drop_drop] at i3
        rw [i3]
        congr 1
        simp only [List.length_drop]
        omega
@[simp] def codeZ : Cont := .box [.lit (.slice none 0 0), .d (.int .i64 0), .d (.int .i64 0)]
set_option maxHeartbeats 2000000 in
theorem rparts_loop (b : List UInt8) (n : Nat) (hn : n ≤ b.length) (hb : b.length ≤ 900000) (op : Nat) (ho : op < 16) (A6 A7 A8 : AV) (E2 E3 : Ent) (h2 : E2.key = 450) (h3 : E3.key = 451) (v4 : Nat) (cs4 : List AV) (v : Nat) (k : Kt) (R : Ans) :
    ∀ (m kk a0 : Nat) (pre : List Nat), m + kk = 4 → pre.length = kk → a0 ≤ n →
    (match partsG op kk m ((b.take n).drop a0) with
      | none => ∀ e, k .ret ⟨182, gl0, [(2, true, .ptr 200 1 0), (3, true, .d (.int .i64 4))], [⟨200, 1, codeZ⟩, E2, E3, ⟨650, v4, .box (.d (.int .i64 op) :: cs4)⟩, e]⟩ = R
      | some q => ∀ X : Env, k (.exit 5) ⟨182, gl0, [(0, true, .d (.list (b.map byteD))), (2, true, .ptr 200 1 0), (4, true, .d (.int .i64 n)), (5, true, .d (.int .i64 (n - q.2.length : Nat))), (6, true, A6), (7, true, A7), (8, true, A8), (11, true, .ptr 650 v4 0), (12, true, .eptr 700 v 0 0), (13, true, .d (.int .i64 4))] ++ X, [⟨200, 1, codeZ⟩, E2, E3, ⟨650, v4, .box (.d (.int .i64 op) :: cs4)⟩, ⟨700, v, .vec 1 ((pre ++ q.1).map u64n)⟩]⟩ = R) →
    denK ctx 32 (.loop (Code.at (codeOf Tryd.f32) [1, 1, 1, 1, 1, 1, 1, 1, 1, 1, 0, 0, 0, 1, 0, 0, 1, 1, 1, 1, 1, 0, 1, 0, 0]))
      ⟨182, gl0, [(0, true, .d (.list (b.map byteD))), (2, true, .ptr 200 1 0), (4, true, .d (.int .i64 n)), (5, true, .d (.int .i64 a0)), (6, true, A6), (7, true, A7), (8, true, A8), (11, true, .ptr 650 v4 0), (12, true, .eptr 700 v 0 0), (13, true, .d (.int .i64 kk))], [⟨200, 1, codeZ⟩, E2, E3, ⟨650, v4, .box (.d (.int .i64 op) :: cs4)⟩, ⟨700, v, .vec 1 ((pre ++ List.replicate m 0).map u64n)⟩]⟩ k = R
  | 0, kk, a0, pre, hm, hp, ha, hR => by
    have hk4 : kk = 4 := by omega
    subst hk4
    simp only [partsG] at hR
    have e : n - ((b.take n).drop a0).length = a0 := by simp; omega
    rw [e] at hR
    have hR := hR [(115, true, .d (.bool false))]
    rw [denK_loop]
    simp only [List.replicate_zero]
    generalize (pre ++ ([] : List Nat)).map u64n = rows at *
    obtain ⟨k2, v2, c2⟩ := E2
    obtain ⟨k3, v3, c3⟩ := E3
    simp only at h2 h3
    subst h2; subst h3
    simp at hR
    simp [Tryd.f32, hR]
  | m + 1, kk, a0, pre, hm, hp, ha, hR => by
    have hk : kk < 4 := by omega
    have hkI : (kk : Int) < 4 := by omega
    have hsz := sz_at ho hk
    have hsr := sizes_run
    have hle := sz_le (op := op) (k := kk)
    have hl64 : (sizesL.map natD).length = 64 := rfl
    have o2 : 4 ≤ min 4 (64 - op * 4) := by omega
    have hlen : ((b.take n).drop a0).length = n - a0 := by simp; omega
    have w1 : IntKind.i64.wrap ((kk : Int) + 1) = (kk : Int) + 1 := wrap_id (by unfold I64; omega)
    unfold partsG at hR
    rw [hlen, List.drop_drop] at hR
    have ih := fun hR => rparts_loop b n hn hb op ho A6 A7 A8 E2 E3 h2 h3 v4 cs4 v k R m (kk + 1) (a0 + szN op kk) (pre ++ [bigN (((b.take n).drop a0).take (szN op kk))]) (by omega) (by simp [hp]) hR
    have hin := fun hle2 k R hR => rbyte_loop b hb kk hk (pre ++ List.replicate (m + 1) 0) (by simp; omega) (szN op kk) a0 hle hle2 A8 (.ptr 200 1 0) (.d (.int .i64 n)) A6 A7 (.ptr 650 v4 0) ⟨200, 1, codeZ⟩ E2 E3 ⟨650, v4, .box (.d (.int .i64 op) :: cs4)⟩ rfl h2 h3 rfl v k R hR ((b.drop a0).take (szN op kk)) 0 0 rfl (by simp; omega) (by simp) rfl
    have hset0 : (pre ++ List.replicate (m + 1) 0).set kk 0 = pre ++ List.replicate (m + 1) 0 := by
      rw [List.set_append_right _ _ (by omega), hp, Nat.sub_self, List.replicate_succ, List.set_cons_zero]
    have hset1 : ∀ z, (pre ++ List.replicate (m + 1) 0).set kk z = (pre ++ [z]) ++ List.replicate m 0 := fun z => by
      rw [List.set_append_right _ _ (by omega), hp, Nat.sub_self, List.replicate_succ, List.set_cons_zero]
      simp
    have htk : ∀ s, a0 + s ≤ n → ((b.take n).drop a0).take s = (b.drop a0).take s := fun s hs => by
      rw [List.drop_take, List.take_take]
      congr 1
      omega
    simp only [hset0, hset1] at hin
    generalize sizesL.map natD = SZ at *
    obtain ⟨sz, hszv⟩ : ∃ sz, sz = szN op kk := ⟨_, rfl⟩
    rw [← hszv] at hR ih hin hsz hle
    have w2 : IntKind.i64.wrap ((a0 : Int) + sz) = (a0 : Int) + sz := wrap_id (by unfold I64; omega)
    obtain ⟨k2, v2, c2⟩ := E2
    obtain ⟨k3, v3, c3⟩ := E3
    simp only at h2 h3
    subst h2; subst h3
    by_cases hov : n - a0 < sz
    · rw [if_pos hov] at hR
      have hovI : (n : Int) < (a0 : Int) + sz := by omega
      simp only at hR
      generalize (pre ++ List.replicate (m + 1) 0).map u64n = rows at *
      rw [denK_loop]
      simp [Tryd.f32]
      simp at hR
      simp [hk, hkI, ho, o2, hsr, hl64, hsz, w2, hovI, drwK_end, hR]
    · rw [if_neg hov] at hR
      have hovI : ¬ ((n : Int) < (a0 : Int) + sz) := by omega
      rw [htk sz (by omega)] at ih hR
      have hin := hin (by omega)
      have ih2 := ih (by omega) (by
        cases hpg : partsG op (kk + 1) m ((b.take n).drop (a0 + sz)) with
        | none => rw [hpg] at hR; exact hR
        | some q =>
          rw [hpg] at hR
          simp only [Option.map_some] at hR
          simpa using hR)
      clear ih hR
      generalize bigN ((b.drop a0).take sz) = z at *
      generalize ((pre ++ [z]) ++ List.replicate m 0).map u64n = rows2 at *
      generalize (pre ++ List.replicate (m + 1) 0).map u64n = rows at *
      rw [denK_loop]
      simp [Tryd.f32] at hin ih2
      simp [Tryd.f32]
      simp [hk, hkI, ho, o2, hsr, hl64, hsz, w2, hovI, drwK_end]
      rw [hin]
      simp [w1, ih2]
end Go.Am
end
section
namespace Go.Am
open Go Go.Proofs
variable [Inhabited Mx2]
set_option maxRecDepth 20000
def insG : List UInt8 → Except Nat (Ins × List UInt8)
  | [] => .error 4
  | c :: r => if c.toNat < 1 ∨ 15 < c.toNat then .error 5 else match partsG c.toNat 0 4 r with
    | some ([a, b, n, m], l) => .ok (⟨c.toNat, i64N a, i64N b, i64N n, i64N m⟩, l)
    | _ => .error 4
def readsG : Nat → List UInt8 → List Ins → Except Nat (List Ins × List UInt8)
  | 0, l, acc => .ok (acc, l)
  | m + 1, l, acc => match insG l with
    | .error e => .error e
    | .ok (x, l') => readsG m l' (acc ++ [x])
theorem insG_cons (c : UInt8) (r : List UInt8) : insG (c :: r) = if c.toNat < 1 ∨ 15 < c.toNat then .error 5 else match partsG c.toNat 0 4 r with
    | some ([a, b, n, m], l) => .ok (⟨c.toNat, i64N a, i64N b, i64N n, i64N m⟩, l)
    | _ => .error 4 := rfl
theorem insG_len {l : List UInt8} {x : Ins} {l' : List UInt8} (h : insG l = .ok (x, l')) : l'.length + 1 ≤ l.length ∧ l' = l.drop (l.length - l'.length) := by
  cases l with
  | nil => simp [insG] at h
  | cons c r =>
    rw [insG_cons] at h
    split at h
    · cases h
    · split at h
      · rename_i a b n m l2 hp
        cases h
        obtain ⟨_, h2, h3⟩ := partsG_len _ _ _ _ _ hp
        simp only at h2 h3
        refine ⟨by simp; omega, ?_⟩
        rw [List.length_cons, show r.length + 1 - l'.length = (r.length - l'.length) + 1 by omega, List.drop_succ_cons]
        exact h3
      · cases h
set_option maxHeartbeats 4000000 in
theorem rmany_loop (b : List UInt8) (n : Nat) (hn : n ≤ b.length) (hb : b.length ≤ 900000) (vars cells : Int) (k : Kt) (R : Ans) (T : Except Nat (List Ins × List UInt8)) 
    (hE : ∀ e, T = .error e → ∀ E2 E3 E4 E5, k .ret ⟨182, gl0, [(2, true, .ptr 200 1 0), (3, true, .d (.int .i64 e))], [⟨200, 1, codeZ⟩, E2, E3, E4, E5]⟩ = R)
    (hO : ∀ ins l', T = .ok (ins, l') → ∀ (v : Nat) (X : Env) E4 E5, k (.exit 3) ⟨182, gl0, [(0, true, .d (.list (b.map byteD))), (2, true, .ptr 200 1 0), (4, true, .d (.int .i64 n)), (5, true, .d (.int .i64 (n - l'.length : Nat))), (6, true, .d (.int .i64 0)), (7, true, .ptr 450 1 0)] ++ X, [⟨200, 1, codeZ⟩, ⟨450, 1, .box [.vec 451 v 0 ins.length, .d (.int .i64 vars), .d (.int .i64 cells)]⟩, ⟨451, v, .vec 5 (ins.map insD)⟩, E4, E5]⟩ = R) :
    ∀ (m a0 : Nat) (acc : List Ins) (v v4 v5 : Nat) (c4 c5 : Cont) (X : Env), acc.length + m ≤ 70000 → a0 ≤ n → readsG m ((b.take n).drop a0) acc = T →
    denK ctx 32 (.loop (Code.at (codeOf Tryd.f32) [1, 1, 1, 1, 1, 1, 1, 1, 1, 1, 0, 0, 0]))
      ⟨182, gl0, [(0, true, .d (.list (b.map byteD))), (2, true, .ptr 200 1 0), (4, true, .d (.int .i64 n)), (5, true, .d (.int .i64 a0)), (6, true, .d (.int .i64 0)), (7, true, .ptr 450 1 0), (8, true, .d (.int .i64 m))] ++ X,
        [⟨200, 1, codeZ⟩, ⟨450, 1, .box [.vec 451 v 0 acc.length, .d (.int .i64 vars), .d (.int .i64 cells)]⟩, ⟨451, v, .vec 5 (acc.map insD)⟩, ⟨650, v4, c4⟩, ⟨700, v5, c5⟩]⟩ k = R
  | 0, a0, acc, v, v4, v5, c4, c5, X, hm, ha, ht => by
    have e : n - ((b.take n).drop a0).length = a0 := by simp; omega
    have hO := fun X => hO acc ((b.take n).drop a0) ht.symm v X ⟨650, v4, c4⟩ ⟨700, v5, c5⟩
    rw [e] at hO
    have hO := hO [(8, true, .d (.int .i64 0)), (90, true, .d (.bool false))]
    simp at hO
    rw [denK_loop]
    simp [Tryd.f32, hO]
  | m + 1, a0, acc, v, v4, v5, c4, c5, X, hm, ha, ht => by
    have hpos : (0 : Int) < (m : Int) + 1 := by omega
    have w0 : IntKind.i64.wrap ((m : Int)) = (m : Int) := wrap_id (by unfold I64; omega)
    have erg : ∀ (l : List UInt8), readsG (m + 1) l acc = match insG l with | .error e => .error e | .ok (x, l') => readsG m l' (acc ++ [x]) := fun _ => rfl
    rw [erg] at ht
    by_cases hend : a0 = n
    · subst hend
      have hd : (b.take a0).drop a0 = [] := by simp
      rw [hd] at ht
      have e0 : insG [] = .error 4 := rfl
      rw [e0] at ht
      have hE := hE 4 ht.symm
      simp at hE
      rw [denK_loop]
      simp [Tryd.f32, hpos, hE]
      done
    have hlt : a0 < b.length := by omega
    have hltI : (a0 : Int) < b.length := by omega
    have hnI : ¬ ((n : Int) ≤ a0) := by omega
    obtain ⟨c, hc⟩ : ∃ c, c = b[a0] := ⟨_, rfl⟩
    have hd : (b.take n).drop a0 = c :: (b.take n).drop (a0 + 1) := by
      rw [List.drop_eq_getElem_cons (by simp; omega), hc]
      simp
    have w1 : IntKind.i64.wrap ((a0 : Int) + 1) = (a0 : Int) + 1 := wrap_id (by unfold I64; omega)
    have hcl := c.toNat_lt
    have w2 : IntKind.i64.wrap (c.toNat : Int) = (c.toNat : Int) := wrap_id (by unfold I64; omega)
    rw [hd] at ht
    by_cases hk : c.toNat < 1 ∨ 15 < c.toNat
    · have hi : insG (c :: (b.take n).drop (a0 + 1)) = .error 5 := by rw [insG_cons, if_pos hk]
      rw [hi] at ht
      have hE := hE 5 ht.symm
      simp at hE
      rw [denK_loop]
      by_cases hk1 : c.toNat < 1
      · have hz : c.toNat = 0 := by omega
        have wz : IntKind.i64.wrap 0 = 0 := wrap_id (by unfold I64; omega)
        simp [Tryd.f32, hpos, hlt, hltI, hnI, ← hc, w1, wz, hz, hE]
      · have hk1I : ¬ ((c.toNat : Int) < 1) := by omega
        have hk2I : (15 : Int) < c.toNat := by omega
        simp [Tryd.f32, hpos, hlt, hltI, hnI, ← hc, w1, w2, hk1I, hk2I, hE]
        done
    have hk1I : ¬ ((c.toNat : Int) < 1) := by omega
    have hk2I : ¬ ((15 : Int) < c.toNat) := by omega
    have hpl := fun E2 E3 h2 h3 v4 cs4 v A8 k R hR => rparts_loop b n hn hb c.toNat (by omega) (.d (.int .i64 0)) (.ptr 450 1 0) A8 E2 E3 h2 h3 v4 cs4 v k R 4 0 (a0 + 1) [] rfl rfl (by omega) hR
    cases hp : partsG c.toNat 0 4 ((b.take n).drop (a0 + 1)) with
    | none =>
      have hi : insG (c :: (b.take n).drop (a0 + 1)) = .error 4 := by rw [insG_cons, if_neg hk, hp]
      rw [hi] at ht
      have hE := hE 4 ht.symm
      simp only [hp] at hpl
      simp at hE
      simp [Tryd.f32] at hpl
      rw [denK_loop]
      simp [Tryd.f32, hpos, hlt, hltI, hnI, ← hc, w1, w2, hk1I, hk2I]
      refine hpl _ _ rfl rfl _ _ _ _ _ _ (fun e => ?_)
      simp [hE]
      done
    | some q =>
      obtain ⟨q4, ql, qd⟩ := partsG_len _ _ _ _ _ hp
      obtain ⟨vs, l'⟩ := q
      simp only at q4 ql qd
      obtain ⟨z1, z2, z3, z4, rfl⟩ : ∃ z1 z2 z3 z4, vs = [z1, z2, z3, z4] := by
        match vs, q4 with
        | [z1, z2, z3, z4], _ => exact ⟨z1, z2, z3, z4, rfl⟩
      have hi : insG (c :: (b.take n).drop (a0 + 1)) = .ok (⟨c.toNat, i64N z1, i64N z2, i64N z3, i64N z4⟩, l') := by rw [insG_cons, if_neg hk, hp]
      rw [hi] at ht
      simp only at ht
      have hl'n : l'.length ≤ n := by simp at ql; omega
      have hl' : (b.take n).drop (n - l'.length) = l' := by
        have hlen : ((b.take n).drop (a0 + 1)).length = n - (a0 + 1) := by simp; omega
        rw [hlen, List.drop_drop] at qd
        simp at ql
        rw [show a0 + 1 + (n - (a0 + 1) - l'.length) = n - l'.length by omega] at qd
        exact qd.symm
      have ih := fun v v4 v5 c4 c5 => rmany_loop b n hn hb vars cells k R T hE hO m (n - l'.length) (acc ++ [⟨c.toNat, i64N z1, i64N z2, i64N z3, i64N z4⟩]) v v4 v5 c4 c5 [] (by simp; omega) (by omega) (by rw [hl']; exact ht)
      have x1 : IntKind.i64.wrap (z1 : Int) = i64N z1 := rfl
      have x2 : IntKind.i64.wrap (z2 : Int) = i64N z2 := rfl
      have x3 : IntKind.i64.wrap (z3 : Int) = i64N z3 := rfl
      have x4 : IntKind.i64.wrap (z4 : Int) = i64N z4 := rfl
      have g1 : (acc.length + 1) * 40 ≤ 140737488355328 ∧ acc.length ≤ 4611686018427387903 := by omega
      simp only [hp] at hpl
      simp [Tryd.f32] at hpl ih
      generalize ((n - l'.length : Nat) : Int) = nl at *
      rw [denK_loop]
      simp [Tryd.f32, hpos, hlt, hltI, hnI, ← hc, w1, w2, hk1I, hk2I]
      refine hpl _ _ rfl rfl _ _ _ _ _ _ (fun X => ?_)
      simp [x1, x2, x3, x4, g1, w0, drwK_end, ih]
      done
end Go.Am
end
section
namespace Go.Am
open Go Go.Proofs
variable [Inhabited Mx2]
set_option maxRecDepth 20000
theorem i64N_small {n : Nat} (h : n < 9223372036854775808) : i64N n = n := by
  unfold i64N
  exact wrap_id (by unfold I64; omega)
theorem takeF_zero (p : List UInt8 × Nat) : takeF 0 p = (0, p) := by
  obtain ⟨l, e⟩ := p
  unfold takeF
  by_cases h : e = 0
  · subst h; simp [bigN]
  · simp [h]
theorem condT_take (b : Bool) (s : Nat) (p : List UInt8 × Nat) : condT b s p = takeF (if b then s else 0) p := by
  cases b with
  | true => rfl
  | false => simp [condT, takeF_zero]
theorem sz_has (op : Nat) (h : 1 ≤ op ∧ op ≤ 15) : szN op 0 = (if hasA op then 2 else 0) ∧ szN op 1 = (if hasB op then 2 else 0) ∧ szN op 2 = (if hasN op then 8 else 0) ∧ szN op 3 = (if hasM op then 8 else 0) := by
  have : op = 1 ∨ op = 2 ∨ op = 3 ∨ op = 4 ∨ op = 5 ∨ op = 6 ∨ op = 7 ∨ op = 8 ∨ op = 9 ∨ op = 10 ∨ op = 11 ∨ op = 12 ∨ op = 13 ∨ op = 14 ∨ op = 15 := by omega
  rcases this with rfl | rfl | rfl | rfl | rfl | rfl | rfl | rfl | rfl | rfl | rfl | rfl | rfl | rfl | rfl <;> decide
theorem takeF_none {s : Nat} {l : List UInt8} (h : l.length < s) : takeF s (l, 0) = (0, (l, 4)) := by simp [takeF, h]
theorem takeF_some {s : Nat} {l : List UInt8} (h : ¬ l.length < s) : takeF s (l, 0) = (bigN (l.take s), (l.drop s, 0)) := by simp [takeF, h]
theorem takeF_bad {s : Nat} {l : List UInt8} {e : Nat} (h : e ≠ 0) : takeF s (l, e) = (0, (l, e)) := by simp [takeF, h]
def partsF (op : Nat) : Nat → Nat → List UInt8 × Nat → List Nat × (List UInt8 × Nat)
  | _, 0, p => ([], p)
  | k, m + 1, p => ((takeF (szN op k) p).1 :: (partsF op (k + 1) m (takeF (szN op k) p).2).1, (partsF op (k + 1) m (takeF (szN op k) p).2).2)
theorem partsF_bad (op : Nat) {e : Nat} (he : e ≠ 0) (l : List UInt8) : ∀ m k, (partsF op k m (l, e)).2 = (l, e)
  | 0, k => rfl
  | m + 1, k => by
    simp only [partsF, takeF_bad he]
    exact partsF_bad op he l m (k + 1)
theorem parts_G (op : Nat) : ∀ (m k : Nat) (l : List UInt8), match partsG op k m l with | none => (partsF op k m (l, 0)).2.2 = 4 | some q => partsF op k m (l, 0) = (q.1, (q.2, 0))
  | 0, k, l => rfl
  | m + 1, k, l => by
    unfold partsG partsF
    by_cases h : l.length < szN op k
    · rw [if_pos h, takeF_none h]
      simp only
      rw [partsF_bad op (by omega)]
    · rw [if_neg h, takeF_some h]
      have ih := parts_G op m (k + 1) (l.drop (szN op k))
      cases hp : partsG op (k + 1) m (l.drop (szN op k)) with
      | none => rw [hp] at ih; exact ih
      | some q => rw [hp] at ih; simp only at ih ⊢; simp [ih]
theorem insF_eq (p : List UInt8 × Nat) : insF p = (⟨i64N (takeF 1 p).1, i64N (condT (hasA (i64N (takeF 1 p).1)) 2 (kindP (takeF 1 p).2 (i64N (takeF 1 p).1))).1, i64N (condT (hasB (i64N (takeF 1 p).1)) 2 (condT (hasA (i64N (takeF 1 p).1)) 2 (kindP (takeF 1 p).2 (i64N (takeF 1 p).1))).2).1, i64N (condT (hasN (i64N (takeF 1 p).1)) 8 (condT (hasB (i64N (takeF 1 p).1)) 2 (condT (hasA (i64N (takeF 1 p).1)) 2 (kindP (takeF 1 p).2 (i64N (takeF 1 p).1))).2).2).1, i64N (condT (hasM (i64N (takeF 1 p).1)) 8 (condT (hasN (i64N (takeF 1 p).1)) 8 (condT (hasB (i64N (takeF 1 p).1)) 2 (condT (hasA (i64N (takeF 1 p).1)) 2 (kindP (takeF 1 p).2 (i64N (takeF 1 p).1))).2).2).2).1⟩, (condT (hasM (i64N (takeF 1 p).1)) 8 (condT (hasN (i64N (takeF 1 p).1)) 8 (condT (hasB (i64N (takeF 1 p).1)) 2 (condT (hasA (i64N (takeF 1 p).1)) 2 (kindP (takeF 1 p).2 (i64N (takeF 1 p).1))).2).2).2).2) := rfl
theorem insF_G (l : List UInt8) : match insG l with | .error e => e ≠ 0 ∧ (insF (l, 0)).2.2 = e | .ok (x, l') => insF (l, 0) = (x, (l', 0)) := by
  cases l with
  | nil =>
    show (4 : Nat) ≠ 0 ∧ (insF ([], 0)).2.2 = 4
    refine ⟨by omega, ?_⟩
    rw [insF_eq, takeF_none (by simp)]
    simp [i64N_small, kindP, hasA, hasB, hasN, hasM, condT]
  | cons c r =>
    have hcl := c.toNat_lt
    have h1 : takeF 1 (c :: r, 0) = (c.toNat, (r, 0)) := by rw [takeF_some (by simp)]; simp [bigN]
    have hi : i64N c.toNat = c.toNat := i64N_small (by omega)
    rw [insG_cons, insF_eq, h1]
    simp only [hi]
    by_cases hk : c.toNat < 1 ∨ 15 < c.toNat
    · rw [if_pos hk]
      refine ⟨by omega, ?_⟩
      have hK : hasK c.toNat = false := by unfold hasK; simp; omega
      have hA : hasA c.toNat = false := by unfold hasA; simp; omega
      have hB : hasB c.toNat = false := by unfold hasB; simp; omega
      have hN : hasN c.toNat = false := by unfold hasN; simp; omega
      have hM : hasM c.toNat = false := by unfold hasM; simp; omega
      simp [kindP, hK, hA, hB, hN, hM, condT]
    · rw [if_neg hk]
      have hK : hasK c.toNat = true := by unfold hasK; simp; omega
      obtain ⟨s0, s1, s2, s3⟩ := sz_has c.toNat (by omega)
      have hkp : kindP (r, 0) (c.toNat : Int) = (r, 0) := by unfold kindP; rw [if_neg]; simp [hK]
      have hp := parts_G c.toNat 4 0 r
      simp only [hkp, condT_take, ← s0, ← s1, ← s2, ← s3]
      simp only [partsF] at hp
      generalize takeF (szN c.toNat 0) (r, 0) = t0 at *
      generalize takeF (szN c.toNat 1) t0.2 = t1 at *
      generalize takeF (szN c.toNat 2) t1.2 = t2 at *
      generalize takeF (szN c.toNat 3) t2.2 = t3 at *
      cases hg : partsG c.toNat 0 4 r with
      | none =>
        rw [hg] at hp
        simp only at hp ⊢
        exact ⟨by omega, hp⟩
      | some q =>
        rw [hg] at hp
        simp only [Prod.mk.injEq] at hp
        obtain ⟨q1, q2⟩ := q
        simp only at hp ⊢
        obtain ⟨rfl, h3⟩ := hp
        simp only [h3]
theorem readsF_G : ∀ (m : Nat) (l : List UInt8) (acc : List Ins), match readsG m l acc with | .error e => e ≠ 0 ∧ (readsF m (l, 0) acc).2.2 = e | .ok (ins, l') => readsF m (l, 0) acc = (ins, (l', 0))
  | 0, l, acc => rfl
  | m + 1, l, acc => by
    have erg : readsG (m + 1) l acc = match insG l with | .error e => .error e | .ok (x, l') => readsG m l' (acc ++ [x]) := rfl
    have erf : readsF (m + 1) (l, 0) acc = readsF m (insF (l, 0)).2 (acc ++ [(insF (l, 0)).1]) := rfl
    have hi := insF_G l
    rw [erg, erf]
    cases hg : insG l with
    | error e =>
      rw [hg] at hi
      obtain ⟨h1, h2⟩ := hi
      refine ⟨h1, ?_⟩
      have : ∀ (m : Nat) (p : List UInt8 × Nat) (acc : List Ins), p.2 ≠ 0 → (readsF m p acc).2.2 = p.2 := by
        intro m p acc hp
        cases m with
        | zero => rfl
        | succ m => unfold readsF; rw [if_neg hp]
      rw [this m _ _ (by rw [h2]; exact h1), h2]
    | ok q =>
      obtain ⟨x, l'⟩ := q
      rw [hg] at hi
      simp only at hi ⊢
      rw [hi]
      exact readsF_G m l' (acc ++ [x])
end Go.Am
end
section
namespace Go.Am
open Go Go.Proofs
variable [Inhabited Mx2]
set_option maxRecDepth 20000
def wordN (b : List UInt8) (i : Nat) : Nat := (b[i]?.getD 0).toNat * 256 + (b[i + 1]?.getD 0).toNat
set_option maxHeartbeats 4000000 in
theorem rhead_loop (b : List UInt8) (n : Nat) (hn : n + 2 ≤ b.length) (h4 : 4 ≤ n) (hb : b.length ≤ 900000) (v v4 v5 : Nat) (c4 c5 : Cont) (k : Kt) (R : Ans)
    (hE : n < 10 → ∀ E2 E3 E4 E5, k .ret ⟨182, gl0, [(2, true, .ptr 200 1 0), (3, true, .d (.int .i64 4))], [⟨200, 1, codeZ⟩, E2, E3, E4, E5]⟩ = R)
    (hO : 10 ≤ n → ∀ (X : Env), k (.exit 0) ⟨182, gl0, [(0, true, .d (.list (b.map byteD))), (2, true, .ptr 200 1 0), (4, true, .d (.int .i64 n)), (5, true, .d (.int .i64 10)), (6, true, .d (.int .i64 0)), (7, true, .ptr 450 1 0), (8, true, .d (.int .i64 (wordN b 8)))] ++ X, [⟨200, 1, codeZ⟩, ⟨450, 1, .box [.vec 451 v 0 0, .d (.int .i64 (wordN b 4)), .d (.int .i64 (wordN b 6))]⟩, ⟨451, v, .vec 5 []⟩, ⟨650, v4, c4⟩, ⟨700, v5, c5⟩]⟩ = R) :
    denK ctx 32 (.loop (Code.at (codeOf Tryd.f32) [1, 1, 1, 1, 1, 1, 1, 1, 1, 0, 1, 0, 0]))
      ⟨182, gl0, [(0, true, .d (.list (b.map byteD))), (2, true, .ptr 200 1 0), (4, true, .d (.int .i64 n)), (5, true, .d (.int .i64 4)), (6, true, .d (.int .i64 0)), (7, true, .ptr 450 1 0), (8, true, .d (.int .i64 0)), (9, true, .d (.int .i64 0))],
        [⟨200, 1, codeZ⟩, ⟨450, 1, .box [.vec 451 v 0 0, .d (.int .i64 0), .d (.int .i64 0)]⟩, ⟨451, v, .vec 5 []⟩, ⟨650, v4, c4⟩, ⟨700, v5, c5⟩]⟩ k = R := by
  have wc : ∀ y : Int, 0 ≤ y → y ≤ 100 → IntKind.i64.wrap y = y := fun y h1 h2 => wrap_id (by unfold I64; omega)
  have w1 := wc 1 (by omega) (by omega)
  have w2 := wc 2 (by omega) (by omega)
  have w3 := wc 3 (by omega) (by omega)
  have w5 := wc 5 (by omega) (by omega)
  have w6 := wc 6 (by omega) (by omega)
  have w7 := wc 7 (by omega) (by omega)
  have w8 := wc 8 (by omega) (by omega)
  have w9 := wc 9 (by omega) (by omega)
  have w10 := wc 10 (by omega) (by omega)
  have hw : ∀ x y : UInt8, IntKind.i64.wrap (IntKind.i64.wrap ((x.toNat : Int) * 256) + (y.toNat : Int)) = (x.toNat : Int) * 256 + y.toNat ∧ IntKind.i64.wrap (x.toNat : Int) = (x.toNat : Int) := fun x y => by
    have := x.toNat_lt
    have := y.toNat_lt
    have h1 : IntKind.i64.wrap ((x.toNat : Int) * 256) = (x.toNat : Int) * 256 := wrap_id (by unfold I64; omega)
    rw [h1]
    exact ⟨wrap_id (by unfold I64; omega), wrap_id (by unfold I64; omega)⟩
  have hw1 : ∀ x y : UInt8, IntKind.i64.wrap (IntKind.i64.wrap ((x.toNat : Int) * 256) + (y.toNat : Int)) = (x.toNat : Int) * 256 + y.toNat := fun x y => (hw x y).1
  have hw2 : ∀ x : UInt8, IntKind.i64.wrap (x.toNat : Int) = (x.toNat : Int) := fun x => (hw x x).2
  have L : ∀ i, i < 12 → i < n + 2 → i < b.length := fun i _ _ => by omega
  by_cases n6 : n < 6
  · have n6I : (n : Int) < 6 := by omega
    have hE := hE (by omega)
    simp at hE
    rw [denK_loop]
    simp [Tryd.f32, w6, n6I, hE]
  have n6I : ¬ (n : Int) < 6 := by omega
  have b4 : 4 < b.length := by omega
  have b4I : (4 : Int) < b.length := by omega
  have b5 : 5 < b.length := by omega
  have b5I : (5 : Int) < b.length := by omega
  by_cases n8 : n < 8
  · have n8I : (n : Int) < 8 := by omega
    have hE := hE (by omega)
    simp at hE
    rw [denK_loop]
    simp [Tryd.f32, w1, w5, w6, n6I, b4, b4I, b5, b5I, hw1, hw2, drwK_end]
    rw [denK_loop]
    simp [w8, n8I, hE]
  have n8I : ¬ (n : Int) < 8 := by omega
  have b6 : 6 < b.length := by omega
  have b6I : (6 : Int) < b.length := by omega
  have b7 : 7 < b.length := by omega
  have b7I : (7 : Int) < b.length := by omega
  by_cases n10 : n < 10
  · have n10I : (n : Int) < 10 := by omega
    have hE := hE (by omega)
    simp at hE
    rw [denK_loop]
    simp [Tryd.f32, w1, w5, w6, n6I, b4, b4I, b5, b5I, hw1, hw2, drwK_end]
    rw [denK_loop]
    simp [w2, w7, w8, n8I, b6, b6I, b7, b7I, hw1, hw2, drwK_end]
    rw [denK_loop]
    simp [w10, n10I, hE]
  have n10I : ¬ (n : Int) < 10 := by omega
  have b8 : 8 < b.length := by omega
  have b8I : (8 : Int) < b.length := by omega
  have b9 : 9 < b.length := by omega
  have b9I : (9 : Int) < b.length := by omega
  have hO := hO (by omega)
  have e4 : ((wordN b 4 : Nat) : Int) = (b[4].toNat : Int) * 256 + b[5].toNat := by unfold wordN; simp [b4, b5]
  have e6 : ((wordN b 6 : Nat) : Int) = (b[6].toNat : Int) * 256 + b[7].toNat := by unfold wordN; simp [b6, b7]
  have e8 : ((wordN b 8 : Nat) : Int) = (b[8].toNat : Int) * 256 + b[9].toNat := by unfold wordN; simp [b8, b9]
  simp only [e4, e6, e8] at hO
  have hO := hO [(9, true, .d (.int .i64 3)), (56, true, .d (.bool false))]
  simp at hO
  rw [denK_loop]
  simp [Tryd.f32, w1, w5, w6, n6I, b4, b4I, b5, b5I, hw1, hw2, drwK_end]
  rw [denK_loop]
  simp [w2, w7, w8, n8I, b6, b6I, b7, b7I, hw1, hw2, drwK_end]
  rw [denK_loop]
  simp [w3, w9, w10, n10I, b8, b8I, b9, b9I, hw1, hw2, drwK_end]
  rw [denK_loop]
  simp [hO]
end Go.Am
end
section
namespace Go.Am
open Go Go.Proofs
variable [Inhabited Mx2]
set_option maxRecDepth 20000
theorem head_fields (b : List UInt8) (n : Nat) (hn : n + 2 = b.length) (h : 10 ≤ n) :
    takeF 2 ((b.take n).drop 4, 0) = (wordN b 4, ((b.take n).drop 6, 0)) ∧ takeF 2 ((b.take n).drop 6, 0) = (wordN b 6, ((b.take n).drop 8, 0)) ∧ takeF 2 ((b.take n).drop 8, 0) = (wordN b 8, ((b.take n).drop 10, 0)) := by
  have key : ∀ i, i + 2 ≤ n → takeF 2 ((b.take n).drop i, 0) = (wordN b i, ((b.take n).drop (i + 2), 0)) := by
    intro i hi
    have hd : (b.take n).drop i = b[i] :: b[i + 1] :: (b.take n).drop (i + 2) := by
      rw [List.drop_eq_getElem_cons (by simp; omega), List.drop_eq_getElem_cons (by simp; omega)]
      simp
    rw [hd, takeF_some (by simp)]
    have e : wordN b i = b[i].toNat * 256 + b[i + 1].toNat := by
      unfold wordN
      rw [List.getElem?_eq_getElem (by omega), List.getElem?_eq_getElem (by omega)]
      rfl
    rw [e]
    simp [bigN]
  exact ⟨key 4 (by omega), key 6 (by omega), key 8 (by omega)⟩
theorem head_short (b : List UInt8) (n : Nat) (hn : n + 2 = b.length) (h : n < 10) (h4 : 4 ≤ n) : (takeF 2 (takeF 2 (takeF 2 ((b.take n).drop 4, 0)).2).2).2.2 = 4 := by
  have hl : ((b.take n).drop 4).length = n - 4 := by simp; omega
  generalize (b.take n).drop 4 = l at *
  by_cases q1 : l.length < 2
  · rw [takeF_none q1]
    simp only
    rw [takeF_bad (show (4 : Nat) ≠ 0 by omega)]
    simp only
    rw [takeF_bad (show (4 : Nat) ≠ 0 by omega)]
  · rw [takeF_some q1]
    simp only
    by_cases q2 : (l.drop 2).length < 2
    · rw [takeF_none q2]
      simp only
      rw [takeF_bad (show (4 : Nat) ≠ 0 by omega)]
    · rw [takeF_some q2]
      simp only
      rw [takeF_none (by simp; omega)]
set_option maxHeartbeats 4000000 in
theorem rread_run (b : List UInt8) (hl : b.length ≤ 4000) : callT ctx 32 [.d (.list (b.map byteD))] [] = some (.ret (.tup [.d (codeD (readP b).1 (readP b).2.1 (readP b).2.2.1), .d (.int .i64 (readP b).2.2.2)]), []) := by
  have h1 : ¬ 131072 < b.length := by omega
  have h1I : ¬ (131072 : Int) < b.length := by omega
  rw [run32 (by simp)]
  by_cases h2 : b.length < 2
  · have h2I : (b.length : Int) - 2 < 0 := by omega
    have w1 : IntKind.i64.wrap ((b.length : Int) - 2) = (b.length : Int) - 2 := wrap_id (by unfold I64; omega)
    have hr : readP b = ([], 0, 0, 6) := by unfold readP openF; simp [h1, h2]
    rw [hr]
    simp [Tryd.f32, drwK_end, w1, h1I, h2I]
    done
  obtain ⟨n, hn⟩ : ∃ n, b.length = n + 2 := ⟨b.length - 2, by omega⟩
  have hs := rsumOf_run (b.take n) (by simp; omega)
  have e1 : b.length - 2 = n := by omega
  have e2 : b.length - 1 = n + 1 := by omega
  have hx : n < b.length := by omega
  have hy1 : n + 1 < b.length := by omega
  have hxI : (n : Int) < b.length := by omega
  have hyI : (n : Int) + 1 < b.length := by omega
  obtain ⟨x, hxx⟩ : ∃ x, x = b[n] := ⟨_, rfl⟩
  obtain ⟨y, hyy⟩ : ∃ y, y = b[n + 1] := ⟨_, rfl⟩
  have e3 : lastN b = x.toNat * 256 + y.toNat := by
    unfold lastN
    rw [e1, e2, List.getElem?_eq_getElem hx, List.getElem?_eq_getElem hy1, hxx, hyy]
    rfl
  have hxl := x.toNat_lt
  have hyl := y.toNat_lt
  have wx : IntKind.i64.wrap (x.toNat : Int) = (x.toNat : Int) := wrap_id (by unfold I64; omega)
  have wy : IntKind.i64.wrap (y.toNat : Int) = (y.toNat : Int) := wrap_id (by unfold I64; omega)
  have wxm : IntKind.i64.wrap ((x.toNat : Int) * 256) = (x.toNat : Int) * 256 := wrap_id (by unfold I64; omega)
  have wxy : IntKind.i64.wrap ((x.toNat : Int) * 256 + y.toNat) = (x.toNat : Int) * 256 + y.toNat := wrap_id (by unfold I64; omega)
  have w2 : IntKind.i64.wrap ((n : Int) + 1) = (n : Int) + 1 := wrap_id (by unfold I64; omega)
  have w3 : IntKind.i64.wrap ((b.length : Int) - 2) = (n : Int) := by rw [wrap_id (by unfold I64; omega)]; omega
  have h0 : ¬ (n : Int) < 0 := by omega
  have hnn : ((n : Int) + 1).toNat = n + 1 := by omega
  have hn0 : (0 : Int) ≤ (n : Int) + 1 := by omega
  have hle : n ≤ b.length := by omega
  have hcomp : (byteOf ∘ byteD) = id := by funext c; simp [byteOf]
  have hby4 : (∀ d ∈ List.take 4 (List.map byteD b), d.isByte = true) = True := eq_true (fun d hd => by
    have := List.mem_of_mem_take hd
    simp only [List.mem_map] at this
    obtain ⟨c, _, rfl⟩ := this
    rfl)
  have hopen : openF b = if (crcL 65535#16 (b.take n)).toNat ≠ x.toNat * 256 + y.toNat then ([], 6) else if ¬ (4 ≤ n ∧ b.take 4 = [83, 86, 67, 49]) then ([], 5) else ((b.take n).drop 4, 0) := by
    unfold openF
    rw [if_neg h1, e1, e3]
    have c2 : (b.length < 2 ∨ (crcL 65535#16 (b.take n)).toNat ≠ x.toNat * 256 + y.toNat) ↔ (crcL 65535#16 (b.take n)).toNat ≠ x.toNat * 256 + y.toNat := by omega
    have c3 : (b.length < 6 ∨ b.take 4 ≠ [83, 86, 67, 49]) ↔ ¬ (4 ≤ n ∧ b.take 4 = [83, 86, 67, 49]) := by
      constructor
      · rintro (h | h) ⟨h3, h4⟩
        · omega
        · exact h h4
      · intro h
        by_cases h3 : b.length < 6
        · exact .inl h3
        · exact .inr fun h4 => h ⟨by omega, h4⟩
    simp only [c2, c3]
  generalize (crcL 65535#16 (b.take n)) = s at *
  simp at hs
  by_cases hq : s.toNat = x.toNat * 256 + y.toNat
  rotate_left
  · have hqI : ¬ ((s.toNat : Int) = (x.toNat : Int) * 256 + y.toNat) := by omega
    rw [if_pos hq] at hopen
    have hr : readP b = ([], 0, 0, 6) := by unfold readP; rw [hopen]; rfl
    rw [hr]
    simp [Tryd.f32, drwK_end, w2, w3, h0, h1I, hs, wx, wy, wxm, wxy, hx, hy1, hxI, hyI, ← hxx, ← hyy, hnn, hn0, hle, hqI]
    done
  rw [if_neg (fun h => h hq)] at hopen
  have hqI : ((s.toNat : Int) = (x.toNat : Int) * 256 + y.toNat) := by omega
  by_cases h4 : 4 ≤ n
  rotate_left
  · have h4I : (n : Int) < 4 := by omega
    rw [if_pos (fun h => h4 h.1)] at hopen
    have hr : readP b = ([], 0, 0, 5) := by unfold readP; rw [hopen]; rfl
    rw [hr]
    simp [Tryd.f32, drwK_end, w2, w3, h0, h1I, hs, wx, wy, wxm, wxy, hx, hy1, hxI, hyI, ← hxx, ← hyy, hnn, hn0, hle, hqI, h4I]
    done
  have h4I' : ¬ (n : Int) < 4 := by omega
  have h4I : (4 : Int) ≤ n := by omega
  have h4b : 4 ≤ b.length := by omega
  by_cases hS : b.take 4 = [83, 86, 67, 49]
  rotate_left
  · rw [if_pos (fun h => hS h.2)] at hopen
    have hr : readP b = ([], 0, 0, 5) := by unfold readP; rw [hopen]; rfl
    rw [hr]
    simp [Tryd.f32, drwK_end, w2, w3, h0, h1I, hs, wx, wy, wxm, wxy, hx, hy1, hxI, hyI, ← hxx, ← hyy, hnn, hn0, hle, hqI, h4I', h4I, h4b, hS, hcomp, hby4]
    done
  rw [if_neg (fun h => h ⟨h4, hS⟩)] at hopen
  have hhd := fun v v4 v5 c4 c5 k R hE hO => rhead_loop b n (by omega) h4 (by omega) v v4 v5 c4 c5 k R hE hO
  by_cases h10 : n < 10
  · have hr : readP b = ([], 0, 0, 4) := by
      have hsh := head_short b n (by omega) h10 h4
      unfold readP
      rw [hopen]
      simp only [ne_eq, not_true_eq_false, if_false]
      generalize takeF 2 (takeF 2 (takeF 2 ((b.take n).drop 4, 0)).2).2 = t at *
      obtain ⟨m, l, e⟩ := t
      simp only at hsh
      subst hsh
      have : (readsF m (l, 4) []).2.2 = 4 := by cases m with | zero => rfl | succ m => simp [readsF]
      simp [this]
    rw [hr]
    have hhd := fun v v4 v5 c4 c5 k R hE => hhd v v4 v5 c4 c5 k R hE (fun h => by omega)
    simp [Tryd.f32, h10] at hhd
    simp [Tryd.f32, drwK_end, w2, w3, h0, h1I, hs, wx, wy, wxm, wxy, hx, hy1, hxI, hyI, ← hxx, ← hyy, hnn, hn0, hle, hqI, h4I', h4I, h4b, hS, hcomp, hby4]
    refine hhd _ _ _ _ _ _ _ (fun E2 E3 E4 E5 => ?_)
    simp
    done
  obtain ⟨t1, t2, t3⟩ := head_fields b n (by omega) (by omega)
  have hwb : ∀ i, wordN b i < 65536 := fun i => by
    unfold wordN
    have h1 := (b[i]?.getD 0).toNat_lt
    have h2 := (b[i + 1]?.getD 0).toNat_lt
    omega
  have i1 : i64N (wordN b 4) = wordN b 4 := i64N_small (by have := hwb 4; omega)
  have i2 : i64N (wordN b 6) = wordN b 6 := i64N_small (by have := hwb 6; omega)
  have hG := readsF_G (wordN b 8) ((b.take n).drop 10) []
  have hml := fun k R T hE hO v v4 v5 c4 c5 X ht => rmany_loop b n (by omega) (by omega) (wordN b 4) (wordN b 6) k R T hE hO (wordN b 8) 10 [] v v4 v5 c4 c5 X (by have := hwb 8; simp; omega) (by omega) ht
  have hrd : readP b = if (readsF (wordN b 8) ((b.take n).drop 10, 0) []).2.2 ≠ 0 then ([], 0, 0, (readsF (wordN b 8) ((b.take n).drop 10, 0) []).2.2) else if (readsF (wordN b 8) ((b.take n).drop 10, 0) []).2.1 ≠ [] then ([], 0, 0, 5) else if okCode pinsN (readsF (wordN b 8) ((b.take n).drop 10, 0) []).1 (wordN b 4) (wordN b 6) = false then ([], 0, 0, 1) else ((readsF (wordN b 8) ((b.take n).drop 10, 0) []).1, (wordN b 4 : Int), (wordN b 6 : Int), 0) := by
    unfold readP
    rw [hopen]
    simp only [ne_eq, not_true_eq_false, if_false, t1, t2, t3, i1, i2]
  have hok := readsF_ok (wordN b 8) ((b.take n).drop 10, 0) []
  rw [hrd]
  generalize readsF (wordN b 8) ((b.take n).drop 10, 0) [] = F at *
  have hhd := fun v v4 v5 c4 c5 k R hO => hhd v v4 v5 c4 c5 k R (fun h => by omega) (fun _ => hO)
  obtain ⟨V, hV⟩ : ∃ V : Int, V = ((wordN b 4 : Nat) : Int) := ⟨_, rfl⟩
  obtain ⟨C, hC⟩ : ∃ C : Int, C = ((wordN b 6 : Nat) : Int) := ⟨_, rfl⟩
  rw [← hV, ← hC] at hml ⊢
  simp only [← hV, ← hC] at hhd
  clear hrd t1 t2 t3 i1 i2 hopen
  generalize hm8 : wordN b 8 = m8 at *
  cases hg : readsG m8 ((b.take n).drop 10) [] with
  | error e =>
    rw [hg] at hG
    obtain ⟨he0, he⟩ := hG
    rw [if_pos (by rw [he]; exact he0), he]
    have hml := fun k R hE v v4 v5 c4 c5 X => hml k R (.error e) (fun e2 h => by cases h; exact hE) (fun _ _ h => by cases h) v v4 v5 c4 c5 X hg
    simp [Tryd.f32] at hhd hml
    simp [Tryd.f32, drwK_end, w2, w3, h0, h1I, hs, wx, wy, wxm, wxy, hx, hy1, hxI, hyI, ← hxx, ← hyy, hnn, hn0, hle, hqI, h4I', h4I, h4b, hS, hcomp, hby4]
    refine hhd _ _ _ _ _ _ _ (fun X => ?_)
    simp
    refine hml _ _ (fun E2 E3 E4 E5 => ?_) _ _ _ _ _ _
    simp
    done
  | ok q =>
    obtain ⟨ins, l'⟩ := q
    rw [hg] at hG
    simp only at hG
    subst hG
    simp only [ne_eq, not_true_eq_false, if_false] at hok ⊢
    have hok := (hok trivial).2
    have hcd := refCode_run ins V C pinsN rpins_ok (by simp at hok; omega)
    rw [ref_ok] at hcd
    have hl'n : l'.length ≤ n := by simp at hok; omega
    have hml := fun k R hO v v4 v5 c4 c5 X => hml k R (.ok (ins, l')) (fun _ h => by cases h) (fun i2 l2 h => by cases h; exact hO) v v4 v5 c4 c5 X hg
    simp [Tryd.f32] at hhd hml
    by_cases hr : l' = []
    rotate_left
    · have hlp : 0 < l'.length := List.length_pos_iff.2 hr
      have hltn : ((n - l'.length : Nat) : Int) < n := by omega
      rw [if_pos hr]
      simp [Tryd.f32, drwK_end, w2, w3, h0, h1I, hs, wx, wy, wxm, wxy, hx, hy1, hxI, hyI, ← hxx, ← hyy, hnn, hn0, hle, hqI, h4I', h4I, h4b, hS, hcomp, hby4]
      refine hhd _ _ _ _ _ _ _ (fun X => ?_)
      simp
      refine hml _ _ (fun v X E4 E5 => ?_) _ _ _ _ _ _
      simp [hltn]
      done
    subst hr
    have hltn : ¬ (((n - ([] : List UInt8).length : Nat) : Int) < n) := by simp
    simp only [not_true_eq_false, if_false] at ⊢
    cases hqc : okCode pinsN ins V C with
    | false =>
      rw [hqc] at hcd
      simp at hcd
      simp [Tryd.f32, drwK_end, w2, w3, h0, h1I, hs, wx, wy, wxm, wxy, hx, hy1, hxI, hyI, ← hxx, ← hyy, hnn, hn0, hle, hqI, h4I', h4I, h4b, hS, hcomp, hby4]
      refine hhd _ _ _ _ _ _ _ (fun X => ?_)
      simp
      refine hml _ _ (fun v X E4 E5 => ?_) _ _ _ _ _ _
      simp [hcd]
      done
    | true =>
      rw [hqc] at hcd
      simp at hcd
      simp [Tryd.f32, drwK_end, w2, w3, h0, h1I, hs, wx, wy, wxm, wxy, hx, hy1, hxI, hyI, ← hxx, ← hyy, hnn, hn0, hle, hqI, h4I', h4I, h4b, hS, hcomp, hby4]
      refine hhd _ _ _ _ _ _ _ (fun X => ?_)
      simp
      refine hml _ _ (fun v X E4 E5 => ?_) _ _ _ _ _ _
      simp [hcd]
      done
end Go.Am
end
section
namespace Go.Am
open Go Go.Proofs
variable [Inhabited Mx2]
set_option maxRecDepth 20000
theorem ins_ext (x y : Ins) : x = y ↔ x.op = y.op ∧ x.a = y.a ∧ x.b = y.b ∧ x.n = y.n ∧ x.m = y.m := by
  constructor
  · rintro rfl; simp
  · intro h; cases x; cases y; simp_all
instance : DecidableEq Ins := fun x y => decidable_of_iff _ (ins_ext x y).symm
theorem csame_loop (a b : List Ins) (va ca vb cb : Int) (ha : a.length ≤ 1000000) (hl : a.length = b.length) (k : Kt) (R1 R2 : Ans)
    (h1 : ∀ M, k .ret ⟨45, gl0, [(4, true, .d (.bool false))], M⟩ = R1) (h2 : ∀ (Y : Env) M, k (.exit 0) ⟨45, gl0, Y, M⟩ = R2) : ∀ (ra rb : List Ins) (i : Nat), a.drop i = ra → b.drop i = rb → i + ra.length = a.length →
    denK ctx 26 (.loop (Code.at (codeOf Tryd.f26) [1, 1, 0, 1, 0, 0])) ⟨45, gl0, [(2, true, .ptr 200 1 0), (3, true, .ptr 250 1 0), (5, true, .d (.int .i64 i))],
      [⟨200, 1, .box [.d (.list (a.map insD)), .d (.int .i64 va), .d (.int .i64 ca)]⟩, ⟨250, 1, .box [.d (.list (b.map insD)), .d (.int .i64 vb), .d (.int .i64 cb)]⟩]⟩ k = if ra = rb then R2 else R1
  | [], rb, i, hra, hrb, hi => by
    have hi : i = a.length := by simpa using hi
    subst hi
    have : rb = [] := by rw [← hrb, hl]; simp
    subst this
    rw [denK_loop]
    simp [Tryd.f26, h2]
  | x :: ra, rb, i, hra, hrb, hi => by
    have hlt : i < a.length := by simp at hi; omega
    have hltI : (i : Int) < a.length := by omega
    have hlt2 : i < b.length := by omega
    have hlt2I : (i : Int) < b.length := by omega
    have hx : a[i] = x := by
      have := congrArg (·[0]?) hra
      simp at this
      simpa [hlt] using this
    obtain ⟨y, hy⟩ : ∃ y, y = b[i] := ⟨_, rfl⟩
    have hrb2 : rb = y :: b.drop (i + 1) := by rw [← hrb, hy]; exact List.drop_eq_getElem_cons hlt2
    have ih := csame_loop a b va ca vb cb ha hl k R1 R2 h1 h2 ra (b.drop (i + 1)) (i + 1) (by rw [← List.tail_drop, hra]; rfl) rfl (by simp at hi; omega)
    have w1 : IntKind.i64.wrap ((i : Int) + 1) = (i : Int) + 1 := wrap_id (by unfold I64; omega)
    rw [hrb2, denK_loop]
    simp [Tryd.f26] at ih
    simp [Tryd.f26]
    simp [hlt, hltI, hlt2, hlt2I, hx, ← hy, w1, ih, h1, drwK_end]
    have he := ins_ext x y
    clear ih h1 h2
    by_cases q0 : x.op = y.op <;> by_cases q1 : x.a = y.a <;> by_cases q2 : x.b = y.b <;> by_cases q3 : x.n = y.n <;> by_cases q4 : x.m = y.m <;> simp [q0, q1, q2, q3, q4] at he ⊢ <;> simp [he]
theorem csame_run (a b : List Ins) (va ca vb cb : Int) (ha : a.length ≤ 1000000) : callT ctx 26 [.d (codeD a va ca), .d (codeD b vb cb)] [] = some (.ret (.d (.bool (decide (a = b) && decide (va = vb) && decide (ca = cb)))), []) := by
  rw [run26 (by simp)]
  by_cases hl : a.length = b.length
  · have h := fun k R1 R2 h1 h2 => csame_loop a b va ca vb cb ha hl k R1 R2 h1 h2 a b 0 rfl rfl (by simp)
    simp [Tryd.f26] at h
    by_cases hv : va = vb
    · by_cases hc : ca = cb
      · simp [Tryd.f26, hl, hv, hc]
        rw [hv, hc] at h
        rw [h _ (some (.ret (.d (.bool false)), [])) (some (.ret (.d (.bool true)), [])) (by simp) (by simp)]
        by_cases e : a = b <;> simp [e]
      · simp [Tryd.f26, hl, hv, hc]
    · simp [Tryd.f26, hl, hv]
  · have hI : ¬ ((a.length : Int) = b.length) := by omega
    have hne : a ≠ b := fun h => hl (by rw [h])
    simp [Tryd.f26, hI, hne, hl]
end Go.Am
end
section
namespace Go.Am
open Go Go.Proofs
variable [Inhabited Mx2]
set_option maxRecDepth 20000
theorem readP_len (b : List UInt8) (hl : b.length ≤ 4000) : (readP b).1.length ≤ 5000 := by
  unfold readP
  split
  · simp
  · simp only
    split
    · simp
    · rename_i h1
      split
      · simp
      · split
        · simp
        · have h2 := readsF_ok (takeF 2 (takeF 2 (takeF 2 ((openF b).1, 0)).2).2).1 (takeF 2 (takeF 2 (takeF 2 ((openF b).1, 0)).2).2).2 [] (by simpa using h1)
          have h3 := h2.2
          have h4 := takeF_len 2 (takeF 2 (takeF 2 ((openF b).1, 0)).2).2
          have h5 := takeF_len 2 (takeF 2 ((openF b).1, 0)).2
          have h6 := takeF_len 2 ((openF b).1, 0)
          have h7 := openF_len b
          simp only [List.length_nil] at h3 h6
          simp only
          omega
theorem imageReads_run (t : List UInt8) : callT ctx 11 [.d (.list (t.map byteD))] [] = some (.ret (.d (.bool true)), []) := by
  obtain ⟨n, hn1, hn2, hn3, hsl⟩ : ∃ n : Nat, (if (4000 : Int) < t.length then (4000 : Int) else t.length) = (n : Int) ∧ n ≤ t.length ∧ (n : Int) ≤ t.length ∧ (t.take n).length ≤ 4000 := by
    by_cases h : 4000 < t.length
    · exact ⟨4000, by rw [if_pos (by omega)]; rfl, by omega, by omega, by simp; omega⟩
    · exact ⟨t.length, by rw [if_neg (by omega)], by omega, by omega, by simp; omega⟩
  have h1 := read_run (t.take n) hsl
  have h2 := rread_run (t.take n) hsl
  have hl := readP_len (t.take n) hsl
  have hs := csame_run (readP (t.take n)).1 (readP (t.take n)).1 (readP (t.take n)).2.1 (readP (t.take n)).2.2.1 (readP (t.take n)).2.1 (readP (t.take n)).2.2.1 (by omega)
  generalize readP (t.take n) = P at *
  obtain ⟨ins, v, c, e⟩ := P
  simp at h1 h2 hs
  rw [run11 (by simp)]
  simp [Tryd.f11, drwK_end, awake31_run, hn1, hn2, hn3, h1, h2, hs]
end Go.Am
end
section
namespace Go.Am
open Go Go.ChangeShapes Go.WideShapes Go.RowKit

def tiles (P : Program) (ok : TypeId → Bool) : List Field → Nat → Nat → Bool
  | [], o, tot => o == tot
  | f :: r, o, tot => f.offset == o && ok f.type && tiles P ok r (o + P.cellsOf f.type) tot
/-- Types whose readings are data: no pointer in them. -/
def plainT (P : Program) : Nat → TypeId → Bool
  | 0, _ => false
  | n + 1, t => match P.underlying t with
    | some .bool | some (.int _) | some .string => P.cellsOf t == 1
    | some (.slice e) => P.cellsOf t == 1 && plainT P n e && decide (1 ≤ P.cellsOf e)
    | some (.struct fs) => tiles P (plainT P n) fs.toList 0 (P.cellsOf t)
    | _ => false
def typed (P : Program) : Nat → TypeId → D → Prop
  | 0, _, _ => False
  | n + 1, t, d => match P.underlying t with
    | some .bool => ∃ b, d = .bool b
    | some (.int k) => ∃ z, d = .int k z ∧ (Lit.int k z).wf = true
    | some .string => ∃ s, d = .str s ∧ s.length ≤ maxLen
    | some (.slice e) => ∃ xs, d = .list xs ∧ xs.length ≤ maxLen ∧ ∀ x ∈ xs, typed P n e x
    | some (.struct fs) => ∃ ys : List D, d = .agg (ys.flatMap D.cells) ∧ ys.length = fs.size ∧ ∀ (i : Nat) (f : Field) (y : D), fs[i]? = some f → ys[i]? = some y → typed P n f.type y
    | _ => False

def Reads (w : World) (F : Nat → Prop) (d : D) (cs : List Value) : Prop :=
  d.cells.length = cs.length ∧ (∀ u ∈ cs, cell1 u = true) ∧ ∀ (i : Nat) c u, d.cells[i]? = some c → cs[i]? = some u → DRel w F c u ∧ c.flat = true

theorem Reads.one {w F d v} (h : DRel w F d v) (hf : d.flat = true) (hc : d.cells = [d]) : Reads w F d [v] := by
  refine ⟨by rw [hc]; rfl, fun u hu => ?_, fun i c u h1 h2 => ?_⟩
  · simp at hu; subst hu; exact h.one hf
  · rw [hc] at h1
    cases i with
    | zero => simp at h1 h2; subst h1; subst h2; exact ⟨h, hf⟩
    | succ i => simp at h1
/-- A value with these cells, and what it is. -/
def shaped (d : D) (cs : List Value) : Value :=
  match d with
  | .agg _ => .agg cs.toArray
  | _ => cs.headD undef
theorem Reads.rel {w F d cs} (h : Reads w F d cs) : DRel w F d (shaped d cs) := by
  obtain ⟨h1, h2, h3⟩ := h
  have key : d.flat = true → d.cells = [d] → DRel w F d (cs.headD undef) := by
    intro hf hc
    rw [hc] at h1 h3
    match cs, h1 with
    | [u], _ => exact (h3 0 d u rfl rfl).1
  cases d with
  | agg ds => exact DRel.ofCells h1 h2 (fun i c v hc hv => (h3 i c v hc hv).1)
  | _ => exact key rfl rfl
theorem Reads.shaped_cells {w F d cs} (h : Reads w F d cs) : (shaped d cs).cells.toList = cs := by
  obtain ⟨h1, h2, h3⟩ := h
  have key : d.cells = [d] → (cs.headD undef).cells.toList = cs := by
    intro hc
    rw [hc] at h1
    match cs, h1, h2 with
    | [u], _, h2 => simp only [List.headD]; rw [cells_of_cell1 (h2 u (by simp))]
  cases d with
  | agg ds => simp [shaped, Value.cells]
  | _ => exact key rfl

theorem cells?_get {w : World} {base : Nat} {a : Addr} {n : Nat} {cs : List Value} (h : w.cells? base a n = some cs) : cs.length = n ∧ ∀ j, j < n → w.cell? (a.add j) = cs[j]? := by
  unfold World.cells? at h
  split at h
  · exact ⟨by simpa using mapM_some_length h, fun j hj => mapM_some_get h j j (by simp [hj])⟩
  · cases h
theorem add_add {b off n j : Nat} : (Addr.add (Addr.add ⟨b, off, none⟩ n) j) = ⟨b, off + n + j, none⟩ := by
  unfold Addr.add
  split <;> split <;> simp_all
theorem cell?_lt {w : World} {a : Addr} {c : Value} (h : w.cell? a = some c) : a.block < w.heap.size ∧ a.spot = none := by
  unfold World.cell? at h
  split at h
  · rename_i hh
    refine ⟨(Array.getElem?_eq_some_iff.1 hh).1, ?_⟩
    split at h
    · cases h
    · rename_i hs; simpa using hs
  · cases h

/-- The fields of a struct, laid end to end. -/
theorem reads_fields {P : Program} {w : World} {F : Nat → Prop} {n : Nat} {cs : List Value} {ok : TypeId → Bool} : ∀ (fs : List Field) (o : Nat), tiles P ok fs o cs.length = true →
    (∀ f ∈ fs, ok f.type = true → ∃ d, typed P n f.type d ∧ Reads w F d ((cs.drop f.offset).take (P.cellsOf f.type)) ∧ d.cells.length = P.cellsOf f.type) →
    ∃ ys : List D, ys.length = fs.length ∧ (∀ (i : Nat) (f : Field) (y : D), fs[i]? = some f → ys[i]? = some y → typed P n f.type y) ∧ o ≤ cs.length ∧ Reads w F (.agg (ys.flatMap D.cells)) (cs.drop o)
  | [], o, ht, _ => by
    simp only [tiles, beq_iff_eq] at ht
    subst ht
    exact ⟨[], rfl, fun i f y hf => by simp at hf, Nat.le_refl _, by simp [D.cells], by simp, fun i c u h1 => by simp [D.cells] at h1⟩
  | f :: r, o, ht, hf => by
    simp only [tiles, Bool.and_eq_true, beq_iff_eq] at ht
    obtain ⟨⟨rfl, hok⟩, hr⟩ := ht
    obtain ⟨ys, h1, h2, h3, h4⟩ := reads_fields r _ hr (fun f' h' => hf f' (by simp [h']))
    obtain ⟨d, hd, hR, hl⟩ := hf f (by simp) hok
    refine ⟨d :: ys, by simp [h1], fun i f' y hi hy => ?_, by omega, ?_⟩
    · cases i with
      | zero => simp at hi hy; subst hi; subst hy; exact hd
      | succ i => simp at hi hy; exact h2 i f' y hi hy
    · have hsplit : cs.drop f.offset = (cs.drop f.offset).take (P.cellsOf f.type) ++ cs.drop (f.offset + P.cellsOf f.type) := by
        rw [← List.drop_drop, List.take_append_drop]
      obtain ⟨a1, a2, a3⟩ := hR
      obtain ⟨b1, b2, b3⟩ := h4
      have hcells : (D.agg ((d :: ys).flatMap D.cells)).cells = d.cells ++ (D.agg (ys.flatMap D.cells)).cells := by simp [D.cells]
      rw [hsplit]
      unfold Reads
      rw [hcells]
      refine ⟨by simp only [List.length_append, a1, b1], fun u hu => ?_, fun i c u hc hu => ?_⟩
      · rcases List.mem_append.1 hu with hu | hu
        · exact a2 u hu
        · exact b2 u hu
      · by_cases hi : i < d.cells.length
        · rw [List.getElem?_append_left hi] at hc
          rw [List.getElem?_append_left (by omega)] at hu
          exact a3 i c u hc hu
        · rw [List.getElem?_append_right (by omega)] at hc
          rw [List.getElem?_append_right (by omega)] at hu
          rw [← a1] at hu
          exact b3 _ c u hc hu

section
variable {H : Type} {enc : TypeId × Value → H} {P : Program} {w : World} {base : Nat} {sp : Nat → Bool} {held : Bool}

theorem read_data : ∀ (n : Nat) (m : Nat) (t : TypeId) (cs : List Value) (x : DataW H × List MemPlace), plainT P n t = true → DataW.trod enc P w base sp held m t cs = some x →
    ∃ d, typed P n t d ∧ Reads w (fun _ => False) d cs ∧ d.cells.length = P.cellsOf t
  | 0, _, _, _, _, hp, _ => by cases hp
  | n + 1, m, t, cs, x, hp, hx => by
    simp only [plainT] at hp
    simp only [typed]
    cases ht : P.underlying t with
    | none => rw [ht] at hp; cases hp
    | some u =>
      rw [ht] at hp
      cases u with
      | bool =>
        obtain ⟨b, rfl, _⟩ := DataW.trod_bool ht hx
        exact ⟨.bool b, ⟨b, rfl⟩, Reads.one (.bool b) rfl rfl, by simp at hp; simp [D.cells, hp]⟩
      | int k =>
        obtain ⟨z, rfl, _, hw⟩ := DataW.trod_int ht hx
        exact ⟨.int k z, ⟨z, rfl, hw⟩, Reads.one (.int k z) rfl rfl, by simp at hp; simp [D.cells, hp]⟩
      | string =>
        obtain ⟨s, rfl, _, hw⟩ := DataW.trod_string ht hx
        exact ⟨.str s.data.toList, ⟨_, rfl, by simpa using hw⟩, Reads.one (.str s _ rfl) rfl rfl, by simp at hp; simp [D.cells, hp]⟩
      | slice e =>
        simp only [Bool.and_eq_true, beq_iff_eq, decide_eq_true_eq] at hp
        obtain ⟨⟨h1, h2⟩, h3⟩ := hp
        rcases DataW.trod_slice ht hx with ⟨rfl, _⟩ | ⟨a, len, cap, elems, rest, m', rfl, rfl, _, hb, hlc, hcm, hel, hget, _⟩
        · exact ⟨.list [], ⟨[], rfl, by simp, by simp⟩, Reads.one (.nil none 0 (fun _ => rfl)) rfl rfl, by simp [D.cells, h1]⟩
        · have hq : ∀ i, ∃ p : D × Value, i < len → typed P n e p.1 ∧ DRel w (fun _ => False) p.1 p.2 ∧ p.1.size = P.cellsOf e ∧ a.block < w.heap.size ∧ a.spot = none ∧
              ∀ j c, p.2.cells[j]? = some c → w.cell? ⟨a.block, a.off + i * P.cellsOf e + j, none⟩ = some c := by
            intro i
            by_cases hi : i < len
            · have h4 := hget i hi
              have h5 : ∃ y, elems[i]? = some y := ⟨elems[i]'(by omega), by simp [show i < elems.length by omega]⟩
              obtain ⟨y, hy⟩ := h5
              rw [hy] at h4
              simp only [Option.bind_eq_some_iff] at h4
              obtain ⟨cs', hcs, hy'⟩ := h4
              obtain ⟨d, hd, hR, hl⟩ := read_data n m' e cs' y h2 hy'
              obtain ⟨g1, g2⟩ := cells?_get hcs
              have g3 : a.block < w.heap.size ∧ a.spot = none := by
                have h0 : ∃ i0, i0 < len ∧ i0 = 0 := ⟨0, by omega, rfl⟩
                have h40 := hget 0 (by omega)
                have h50 : ∃ y, elems[0]? = some y := ⟨elems[0]'(by omega), by simp [show 0 < elems.length by omega]⟩
                obtain ⟨y0, hy0⟩ := h50
                rw [hy0] at h40
                simp only [Option.bind_eq_some_iff] at h40
                obtain ⟨cs0, hcs0, _⟩ := h40
                obtain ⟨g01, g02⟩ := cells?_get hcs0
                have h6 := g02 0 (by omega)
                have h7 : ∃ c, cs0[0]? = some c := ⟨cs0[0]'(by omega), by simp [show 0 < cs0.length by omega]⟩
                obtain ⟨c, hc⟩ := h7
                rw [hc] at h6
                have h8 := cell?_lt h6
                simpa [Addr.add] using h8
              refine ⟨⟨d, shaped d cs'⟩, fun _ => ⟨hd, hR.rel, by rw [← D.cells_length]; exact hl, g3.1, g3.2, fun j c hj => ?_⟩⟩
              have h6 := hR.shaped_cells
              have h7 : cs'[j]? = some c := by rw [← h6]; simpa using hj
              have hjl : j < P.cellsOf e := by
                have := (List.getElem?_eq_some_iff.1 h7).1
                omega
              have h8 := g2 j hjl
              obtain ⟨ab, ao, ae⟩ := a
              obtain rfl : ae = none := g3.2
              rw [add_add] at h8
              rw [h8]; exact h7
            · exact ⟨⟨.bool false, undef⟩, fun h => absurd h hi⟩
          obtain ⟨f, hf⟩ := Classical.axiomOfChoice hq
          refine ⟨.list ((List.range len).map fun i => (f i).1), ⟨_, rfl, by simp; omega, fun x hx => ?_⟩, Reads.one ?_ rfl rfl, by simp [D.cells, h1]⟩
          · simp only [List.mem_map, List.mem_range] at hx
            obtain ⟨i, hi, rfl⟩ := hx
            exact (hf i hi).1
          · by_cases hl : len = 0
            · subst hl
              exact .nil (some a) cap (fun h => by cases h)
            · have h0 := hf 0 (by omega)
              obtain ⟨ab, ao, ae⟩ := a
              obtain rfl : ae = none := h0.2.2.2.2.1
              have hlen : ((List.range len).map fun i => (f i).1).length = len := by simp
              have := DRel.list (w := w) (F := fun _ => False) ((List.range len).map fun i => (f i).1) ab ao cap (P.cellsOf e) (fun i => (f i).2) (by rw [hlen]; exact hlc) h0.2.2.2.1 (fun h => h)
                (fun d hd => by
                  simp only [List.mem_map, List.mem_range] at hd
                  obtain ⟨i, hi, rfl⟩ := hd
                  exact (hf i hi).2.2.1)
                (fun i d hd => by
                  simp only [List.getElem?_map, Option.map_eq_some_iff] at hd
                  obtain ⟨i', hi', rfl⟩ := hd
                  have := List.getElem?_eq_some_iff.1 hi'
                  obtain ⟨hi2, hi3⟩ := this
                  simp at hi2 hi3
                  subst hi3
                  exact (hf _ hi2).2.1)
                (fun i j c hi hj => by
                  rw [hlen] at hi
                  exact (hf i hi).2.2.2.2.2 j c hj)
              rw [hlen] at this
              exact this
      | struct fs =>
        obtain ⟨xs, m', rfl, _, hl, hxs, hget⟩ := DataW.trod_struct ht hx
        simp only at hp
        rw [← hl] at hp
        obtain ⟨ys, h1, h2, _, h4⟩ := reads_fields (n := n) (w := w) (F := fun _ => False) fs.toList 0 hp (fun f hf hok => by
          obtain ⟨i, hi, he⟩ := List.mem_iff_getElem.1 hf
          have h5 := hget i f (by simp at hi he; simp [hi, he])
          have h6 : ∃ y, xs[i]? = some y := ⟨xs[i]'(by simp at hi; omega), by simp [show i < xs.length by simp at hi; omega]⟩
          obtain ⟨y, hy⟩ := h6
          rw [hy] at h5
          exact read_data n m' f.type _ y hok h5)
        refine ⟨.agg (ys.flatMap D.cells), ⟨ys, rfl, by simpa using h1, fun i f y hi hy => h2 i f y (by simpa using hi) hy⟩, by simpa using h4, ?_⟩
        have := h4.1
        rw [this]; simpa using hl
      | _ => cases hp
end
end Go.Am
end
section
namespace Go.Am
open Go Go.ChangeShapes Go.WideShapes Go.RowKit

section
variable {H : Type} {enc : TypeId × Value → H} {P : Program} {w : World} {base : Nat} {sp : Nat → Bool} {held : Bool}

theorem arg_rel {n : Nat} {t : TypeId} {v : Value} {d : DataW H} {ps : List MemPlace} {b0 : Nat} (hp : plainT P n t = true) (hv : Value.okWide P w .any b0 t v) (h : DataW.Trod enc P w base sp held t v d ps) :
    ∃ x, typed P n t x ∧ DRel w (fun _ => False) x v := by
  obtain ⟨m, hm⟩ := h
  obtain ⟨x, hx, hR, _⟩ := read_data n m t _ _ hp hm
  refine ⟨x, hx, ?_⟩
  have h1 := hR.rel
  cases n with
  | zero => cases hp
  | succ n =>
    simp only [plainT] at hp
    simp only [typed] at hx
    cases ht : P.underlying t with
    | none => rw [ht] at hp; cases hp
    | some u =>
      rw [ht] at hp hx
      cases u with
      | bool => obtain ⟨b, rfl⟩ := okWide_bool ht hv; obtain ⟨y, rfl⟩ := hx; exact h1
      | int k => obtain ⟨b, rfl⟩ := okWide_int ht hv; obtain ⟨y, rfl, _⟩ := hx; exact h1
      | string => obtain ⟨b, rfl⟩ := okWide_string ht hv; obtain ⟨y, rfl, _⟩ := hx; exact h1
      | slice e => obtain ⟨a, len, cap, rfl⟩ := okWide_slice ht hv; obtain ⟨y, rfl, _⟩ := hx; exact h1
      | struct fs =>
        simp only [Value.okWide, ht] at hv
        obtain ⟨cs, rfl, _⟩ := hv
        obtain ⟨ys, rfl, _⟩ := hx
        simpa [shaped, Value.cells] using h1
      | _ => cases hp

theorem args_rel {n b0 : Nat} : ∀ {ts : List TypeId} {vs : List Value} {ds : List (DataW H)} {ps : List MemPlace}, DataW.TrodAll enc P w base sp held ts vs ds ps → (∀ t ∈ ts, plainT P n t = true) →
    (∀ (j : Nat) t v, ts[j]? = some t → vs[j]? = some v → Value.okWide P w .any b0 t v) →
    ∃ xs : List D, xs.length = vs.length ∧ xs.length = ts.length ∧ (∀ (i : Nat) t x, ts[i]? = some t → xs[i]? = some x → typed P n t x) ∧ ∀ (i : Nat) x v, xs[i]? = some x → vs[i]? = some v → DRel w (fun _ => False) x v
  | [], [], [], _, _, _, _ => ⟨[], rfl, rfl, fun i t x h => by simp at h, fun i x v h => by simp at h⟩
  | t :: ts, v :: vs, d :: ds, ps, h, hp, hv => by
    obtain ⟨p, q, h1, h2, _⟩ := h
    obtain ⟨x, hx, hr⟩ := arg_rel (hp t (by simp)) (hv 0 t v rfl rfl) h1
    obtain ⟨xs, g1, g2, g3, g4⟩ := args_rel h2 (fun t ht => hp t (by simp [ht])) (fun j t v h3 h4 => hv (j + 1) t v (by simpa using h3) (by simpa using h4))
    refine ⟨x :: xs, by simp [g1], by simp [g2], fun i t' x' h3 h4 => ?_, fun i x' v' h3 h4 => ?_⟩
    · cases i with
      | zero => simp at h3 h4; subst h3; subst h4; exact hx
      | succ i => simp at h3 h4; exact g3 i t' x' h3 h4
    · cases i with
      | zero => simp at h3 h4; subst h3; subst h4; exact hr
      | succ i => simp at h3 h4; exact g4 i x' v' h3 h4
  | [], _ :: _, _, _, h, _, _ => by cases h
  | [], [], _ :: _, _, h, _, _ => by cases h
  | _ :: _, [], _, _, h, _, _ => by cases h
  | _ :: _, _ :: _, [], _, h, _, _ => by cases h

theorem trodAll_stays (hl : laidOutB P = true) {W W' : World} (hb : Below W.heap.size W W') : ∀ {ts : List TypeId} {vs : List Value} {ds : List (DataW H)} {ps : List MemPlace}, DataW.TrodAll enc P W 0 (fun _ => true) true ts vs ds ps →
    (∀ t ∈ ts, P.readableRec t = true ∧ t < P.types.size) → (∀ x ∈ ps, x.block < W.heap.size) → DataW.TrodAll enc P W' 0 (fun b => decide (b < W.heap.size)) true ts vs ds ps
  | [], [], [], _, h, _, _ => h
  | t :: ts, v :: vs, d :: ds, ps, h, hp, hlt => by
    obtain ⟨p, q, h1, h2, rfl⟩ := h
    exact ⟨p, q, Below.trod hl (hp t (by simp)).1 (hp t (by simp)).2 h1 hb (fun x hx => hlt x (by simp [hx])), trodAll_stays hl hb h2 (fun t ht => hp t (by simp [ht])) (fun x hx => hlt x (by simp [hx])), rfl⟩
  | [], _ :: _, _, _, h, _, _ => by cases h
  | [], [], _ :: _, _, h, _, _ => by cases h
  | _ :: _, [], _, _, h, _, _ => by cases h
  | _ :: _, _ :: _, [], _, h, _, _ => by cases h
end

section
variable {P : Program} {n : Nat} {t : TypeId} {d : D}
def fieldsT (P : Program) (n : Nat) : List Field → List D → Prop
  | [], ds => ds = []
  | f :: r, ds => ∃ y ds', typed P n f.type y ∧ fieldsT P n r ds' ∧ ds = y.cells ++ ds'
theorem fieldsT_of : ∀ {fs : List Field} {ys : List D}, ys.length = fs.length → (∀ (i : Nat) (f : Field) (y : D), fs[i]? = some f → ys[i]? = some y → typed P n f.type y) → fieldsT P n fs (ys.flatMap D.cells)
  | [], [], _, _ => rfl
  | f :: fs, y :: ys, h, hf => ⟨y, ys.flatMap D.cells, hf 0 f y rfl rfl, fieldsT_of (by simpa using h) (fun i f y h1 h2 => hf (i + 1) f y (by simpa using h1) (by simpa using h2)), by simp⟩
theorem typed_int {k : IntKind} (ht : P.underlying t = some (.int k)) (h : typed P (n + 1) t d) : ∃ z, d = .int k z ∧ (Lit.int k z).wf = true := by simpa only [typed, ht] using h
theorem typed_bool (ht : P.underlying t = some .bool) (h : typed P (n + 1) t d) : ∃ b, d = .bool b := by simpa only [typed, ht] using h
theorem typed_string (ht : P.underlying t = some .string) (h : typed P (n + 1) t d) : ∃ s, d = .str s ∧ s.length ≤ maxLen := by simpa only [typed, ht] using h
theorem typed_slice {e : TypeId} (ht : P.underlying t = some (.slice e)) (h : typed P (n + 1) t d) : ∃ xs, d = .list xs ∧ xs.length ≤ maxLen ∧ ∀ x ∈ xs, typed P n e x := by simpa only [typed, ht] using h
theorem typed_struct {fs : Array Field} (ht : P.underlying t = some (.struct fs)) (h : typed P (n + 1) t d) : ∃ ds, d = .agg ds ∧ fieldsT P n fs.toList ds := by
  simp only [typed, ht] at h
  obtain ⟨ys, rfl, h1, h2⟩ := h
  exact ⟨_, rfl, fieldsT_of (by simpa using h1) (fun i f y h3 h4 => h2 i f y (by simpa using h3) h4)⟩
end
def ctxB (X : Ctx) : Bool :=
  (List.range X.P.funcs.size).all (fun g => match X.P.funcs[g]? with | some fn => fn.name != "runtime.NumGoroutine" && (match fn.body with | some c => codeDst X g fn.ntmps c | none => true) | none => true) && X.P.follows .mixedOrders
def OrcOk (X : Ctx) (g : FuncId) (h : List D → Option D) : Prop := callable X.P g = true ∧ ∀ (ds : List D) (d : D), h ds = some d → ∀ (F : Nat → Prop) (w : World) (vs : Array Value), GlobRel w F X.gl → ds.length = vs.size →
    (∀ (i : Nat) x v, ds[i]? = some x → vs[i]? = some v → DRel w F x v) → Calls X.P g vs w fun e w' => ∃ v, e = .returned v ∧ Below w.heap.size w w' ∧ DRel w' F d v
theorem CtxOk.of {X : Ctx} (h : ctxB X = true) (ho : ∀ g h, X.orc g = some h → OrcOk X g h) : CtxOk X := by
  simp only [ctxB, Bool.and_eq_true, List.all_eq_true, List.mem_range] at h
  have key : ∀ (g : FuncId) (fn : Func), X.P.funcs[g]? = some fn → fn.name ≠ "runtime.NumGoroutine" ∧ (match fn.body with | some c => codeDst X g fn.ntmps c | none => true) = true := by
    intro g fn hg
    have h1 := h.1 g (Array.getElem?_eq_some_iff.1 hg).1
    rw [hg] at h1
    simpa using h1
  refine ⟨fun g fn hg => (key g fn hg).1, fun g fn c hg hb => ?_, h.2, ho⟩
  have := (key g fn hg).2
  rw [hb] at this
  exact this

theorem list_map_of {α : Type} {f : α → D} : ∀ {xs : List D}, (∀ x ∈ xs, ∃ r, x = f r) → ∃ rs : List α, xs = rs.map f
  | [], _ => ⟨[], rfl⟩
  | x :: xs, h => by
    obtain ⟨r, rfl⟩ := h x (by simp)
    obtain ⟨rs, rfl⟩ := list_map_of (xs := xs) (fun y hy => h y (by simp [hy]))
    exact ⟨r :: rs, rfl⟩

/-- A call at data alone: it ends as the evaluator says; nothing old has turned. -/
theorem law_calls {X : Ctx} (hX : CtxOk X) {f : FuncId} {b : Bool} {xs : List D} (hc : callT X f (xs.map .d) [] = some (.ret (.d (.bool b)), [])) {W : World} {args : Array Value} (hl : xs.length = args.size)
    (hr : ∀ (i : Nat) x v, xs[i]? = some x → args[i]? = some v → DRel W (fun _ => False) x v) (hg : GlobRel W (fun _ => False) X.gl) :
    Calls X.P f args W fun e W' => e = .returned (.bool b) ∧ Below W.heap.size W W' := by
  have h := (callT_ok hX f _ _ _ _ hc).2
  have hF : ∀ b, Fo (fun _ => False) (fun _ => none) (inM 0 []) b → False := by
    intro b hb
    rcases hb with hb | ⟨e, he, _⟩
    · exact hb
    · simp [inM] at he
  refine (h (fun _ => none) (fun _ => False) W args ⟨by simp [inM], fun k L hL => by simp at hL, fun e he => by simp [inM] at he, fun e he => by simp [inM] at he, fun b ⟨e, he, _⟩ => by simp [inM] at he, fun b hb => hb.elim⟩
    (hg.mono (fun _ _ _ => rfl) (Nat.le_refl _) (fun b _ hb => hF b hb)) (by simpa using hl) (fun i x v hx hv => ?_)).mono ?_
  · simp only [List.getElem?_map, Option.map_eq_some_iff] at hx
    obtain ⟨d, hd, rfl⟩ := hx
    exact .d d v ((hr i d v hd hv).mono (fun _ _ _ => rfl) (Nat.le_refl _) (fun b _ hb => hF b hb))
  · rintro e W' ⟨φ', m', out, ⟨rfl, rfl⟩, hm, hk, ho⟩
    refine ⟨?_, hk.os, hk.tape, hk.output, hk.size, fun k hk' => hk.old k hk' (fun ⟨e, he, _⟩ => by simp [inM] at he)⟩
    cases e with
    | returned v =>
      simp only [OutRel] at ho
      cases ho with
      | d x v h => cases h; rfl
    | _ => exact ho.elim

section
variable {H : Type} {enc : TypeId × Value → H}
/-- The contract of a law's row. -/
theorem law_contract {X : Ctx} (hX : CtxOk X) {f : FuncId} {fn : Func} {s : ChangeSpec} {apart fresh handsOn : Bool} {n : Nat} {tb : TypeId}
    (hlaid : laidOutB X.P = true) (hts : (fn.params.toList.all fun t => X.P.readableRec t && decide (t < X.P.types.size) && plainT X.P n t) = true)
    (hres : fn.resultTypes = #[tb]) (htb : X.P.underlying tb = some .bool) (hvars : s.vars = [])
    (hspec : ∀ ds : List (DataW H), ds.length = fn.params.size → s.fn H ds = { results := [.lit (.bool true)], args := ds })
    {W : World} {base : Nat} {args : Array Value} {ds gs : List (DataW H)} {before : List MemPlace}
    (hval : ∀ (j : Nat) t v, fn.params[j]? = some t → args[j]? = some v → Value.okWide X.P W .any base t v)
    (hW : DataW.Whole enc X.P fn.params.toList s.vars apart W args.toList ds gs before) (hg : GlobRel W (fun _ => False) X.gl)
    (hrun : ∀ xs : List D, xs.length = fn.params.size → (∀ (i : Nat) t x, fn.params[i]? = some t → xs[i]? = some x → typed X.P n t x) → callT X f (xs.map .d) [] = some (.ret (.d (.bool true)), [])) :
    Calls X.P f args W fun e W' => ∃ v, e = .returned v ∧ s.post enc X.P fn apart fresh handsOn false W args v W' := by
  have hW' := hW
  obtain ⟨p, q, hA, hV, rfl, hfz, hnd⟩ := hW
  rw [hvars] at hV
  obtain ⟨rfl, rfl⟩ : gs = [] ∧ q = [] := by
    cases gs with
    | nil => exact ⟨rfl, hV⟩
    | cons g r => exact absurd hV (by intro h; cases h)
  simp only [List.all_eq_true, Bool.and_eq_true, decide_eq_true_eq] at hts
  obtain ⟨xs, h1, h2, h3, h4⟩ := args_rel (n := n) (b0 := base) hA (fun t ht => (hts t ht).2) (fun j t v ht hv => hval j t v (by simpa using ht) (by simpa using hv))
  have hlen := trodAll_length hA
  refine (law_calls hX (hrun xs (by simpa using h2) (fun i t x ht hx => h3 i t x (by simpa using ht) hx)) (by simpa using h1) (fun i x v hx hv => h4 i x v hx (by simpa using hv)) hg).mono ?_
  rintro e W' ⟨rfl, hb⟩
  have hlt : ∀ x ∈ p, x.block < W.heap.size := fun x hx => by simpa using hW'.lt x (by simpa using hx)
  have hs : s.fn H (ds ++ []) = { results := [.lit (.bool true)], args := ds } := by
    rw [List.append_nil]; exact hspec ds (by simpa using hlen.2)
  refine ⟨_, rfl, ds, [], p ++ [], [], p, [], hW', ?_, ?_, ?_, hb.frame _, fun h => by cases h⟩
  · rw [hs, hres]
    exact trodAll_mk1 (shut_bool htb true)
  · rw [hs]
    exact trodAll_stays hlaid hb hA (fun t ht => (hts t ht).1) hlt
  · rw [hs, hvars]
    rfl
end
end Go.Am
end
section
namespace Go.Am
open Go
set_option maxRecDepth 20000
def rhoF : Nat → Nat
  | 99 => 81
  | 143 => 83
  | 206 => 124
  | 217 => 125
  | 219 => 126
  | 224 => 148
  | 225 => 147
  | 266 => 146
  | 267 => 149
  | 314 => 167
  | _ => 0
def rhoT : Nat → Nat
  | 3 => 3
  | 4 => 4
  | 5 => 5
  | 9 => 9
  | 46 => 148
  | 51 => 175
  | 146 => 219
  | _ => 0
def rhoG : Nat → Nat
  | 1 => 2
  | _ => 0
def rho : Go.Shelf.Ren := ⟨rhoF, rhoT, rhoG⟩
theorem lays143 : Go.Proofs.Lays.n143 Go.Proofs.Tryd.prog rho where
  mixed := by kernel_rfl
  f143 := by kernel_rfl
  f217 := by kernel_rfl
  f219 := by kernel_rfl
  f224 := by kernel_rfl
  f225 := by kernel_rfl
  f266 := by kernel_rfl
  f267 := by kernel_rfl
  f314 := by kernel_rfl
  t3 := by kernel_rfl
  a3 := by intro w; kernel_rfl
  z3 := by intro w; kernel_rfl
  v3 := by intro w; kernel_rfl
  t4 := by kernel_rfl
  a4 := by intro w; kernel_rfl
  z4 := by intro w; kernel_rfl
  v4 := by intro w; kernel_rfl
  t5 := by kernel_rfl
  a5 := by intro w; kernel_rfl
  z5 := by intro w; kernel_rfl
  v5 := by intro w; kernel_rfl
  t9 := by kernel_rfl
  a9 := by intro w; kernel_rfl
  z9 := by intro w; kernel_rfl
  v9 := by intro w; kernel_rfl
  t46 := by kernel_rfl
  a46 := by intro w; kernel_rfl
  z46 := by intro w; kernel_rfl
  v46 := by intro w; kernel_rfl
  t51 := by kernel_rfl
  a51 := by intro w; kernel_rfl
  z51 := by intro w; kernel_rfl
  v51 := by intro w; kernel_rfl
  t146 := by kernel_rfl
  a146 := by intro w; kernel_rfl
  z146 := by intro w; kernel_rfl
  v146 := by intro w; kernel_rfl
  g1 := by kernel_rfl
theorem lays217 : Go.Proofs.Lays.n217 Go.Proofs.Tryd.prog rho where
  mixed := by kernel_rfl
  f217 := by kernel_rfl
  f266 := by kernel_rfl
  t3 := by kernel_rfl
  a3 := by intro w; kernel_rfl
  z3 := by intro w; kernel_rfl
  v3 := by intro w; kernel_rfl
  t5 := by kernel_rfl
  a5 := by intro w; kernel_rfl
  z5 := by intro w; kernel_rfl
  v5 := by intro w; kernel_rfl
  t9 := by kernel_rfl
  a9 := by intro w; kernel_rfl
  z9 := by intro w; kernel_rfl
  v9 := by intro w; kernel_rfl
theorem lays99 : Go.Proofs.Lays.n99 Go.Proofs.Tryd.prog rho where
  mixed := by kernel_rfl
  f99 := by kernel_rfl
  f206 := by kernel_rfl
  t3 := by kernel_rfl
  a3 := by intro w; kernel_rfl
  z3 := by intro w; kernel_rfl
  v3 := by intro w; kernel_rfl
  t4 := by kernel_rfl
  a4 := by intro w; kernel_rfl
  z4 := by intro w; kernel_rfl
  v4 := by intro w; kernel_rfl
  t9 := by kernel_rfl
  a9 := by intro w; kernel_rfl
  z9 := by intro w; kernel_rfl
  v9 := by intro w; kernel_rfl
end Go.Am
end
section
namespace Go.Am
open Go Go.Proofs
variable [Inhabited Mx2]
set_option maxRecDepth 20000
theorem callable_of {P : Program} {g : FuncId} {fn : Func} (hf : P.funcs[g]? = some fn) (hb : fn.body.isSome = true) (hn : (fn.name == "runtime.NumGoroutine") = false) : callable P g = true := by
  unfold callable; rw [hf]; simp only [hb, hn]; rfl
theorem dstr_of {w F s v} (h : DRel w F (.str s) v) : ∃ b : ByteArray, v = .string b ∧ b.data.toList = s := by
  cases h with
  | str b s h => exact ⟨b, rfl, h⟩
theorem dint_of {w F k n v} (h : DRel w F (.int k n) v) : v = .int k n := by cases h; rfl
theorem two_args {ds : List D} {a b : D} {w F} {vs : Array Value} (hd : ds = [a, b]) (hl : ds.length = vs.size) (hr : ∀ (i : Nat) x v, ds[i]? = some x → vs[i]? = some v → DRel w F x v) :
    ∃ x y, vs = #[x, y] ∧ DRel w F a x ∧ DRel w F b y := by
  subst hd
  obtain ⟨l⟩ := vs
  match l, hl with
  | [x, y], _ => exact ⟨x, y, rfl, hr 0 a x rfl rfl, hr 1 b y rfl rfl⟩
theorem mx_cell {w : World} {F} (hg : GlobRel w F gl0) : ∃ m, w.cell? ⟨2, 0, none⟩ = some (.int .i64 m) := by
  obtain ⟨_, _, x', h1, h2⟩ := hg (2, .int .i64 (id (α := Int) (default : Mx2))) (by simp [gl0])
  generalize id (α := Int) (default : Mx2) = z at h1
  obtain rfl := dint_of h1
  exact ⟨z, h2 0 _ (by simp [Value.cells])⟩
theorem hp_ok : OrcOk ctx 81 hpO := by
  refine ⟨callable_of Tryd.func81 (by kernel_rfl) (by kernel_rfl), fun ds d hd F w vs hg hl hr => ?_⟩
  unfold hpO at hd
  split at hd
  · rename_i s p
    obtain ⟨x, y, rfl, h1, h2⟩ := two_args rfl hl hr
    obtain ⟨a, rfl, rfl⟩ := dstr_of h1
    obtain ⟨b, rfl, rfl⟩ := dstr_of h2
    refine (Any.strings_HasPrefix lays99 a b w).mono ?_
    rintro e w' ⟨rfl, rfl⟩
    cases hd
    exact ⟨_, rfl, Go.RowKit.Below.refl _ _, .bool _⟩
  · cases hd
theorem ib_ok : OrcOk ctx 125 ibO := by
  refine ⟨callable_of Tryd.func125 (by kernel_rfl) (by kernel_rfl), fun ds d hd F w vs hg hl hr => ?_⟩
  unfold ibO at hd
  split at hd
  · rename_i s p
    obtain ⟨x, y, rfl, h1, h2⟩ := two_args rfl hl hr
    obtain ⟨a, rfl, rfl⟩ := dstr_of h1
    obtain rfl := dint_of h2
    refine (Any.stringslite_IndexByte lays217 a _ w).mono ?_
    rintro e w' ⟨rfl, rfl⟩
    cases hd
    exact ⟨_, rfl, Go.RowKit.Below.refl _ _, .int _ _⟩
  · cases hd
theorem idx_ok : OrcOk ctx 83 idxO := by
  refine ⟨callable_of Tryd.func83 (by kernel_rfl) (by kernel_rfl), fun ds d hd F w vs hg hl hr => ?_⟩
  unfold idxO at hd
  split at hd
  · rename_i s p
    split at hd
    · rename_i hs
      obtain ⟨x, y, rfl, h1, h2⟩ := two_args rfl hl hr
      obtain ⟨a, rfl, rfl⟩ := dstr_of h1
      obtain ⟨b, rfl, rfl⟩ := dstr_of h2
      obtain ⟨m, hm⟩ := mx_cell hg
      refine (Any.strings_Index lays143 a b m w (by simpa using hs) hm).mono ?_
      rintro e w' ⟨rfl, rfl⟩
      cases hd
      exact ⟨_, rfl, Go.RowKit.Below.refl _ _, .int _ _⟩
    · cases hd
  · cases hd
theorem orcs_ok : ∀ g h, ctx.orc g = some h → OrcOk ctx g h := by
  intro g h hg
  have hg' : orc0 g = some h := hg
  unfold orc0 at hg'
  split at hg'
  all_goals first | (cases hg'; first | exact hp_ok | exact ib_ok | exact idx_ok) | cases hg'
end Go.Am
end
section
namespace Go.Am
open Go

theorem laid_mem {P : Program} {w : World} {n : String} {d : DataW Unit} : ∀ {l : List (String × DataW Unit)} {ps : List MemPlace}, DataW.LaidVars P w l ps → (n, d) ∈ l →
    ∃ g t cs fuel p, P.globalNamed n = some g ∧ (P.globals[g]?).map (·.type) = some t ∧ w.var? P n = some cs ∧ DataW.trod (fun _ => ()) P w 0 (fun _ => true) false fuel t cs.toList = some (d, p)
  | [], _, _, hm => by simp at hm
  | (n', d') :: r, ps, ⟨g, t, cs, fuel, p, q, h1, h2, h3, h4, h5, _⟩, hm => by
    rcases List.mem_cons.1 hm with hm | hm
    · cases hm
      exact ⟨g, t, cs, fuel, p, h1, h2, h3, h4⟩
    · exact laid_mem h5 hm

/-- An array of numbers, read. -/
theorem trod_ints {H : Type} {enc : TypeId × Value → H} {P : Program} {w : World} {base : Nat} {sp : Nat → Bool} {held : Bool} {fuel : Nat} {t e : TypeId} {n : Nat} {k : IntKind} {cs : List Value} {ds : List (DataW H)} {p : List MemPlace}
    (ha : P.underlying t = some (.array n e)) (he : P.underlying e = some (.int k)) (hc : P.cellsOf e = 1) (h : DataW.trod enc P w base sp held fuel t cs = some (.agg ds, p)) :
    ds.length = n ∧ ∀ i, i < n → ∃ z, cs[i]? = some (.int k z) ∧ ds[i]? = some (.lit (.int k z)) := by
  cases fuel with
  | zero => simp [DataW.trod] at h
  | succ m =>
    unfold DataW.trod at h
    rw [ha] at h
    simp only at h
    split at h
    · rename_i hl
      simp only [Option.map_eq_some_iff, Prod.mk.injEq, DataW.agg.injEq] at h
      obtain ⟨xs, hx, rfl, _⟩ := h
      have h1 : xs.length = n := by simpa using mapM_some_length hx
      refine ⟨by simpa using h1, fun i hi => ?_⟩
      have h2 := mapM_some_get hx i i (by simp [hi])
      have h3 : i < xs.length := by omega
      have h4 : xs[i]? = some xs[i] := by simp [h3]
      rw [h4, hc] at h2
      obtain ⟨z, h5, h6, _⟩ := DataW.trod_int he h2
      refine ⟨z, ?_, by simp [h4, h6]⟩
      have h7 := congrArg (·[0]?) h5
      simpa [List.getElem?_take, List.getElem?_drop] using h7
    · cases h

/-- A table of numbers that the row lists: its cells. -/
theorem glob_of_laid {P : Program} {W : World} {l : List (String × DataW Unit)} {name : String} {g : Nat} {t e : TypeId} {n : Nat} {k : IntKind} {zs : List Int}
    (hl : laidMet P l W) (hm : (name, DataW.agg (zs.map fun z => .lit (.int k z))) ∈ l) (hg : P.globalNamed name = some g) (ht : (P.globals[g]?).map (·.type) = some t)
    (ha : P.underlying t = some (.array n e)) (he : P.underlying e = some (.int k)) (hc : P.cellsOf e = 1) (hn : 0 < n) :
    g < W.heap.size ∧ ∃ x', DRel W (fun _ => False) (.agg (zs.map fun z => .int k z)) x' ∧ ∀ (i : Nat) (c : Value), x'.cells[i]? = some c → W.cell? ⟨g, i, none⟩ = some c := by
  obtain ⟨ps, hv, _⟩ := hl
  obtain ⟨g', t', cs, fuel, p, h1, h2, h3, h4⟩ := laid_mem hv hm
  obtain rfl := Option.some.inj (hg.symm.trans h1)
  obtain rfl := Option.some.inj (ht.symm.trans h2)
  obtain ⟨h5, h6⟩ := trod_ints ha he hc h4
  simp at h5
  have h7 : ∀ i z, zs[i]? = some z → W.cell? ⟨g, i, none⟩ = some (.int k z) := by
    intro i z hz
    have hi : i < n := by
      have := (List.getElem?_eq_some_iff.1 hz).1
      omega
    obtain ⟨z', h8, h9⟩ := h6 i hi
    simp [hz] at h9
    subst h9
    rw [World.var?_cell hg h3 i]
    simpa using h8
  refine ⟨?_, .agg (zs.map fun z => Value.int k z).toArray, ?_, ?_⟩
  · have hz : ∃ z, zs[0]? = some z := ⟨zs[0]'(by omega), by simp [show 0 < zs.length by omega]⟩
    obtain ⟨z, hz⟩ := hz
    exact (cell?_lt (h7 0 z hz)).1
  · refine DRel.ofCells (by simp) (fun v hv => ?_) (fun i c v hc' hv => ?_)
    · simp at hv
      obtain ⟨z, _, rfl⟩ := hv
      rfl
    · simp only [List.getElem?_map, Option.map_eq_some_iff] at hc' hv
      obtain ⟨z, hz, rfl⟩ := hc'
      obtain ⟨z', hz', rfl⟩ := hv
      rw [hz] at hz'
      cases hz'
      exact .int k z
  · intro i c hi
    simp [Value.cells] at hi
    obtain ⟨z, hz, rfl⟩ := hi
    exact h7 i z hz
end Go.Am
end
section
namespace Go.Am
open Go
variable {H : Type} {enc : TypeId × Value → H}
theorem handed_of {a : Assume} {C : Checked} {os : Os} {f : FuncId} {fn : Func} {s : ChangeSpec} {conds : List PathCond} {apart fresh handsOn again : Bool} {X : World → Array Value → Prop}
    (hX : ∀ (w w' : World) (args : Array Value), w.heap = w'.heap → X w args → X w' args)
    (own : ownKnob C.prog.godebug = none) (started : os.Started) (noInit : C.prog.inits.idxOf? f = none) (hfn : C.prog.funcs[f]? = some fn)
    (witness : ∃ (w : World) (tape : Tape) (i : Input), w.os = os ∧ (w.forCall tape i).Shaped C.prog ∧ i.vars = [] ∧ Input.okWide C.prog (w.forCall tape i) .any w.heap.size f i ∧
      ((s.pre enc C.prog fn conds apart (w.forCall tape i).memory i.args ∧ X (w.forCall tape i).memory i.args) ∧ sizedMet enc C.prog fn (OpenSpec.ofChange s) apart (w.forCall tape i).memory i.args) ∧ a.holds C.prog (lone (Frame.enter C.prog f i.args .normal) [] (w.forCall tape i)))
    (contract : ∀ (W : World) (base : Nat) (args : Array Value) (ds gs : List (DataW H)) (before : List MemPlace),
      (∀ (j : Nat) t v, fn.params[j]? = some t → args[j]? = some v → Value.okWide C.prog W .any base t v) →
      DataW.Whole enc C.prog fn.params.toList s.vars apart W args.toList ds gs before → X W args → W.ShapedOpen C.prog →
      Calls C.prog f args W fun e W' => ∃ v, e = .returned v ∧ s.post enc C.prog fn apart fresh handsOn again W args v W') :
    ReturnsInHanded a C os f .any (fun w args => (s.pre enc C.prog fn conds apart w args ∧ X w args) ∧ sizedMet enc C.prog fn (OpenSpec.ofChange s) apart w args) (s.post enc C.prog fn apart fresh handsOn again) := by
  refine returnsInHanded_of_calls own started noInit witness ?_
  intro w tape i _ hsh _ hok hpre _
  obtain ⟨_, _, _, fn', hfn', _, _, _, _, hval⟩ := hok
  have e : fn' = fn := Option.some.inj (hfn'.symm.trans hfn)
  subst e
  obtain ⟨⟨⟨ds, gs, before, hw, hc⟩, hx⟩, hz⟩ := hpre
  have hw' := DataW.Whole.of_heap (w' := w.forCall tape i) (by rfl) hw
  refine (contract (w.forCall tape i) w.heap.size i.args ds gs before hval hw' (hX _ _ _ (by rfl) hx) hsh).mono fun e W' ⟨v, he, hp⟩ => ?_
  subst he
  exact ChangeSpec.post_blind hp
end Go.Am
end

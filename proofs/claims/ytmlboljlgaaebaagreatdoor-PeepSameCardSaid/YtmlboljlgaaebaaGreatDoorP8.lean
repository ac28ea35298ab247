/-
  Texts of one proof, one behind the other.
-/
import Derived.Test.YtmlboljlgaaebaaGreatDoorP7
set_option linter.all false
section
namespace Go.Am
open Go Go.Proofs
set_option maxRecDepth 20000
def toA (out : List Bool) (n i : Nat) : List D := (List.range (n + 1)).map fun j => if j < i then D.int .i64 (tos out j) else .int .i64 0
theorem toA_succ (out : List Bool) (n i : Nat) : (toA out n i).set i (.int .i64 (tos out i)) = toA out n (i + 1) := by
  apply List.ext_getElem?
  intro j
  rw [List.getElem?_set]
  by_cases hj : j < n + 1
  · unfold toA
    rw [get_map_range _ _ _ hj, get_map_range _ _ _ hj]
    by_cases e : i = j
    · subst e; simp [hj]
    · rw [if_neg e]
      have : (j < i) ↔ (j < i + 1) := by omega
      simp [this]
  · have h1 : (toA out n i)[j]? = none := by unfold toA; simp; omega
    have h2 : (toA out n (i + 1))[j]? = none := by unfold toA; simp; omega
    rw [h1, h2]
    split
    · split
      · rename_i h3 h4; unfold toA at h4; simp at h4; omega
      · rfl
    · rfl
theorem toA_len (out : List Bool) (n i : Nat) : (toA out n i).length = n + 1 := by simp [toA]
theorem toA_zero (out : List Bool) (n : Nat) : toA out n 0 = List.replicate (n + 1) (.int .i64 0) := by
  unfold toA
  simp [List.map_const']
theorem wo_loop1 (l : List Ins) (out : List Bool) (hlo : l.length = out.length) (hl : l.length ≤ 5000) (e1 e2 e3 : Ent) (h1 : e1.key = 300) (h2 : e2.key = 500) (h3 : e3.key = 600) (k : Kt) (R : Ans)
    (hx : k (.exit 0) ⟨62, gl0, [(0, true, .d (.list (l.map insD))), (1, true, .d (.list (bD out))), (5, true, .vec 800 1 0 (l.length + 1)), (6, true, .d (.int .i64 (tos out l.length))), (16, true, .d (.int .i64 l.length)), (17, true, .d (.int .i64 l.length)), (18, true, .d (.bool false))], [e1, e2, e3, ⟨800, 1, .vec 1 (toA out l.length l.length)⟩]⟩ = R) :
    ∀ (m i : Nat), i + m = l.length → denK ctx 28 (.loop (Code.at (codeOf Tryz.f28) [1, 1, 1, 0, 1, 0, 0])) ⟨62, gl0, [(0, true, .d (.list (l.map insD))), (1, true, .d (.list (bD out))), (5, true, .vec 800 1 0 (l.length + 1)), (6, true, .d (.int .i64 (tos out i))), (16, true, .d (.int .i64 l.length)), (17, true, .d (.int .i64 i))], [e1, e2, e3, ⟨800, 1, .vec 1 (toA out l.length i)⟩]⟩ k = R
  | 0, i, hi => by
    have : i = l.length := by omega
    subst this
    rw [denK_loop]
    simp at hx
    simp [Tryz.f28, hx]
  | m + 1, i, hi => by
    have ih := wo_loop1 l out hlo hl e1 e2 e3 h1 h2 h3 k R hx m (i + 1) (by omega)
    have hi0 : i < l.length := by omega
    have hio : i < out.length := by omega
    have hit : i < l.length + 1 := by omega
    have w1 : IntKind.i64.wrap ((i : Int) + 1) = (i : Int) + 1 := wrap_id (by unfold I64; omega)
    have hts := tos_succ (out := out) (j := i) (b := out[i]) (by simp [hio])
    have htl : tos out i ≤ out.length := by unfold tos; exact Nat.le_trans List.countP_le_length (by simp; omega)
    have w2 : IntKind.i64.wrap ((tos out i : Int) + 1) = (tos out i : Int) + 1 := wrap_id (by unfold I64; omega)
    have hset := toA_succ out l.length i
    have htA := toA_len out l.length i
    rw [hts] at ih
    rw [denK_loop]
    generalize tos out i = t at *
    cases hq : out[i]
    · rw [hq] at ih
      simp [Tryz.f28] at ih ⊢
      simp [hi0, hio, hit, w1, w2, hset, htA, h1, h2, h3, hq, ih]
    · rw [hq] at ih
      simp [Tryz.f28] at ih ⊢
      simp [hi0, hio, hit, w1, w2, hset, htA, h1, h2, h3, hq, ih]
end Go.Am
end
section
namespace Go.Am
open Go Go.Proofs
set_option maxRecDepth 20000
def PlnC (c : Cont) : Prop := c = .dead ∨ ∃ ds : List D, c = .box (ds.map .d)
theorem pln5 (a b c d e : D) : PlnC (.box [.d a, .d b, .d c, .d d, .d e]) := .inr ⟨[a, b, c, d, e], rfl⟩
set_option maxHeartbeats 1000000 in
theorem wo_loop2 (l : List Ins) (out : List Bool) (hlo : l.length = out.length) (hl : l.length ≤ 5000) (ht : ∀ (i : Nat) (x : Ins), l[i]? = some x → isJ x → 0 ≤ x.a ∧ x.a.toNat < l.length) (e1 : Ent) (h1 : e1.key = 300) (k : Kt) (R : Ans)
    (hx : ∀ v v2 c2, PlnC c2 → k (.exit 2) ⟨62, gl0, [(1, true, .d (.list (bD out))), (5, true, .vec 800 1 0 (l.length + 1)), (8, true, .vec 500 v 0 (wo l out).length), (37, true, .d (.list (l.map insD))), (38, true, .d (.int .i64 l.length)), (39, true, .d (.int .i64 l.length)), (40, true, .d (.bool false))], [e1, ⟨500, v, .vec 5 ((wo l out).map insD)⟩, ⟨600, v2, c2⟩, ⟨800, 1, .vec 1 (toA out l.length (l.length + 1))⟩]⟩ = R) :
    ∀ (rest : List Ins) (ro : List Bool) (i : Nat) (K : List Ins) (v v2 : Nat) (c2 : Cont), PlnC c2 → l.drop i = rest → out.drop i = ro → i + rest.length = l.length → K ++ woF (mvI out) rest ro = wo l out → K.length ≤ i →
      denK ctx 28 (.loop (Code.at (codeOf Tryz.f28) [1, 1, 1, 1, 1, 1, 0, 1, 0, 0])) ⟨62, gl0, [(1, true, .d (.list (bD out))), (5, true, .vec 800 1 0 (l.length + 1)), (8, true, .vec 500 v 0 K.length), (37, true, .d (.list (l.map insD))), (38, true, .d (.int .i64 l.length)), (39, true, .d (.int .i64 i))], [e1, ⟨500, v, .vec 5 (K.map insD)⟩, ⟨600, v2, c2⟩, ⟨800, 1, .vec 1 (toA out l.length (l.length + 1))⟩]⟩ k = R
  | [], ro, i, K, v, v2, c2, hc, hr, hro, hi, hK, hKi => by
    have : i = l.length := by simpa using hi
    subst this
    have e : ro = [] := by rw [← hro, hlo]; simp
    subst e
    simp [woF] at hK
    subst hK
    have hx := hx v v2 c2 hc
    rw [denK_loop]
    simp at hx
    simp [Tryz.f28, hx]
  | x :: rest, ro, i, K, v, v2, c2, hc, hr, hro, hi, hK, hKi => by
    have hi0 : i < l.length := by simp at hi; omega
    have hio : i < out.length := by omega
    have hro2 : ro = out[i] :: out.drop (i + 1) := by rw [← hro]; exact List.drop_eq_getElem_cons hio
    subst hro2
    have hxi : l[i]? = some x := by rw [← List.head?_drop, hr]; rfl
    have hxe : l[i] = x := by simpa [hi0] using hxi
    have w1 : IntKind.i64.wrap ((i : Int) + 1) = (i : Int) + 1 := wrap_id (by unfold I64; omega)
    have hdr : l.drop (i + 1) = rest := by rw [← List.tail_drop, hr]; rfl
    have hj := jumps_run x
    have g1 : (K.length + 1) * 8 ≤ 140737488355328 ∧ K.length ≤ 4611686018427387903 := by omega
    have g2 : (K.length + 1) * 40 ≤ 140737488355328 ∧ K.length ≤ 4611686018427387903 := by omega
    have htA := toA_len out l.length (l.length + 1)
    cases hq : out[i]
    rotate_left
    · rw [hq] at hK
      have ih := fun v2 c2 hc => wo_loop2 l out hlo hl ht e1 h1 k R hx rest (out.drop (i + 1)) (i + 1) K v v2 c2 hc hdr rfl (by simp at hi; omega) (by simpa [woF] using hK) (by omega)
      rw [denK_loop]
      simp [Tryz.f28] at ih ⊢
      simp [hi0, hio, w1, h1, hq, hxe, pln5, ih]
    · rw [hq] at hK
      have ih := fun v2 c2 hc => wo_loop2 l out hlo hl ht e1 h1 k R hx rest (out.drop (i + 1)) (i + 1) (K ++ [mvI out x]) (v + 1) v2 c2 hc hdr rfl (by simp at hi; omega) (by simpa [woF] using hK) (by simp; omega)
      by_cases hJ : isJ x
      · obtain ⟨a1, a2⟩ := ht i x hxi hJ
        have hjb := jB_iff.2 hJ
        have a3 : x.a.toNat < (toA out l.length (l.length + 1)).length := by omega
        have hT : (toA out l.length (l.length + 1))[x.a.toNat] = .int .i64 (tos out x.a.toNat) := by
          have : (toA out l.length (l.length + 1))[x.a.toNat]? = some (.int .i64 (tos out x.a.toNat)) := by
            unfold toA; rw [get_map_range _ _ _ (by omega), if_pos (by omega)]
          simpa [a3] using this
        have hm : mvI out x = { x with a := tos out x.a.toNat } := by unfold mvI; rw [if_pos hJ]
        have a4 : x.a.toNat < l.length + 1 := by omega
        rw [hm] at ih
        rw [hjb] at hj
        rw [denK_loop]
        simp [Tryz.f28] at ih hj ⊢
        simp [hi0, hio, w1, h1, hq, hxe, pln5, hj, a1, a2, a3, a4, hT, htA, g1, g2, ih]
      · have hjb : jB x = false := by rw [← Bool.not_eq_true]; exact fun hc => hJ (jB_iff.1 hc)
        have hm : mvI out x = x := by unfold mvI; rw [if_neg hJ]
        rw [hm] at ih
        rw [hjb] at hj
        rw [denK_loop]
        simp [Tryz.f28] at ih hj ⊢
        simp [hi0, hio, w1, h1, hq, hxe, pln5, hj, htA, g1, g2, ih]
theorem without_run (l : List Ins) (out : List Bool) (hlo : l.length = out.length) (hl : l.length ≤ 5000) (ht : ∀ (i : Nat) (x : Ins), l[i]? = some x → isJ x → 0 ≤ x.a ∧ x.a.toNat < l.length) :
    callT ctx 28 [.d (.list (l.map insD)), .d (.list (bD out))] [] = some (.ret (.vec 0 0 0 (wo l out).length), [(0, .vec 5 ((wo l out).map insD))]) := by
  have h := fun e1 e2 e3 h1 h2 h3 k R hx => wo_loop1 l out hlo hl e1 e2 e3 h1 h2 h3 k R hx l.length 0 (by omega)
  have h2 := fun e1 h1 k R hx => wo_loop2 l out hlo hl ht e1 h1 k R hx l out 0 [] 1 0 .dead (.inl rfl) rfl rfl (by simp) rfl (by simp)
  rw [toA_zero, show tos out 0 = 0 by simp [tos]] at h
  rw [← toA_succ] at h2
  have g0 : (0 : Int) ≤ (l.length : Int) + 1 := by omega
  have g1 : l.length + 1 ≤ 140737488355328 ∧ l.length + 1 ≤ 4611686018427387904 := by omega
  have g2 : (l.length : Int) + 1 ≤ 140737488355328 ∧ (l.length : Int) + 1 ≤ 4611686018427387904 := by omega
  have g3 : ((l.length : Int) + 1) * 8 ≤ 140737488355328 := by omega
  have w1 : IntKind.i64.wrap ((l.length : Int) + 1) = (l.length : Int) + 1 := wrap_id (by unfold I64; omega)
  rw [run28 (by simp)]
  simp [Tryz.f28] at h h2
  simp [Tryz.f28, g1, g2, w1]
  rw [h _ _ _ rfl rfl rfl]
  have htl := toA_len out l.length l.length
  simp [htl, g0, g3]
  rw [h2 _ rfl]
  intro v v2 c2 hc
  rcases hc with rfl | ⟨ds, rfl⟩ <;> simp
end Go.Am
end
section
namespace Go.Am
open Go Go.Proofs
set_option maxRecDepth 20000
def idxT : Nat → List Bool → Int
  | _, [] => -1
  | i, x :: r => if x = true then (i : Int) else idxT (i + 1) r
theorem idxT_mem : ∀ (l : List Bool) (i : Nat), decide (0 ≤ idxT i l) = decide (true ∈ l)
  | [], i => by simp [idxT]
  | x :: r, i => by
    have := idxT_mem r (i + 1)
    unfold idxT
    cases x with
    | true => simp
    | false => simp [this]
theorem boolIdx_loop (l : List Bool) (hl : l.length ≤ 5000) (k : Kt) (R : Ans) : ∀ (rest : List Bool) (i : Nat), l.drop i = rest → i + rest.length = l.length →
    ((if 0 ≤ idxT i rest then k .ret ⟨19, gl0, [(4, true, .d (.int .i64 (idxT i rest)))], []⟩ else k (.exit 0) ⟨19, gl0, [(0, true, .d (.list (bD l))), (1, true, .d (.bool true)), (7, true, .d (.int .i64 l.length)), (8, true, .d (.int .i64 l.length)), (9, true, .d (.bool false))], []⟩) = R) →
    denK ctx 50 (.loop (Code.at (codeOf Tryz.f50) [1, 0, 1, 0, 0])) ⟨19, gl0, [(0, true, .d (.list (bD l))), (1, true, .d (.bool true)), (7, true, .d (.int .i64 l.length)), (8, true, .d (.int .i64 i))], []⟩ k = R
  | [], i, hd, hi, h => by
    have hi : i = l.length := by simpa using hi
    subst hi
    rw [denK_loop]
    simp [idxT] at h
    simp [Tryz.f50, h]
  | x :: rest, i, hd, hi, h => by
    have hlt : i < l.length := by simp at hi; omega
    have hx : l[i] = x := by
      have := congrArg (·[0]?) hd
      simp at this
      simpa [hlt] using this
    have w1 : IntKind.i64.wrap ((i : Int) + 1) = (i : Int) + 1 := wrap_id (by unfold I64; omega)
    unfold idxT at h
    rw [denK_loop]
    cases x with
    | true =>
      simp at h
      simp [Tryz.f50]
      simp [hlt, hx, h]
    | false =>
      replace h : (if 0 ≤ idxT (i + 1) rest then k .ret ⟨19, gl0, [(4, true, .d (.int .i64 (idxT (i + 1) rest)))], []⟩ else k (.exit 0) ⟨19, gl0, [(0, true, .d (.list (bD l))), (1, true, .d (.bool true)), (7, true, .d (.int .i64 l.length)), (8, true, .d (.int .i64 l.length)), (9, true, .d (.bool false))], []⟩) = R := h
      have ih := boolIdx_loop l hl k R rest (i + 1) (by rw [← List.tail_drop, hd]; rfl) (by simp at hi; omega) h
      simp [Tryz.f50] at ih ⊢
      simp [hlt, hx, w1, ih]
theorem idxT_neg : ∀ (l : List Bool) (i : Nat), ¬ 0 ≤ idxT i l → idxT i l = -1
  | [], i, _ => rfl
  | x :: r, i, h => by
    unfold idxT at h ⊢
    split
    · rename_i hs; rw [if_pos hs] at h; omega
    · rename_i hs; rw [if_neg hs] at h; exact idxT_neg r (i + 1) h
theorem boolIdx_run (l : List Bool) (hl : l.length ≤ 5000) : callT ctx 50 [.d (.list (bD l)), .d (.bool true)] [] = some (.ret (.d (.int .i64 (idxT 0 l))), []) := by
  have hlo := fun k R h => boolIdx_loop l hl k R l 0 rfl (by simp) h
  rw [run50 (by simp)]
  simp [Tryz.f50] at hlo ⊢
  rw [hlo]
  split
  · simp
  · rename_i h; simp [idxT_neg l 0 h]
theorem containsT_run (l : List Bool) (hl : l.length ≤ 5000) : callT ctx 27 [.d (.list (bD l)), .d (.bool true)] [] = some (.ret (.d (.bool (decide (true ∈ l)))), []) := by
  have h := boolIdx_run l hl
  rw [run27 (by simp)]
  simp at h
  simp [Tryz.f27, h, ← idxT_mem l 0]
theorem cloneI_run (l : List Ins) (h1 : 1 ≤ l.length) (hl : l.length ≤ 5000) : callT ctx 12 [.d (.list (l.map insD))] [] = some (.ret (.vec 0 0 0 l.length), [(0, .vec 5 (l.map insD))]) := by
  have g1 : l.length * 40 ≤ 140737488355328 ∧ l.length ≤ 4611686018427387904 := by omega
  have g2 : l.length * 8 ≤ 140737488355328 ∧ l.length ≤ 4611686018427387904 := by omega
  cases l with
  | nil => simp at h1
  | cons x r =>
    rw [run12 (by simp)]
    simp at g1 g2
    simp [Tryz.f12, g1, g2]
end Go.Am
end
section
namespace Go.Am
open Go Go.Proofs
set_option maxRecDepth 20000
def mixB (A B : List Bool) (i : Nat) : List Bool := A.take i ++ B.drop i
theorem mixB_len (A B : List Bool) (i : Nat) (h : A.length = B.length) : (mixB A B i).length = A.length := by
  unfold mixB; simp; omega
theorem mixB_get {A B : List Bool} {i : Nat} (h : A.length = B.length) (j : Nat) : (mixB A B i)[j]? = if j < i then A[j]? else B[j]? := by
  unfold mixB
  rw [List.getElem?_append]
  simp only [List.length_take, List.getElem?_take, List.getElem?_drop]
  by_cases e : j < i
  · by_cases e2 : j < A.length
    · rw [if_pos (by omega), if_pos e, if_pos e]
    · rw [if_neg (by omega), if_pos e, List.getElem?_eq_none (by omega), List.getElem?_eq_none (by omega)]
  · rw [if_neg (by omega), if_neg e]
    by_cases e2 : i ≤ A.length
    · rw [show i + (j - min i A.length) = j by omega]
    · rw [List.getElem?_eq_none (by omega), List.getElem?_eq_none (by omega)]
theorem mixB_set {A B : List Bool} {i : Nat} (h : A.length = B.length) (hi : i < A.length) : (mixB A B i).set i A[i] = mixB A B (i + 1) := by
  apply List.ext_getElem?
  intro j
  rw [List.getElem?_set, mixB_get h, mixB_get h, mixB_len _ _ _ h]
  by_cases e : i = j
  · subst e
    simp [hi]
  · rw [if_neg e]
    have : j < i + 1 ↔ j < i := by omega
    simp [this]
theorem mixB_all (A B : List Bool) (h : A.length = B.length) : mixB A B A.length = A := by unfold mixB; simp [h]
theorem mixB_zero (A B : List Bool) : mixB A B 0 = B := by simp [mixB]
theorem bD_mix {A B : List Bool} {i : Nat} (h : A.length = B.length) (hi : i < A.length) (b : Bool) (hb : A[i] = b) : (bD (mixB A B i)).set i (.bool b) = bD (mixB A B (i + 1)) := by
  rw [← hb, ← mixB_set h hi]
  exact bD_set _ _ _
section
variable (l : List Ins) (e1 e2 e4 e5 e6 : Ent) (h1 : e1.key = 200) (h2 : e2.key = 550) (h4 : e4.key = 1201) (h5 : e5.key = 2501) (h6 : e6.key = 3801) (hl : l.length ≤ 5000)
include h1 h2 h4 h5 h6 hl
theorem rnd_loopA (A B S : List Bool) (bc : Bool) (hA : A.length = l.length) (hB : B.length = l.length) (hS : S.length = l.length) (hAS : ∀ i (h : i < A.length) (h2 : i < S.length), A[i] = (!S[i] && decide (i + 1 < l.length))) (k : Kt) (R : Ans)
    (hx : k (.exit 0) ⟨77, gl0, [(0, true, .vec 0 0 0 l.length), (4, true, .d (.bool bc)), (5, true, .vec 800 1 0 l.length), (24, true, .d (.list (bD S))), (25, true, .d (.int .i64 l.length)), (26, true, .d (.int .i64 l.length)), (27, true, .d (.bool false))], [⟨0, 0, .vec 5 (l.map insD)⟩, e1, e2, ⟨800, 1, .vec 1 (bD A)⟩, e4, e5, e6]⟩ = R) :
    ∀ (m i : Nat), i + m = l.length → denK ctx 13 (.loop (Code.at (codeOf Tryz.f13) [1, 1, 1, 1, 1, 0, 1, 0, 0])) ⟨77, gl0, [(0, true, .vec 0 0 0 l.length), (4, true, .d (.bool bc)), (5, true, .vec 800 1 0 l.length), (24, true, .d (.list (bD S))), (25, true, .d (.int .i64 l.length)), (26, true, .d (.int .i64 i))], [⟨0, 0, .vec 5 (l.map insD)⟩, e1, e2, ⟨800, 1, .vec 1 (bD (mixB A B i))⟩, e4, e5, e6]⟩ k = R
  | 0, i, hi => by
    have : i = l.length := by omega
    subst this
    rw [← hA, mixB_all A B (by omega), hA]
    rw [denK_loop]
    simp at hx
    simp [Tryz.f13, hx]
  | m + 1, i, hi => by
    have ih := rnd_loopA A B S bc hA hB hS hAS k R hx m (i + 1) (by omega)
    have hi0 : i < l.length := by omega
    have hiS : i < S.length := by omega
    have hiM : i < (mixB A B i).length := by rw [mixB_len _ _ _ (by omega)]; omega
    have w1 : IntKind.i64.wrap ((i : Int) + 1) = (i : Int) + 1 := wrap_id (by unfold I64; omega)
    have w2 : IntKind.i64.wrap ((l.length : Int) - 1) = (l.length : Int) - 1 := wrap_id (by unfold I64; omega)
    have hsp := hAS i (by omega) hiS
    have hset := bD_mix (A := A) (B := B) (i := i) (by omega) (by omega) _ hsp
    have hdec : ((i : Int) < (l.length : Int) - 1) ↔ i + 1 < l.length := by omega
    rw [denK_loop]
    have hML := mixB_len A B i (by omega)
    cases hq : S[i]
    · rw [hq] at hset
      simp [Tryz.f13] at ih hset ⊢
      simp [hi0, hiS, hiM, hS, hML, hA, w1, w2, hq, h1, h2, h4, h5, h6, hdec, hset, ih]
    · rw [hq] at hset
      simp [Tryz.f13] at ih hset ⊢
      simp [hi0, hiS, hiM, hS, hML, hA, w1, w2, hq, h1, h2, h4, h5, h6, hdec, hset, ih]
omit h2 in
theorem rnd_loopB (A B : List Bool) (bc : Bool) (hA : A.length = l.length) (hB : B.length = l.length) (hAS : ∀ i (h : i < A.length) (h2 : i < l.length), A[i] = (decide (l[i].op = 9) && decide (l[i].a = (i : Int) + 1))) (k : Kt) (R : Ans)
    (hx : ∀ v2 c2, PlnC c2 → k (.exit 2) ⟨77, gl0, [(0, true, .vec 0 0 0 l.length), (4, true, .d (.bool bc)), (5, true, .vec 800 1 0 l.length), (49, true, .vec 0 0 0 l.length), (50, true, .d (.int .i64 l.length)), (51, true, .d (.int .i64 l.length)), (52, true, .d (.bool false))], [⟨0, 0, .vec 5 (l.map insD)⟩, e1, ⟨550, v2, c2⟩, ⟨800, 1, .vec 1 (bD A)⟩, e4, e5, e6]⟩ = R) :
    ∀ (m i v2 : Nat) (c2 : Cont), PlnC c2 → i + m = l.length → denK ctx 13 (.loop (Code.at (codeOf Tryz.f13) [1, 1, 1, 1, 1, 1, 1, 0, 1, 0, 0])) ⟨77, gl0, [(0, true, .vec 0 0 0 l.length), (4, true, .d (.bool bc)), (5, true, .vec 800 1 0 l.length), (49, true, .vec 0 0 0 l.length), (50, true, .d (.int .i64 l.length)), (51, true, .d (.int .i64 i))], [⟨0, 0, .vec 5 (l.map insD)⟩, e1, ⟨550, v2, c2⟩, ⟨800, 1, .vec 1 (bD (mixB A B i))⟩, e4, e5, e6]⟩ k = R
  | 0, i, v2, c2, hc, hi => by
    have : i = l.length := by omega
    subst this
    rw [← hA, mixB_all A B (by omega), hA]
    rw [denK_loop]
    have hx := hx v2 c2 hc
    simp at hx
    simp [Tryz.f13, hx]
  | m + 1, i, v2, c2, hc, hi => by
    have ih := fun v2 c2 hc => rnd_loopB A B bc hA hB hAS k R hx m (i + 1) v2 c2 hc (by omega)
    have hi0 : i < l.length := by omega
    have hiM : i < (mixB A B i).length := by rw [mixB_len _ _ _ (by omega)]; omega
    have w1 : IntKind.i64.wrap ((i : Int) + 1) = (i : Int) + 1 := wrap_id (by unfold I64; omega)
    have hsp := hAS i (by omega) hi0
    have hset := bD_mix (A := A) (B := B) (i := i) (by omega) (by omega) _ hsp
    rw [denK_loop]
    have hML := mixB_len A B i (by omega)
    generalize hxx : l[i] = x at *
    by_cases e9 : x.op = 9
    · by_cases ea : x.a = (i : Int) + 1
      · simp [e9, ea] at hset
        simp [Tryz.f13] at ih ⊢
        simp [hxx, hi0, hiM, hML, hA, w1, h1, h4, h5, h6, e9, ea, hset, pln5, ih]
      · simp [e9, ea] at hset
        simp [Tryz.f13] at ih ⊢
        simp [hxx, hi0, hiM, hML, hA, w1, h1, h4, h5, h6, e9, ea, hset, pln5, ih]
    · simp [e9] at hset
      simp [Tryz.f13] at ih ⊢
      simp [hxx, hi0, hiM, hML, hA, w1, h1, h4, h5, h6, e9, hset, pln5, ih]
end
end Go.Am
end
section
namespace Go.Am
open Go Go.Proofs
set_option maxRecDepth 20000
theorem plain_ins : ∀ l : List Ins, plainDs (l.map insD) = true
  | [] => rfl
  | x :: l => by simp [plain_ins l, plainD]
theorem tL_tgt {pins cells l r st} (hg : Good pins cells l r st) (k : Nat) : ∀ (i : Nat) (x : Ins), (tL l k)[i]? = some x → isJ x → 0 ≤ x.a ∧ x.a.toNat < (tL l k).length := by
  intro i x hx hj
  rw [tL_len]
  rw [tL_get] at hx
  cases hy : l[i]? with
  | none => rw [hy] at hx; cases hx
  | some y =>
    rw [hy] at hx
    simp only [Option.map_some, Option.some.injEq] at hx
    split at hx
    · rename_i hc
      simp only [Bool.and_eq_true, decide_eq_true_eq] at hc
      obtain ⟨x2, z, _, hz, _, hz2, _⟩ := isP_iff.1 hc.1.2
      have := hg.tgt hz (.inr hz2)
      have e : aAt l (i + 1) = z.a := by unfold aAt; rw [hz]; rfl
      subst hx
      simp only [e]
      exact this
    · subst hx
      exact hg.tgt hy hj
theorem round_run1 {pins cells r st} (l l1 : List Ins) (b : Bool) (h : ThrL 0 l l1 b) (hg : Good pins cells l r st) (ht : true ∈ tO l1 l1.length) :
    callT ctx 13 [.vec 0 0 0 l.length] [.vec 5 (l.map insD)] = some (.ret (.tup [.vec 1 0 0 (wo (tL l1 l1.length) (tO l1 l1.length)).length, .d (.bool true)]), [(0, .vec 5 ((tL l1 l1.length).map insD)), (0, .vec 5 ((wo (tL l1 l1.length) (tO l1 l1.length)).map insD))]) := by
  obtain ⟨hg1, hle⟩ := thrL_good h hg
  have hlen := hg1.len
  have hth := threaded_run l l1 b h hg
  have hts := tested_run l1 (by omega) (by omega)
  have hct := containsT_run (tO l1 l1.length) (by rw [tO_len]; omega)
  have hwo := without_run (tL l1 l1.length) (tO l1 l1.length) (by rw [tL_len, tO_len]) (by rw [tL_len]; omega) (tL_tgt hg1 _)
  have hLl := tL_len (l := l1) l1.length
  have hOl := tO_len (l := l1) l1.length
  generalize tL l1 l1.length = L at *
  generalize tO l1 l1.length = O at *
  generalize wo L O = W at *
  rw [← hle] at *
  have g1 : (l1.length : Int) ≤ 140737488355328 ∧ (l1.length : Int) ≤ 4611686018427387904 := by omega
  have g2 : l1.length ≤ 140737488355328 ∧ l1.length ≤ 4611686018427387904 := by omega
  simp [ht] at hth hts hct hwo
  rw [run13 (by simp)]
  have hpl := plain_ins W

  simp [Tryz.f13, hth, hts, g1, g2, hct, hwo, hLl, hOl, hpl]
theorem tO_none {l : List Ins} {k : Nat} (h : true ∉ tO l k) : tO l k = List.replicate l.length false := by
  rw [List.eq_replicate_iff]
  refine ⟨tO_len k, fun b hb => ?_⟩
  cases b with
  | false => rfl
  | true => exact absurd hb h
theorem round_run2 {pins cells r st} (l l1 : List Ins) (b : Bool) (h : ThrL 0 l l1 b) (hg : Good pins cells l r st) (ht : true ∉ tO l1 l1.length) (hr : true ∈ rO l1) :
    callT ctx 13 [.vec 0 0 0 l.length] [.vec 5 (l.map insD)] = some (.ret (.tup [.vec 1 0 0 (wo l1 (rO l1)).length, .d (.bool true)]), [(0, .vec 5 (l1.map insD)), (0, .vec 5 ((wo l1 (rO l1)).map insD))]) := by
  classical
  obtain ⟨hg1, hle⟩ := thrL_good h hg
  have hlen := hg1.len
  have hth := threaded_run l l1 b h hg
  have hts := tested_run l1 (by omega) (by omega)
  have hct := containsT_run (tO l1 l1.length) (by rw [tO_len]; omega)
  have hct2 := containsT_run (rO l1) (by rw [rO_len]; omega)
  have hre := reached_run l1 hg1
  have hSl : (rSeen l1).length = l1.length := by simp [rSeen]
  have hloop := fun e1 e2 e4 e5 e6 h1 h2 h4 h5 h6 k R hx => rnd_loopA l1 e1 e2 e4 e5 e6 h1 h2 h4 h5 h6 (by omega) (rO l1) (tO l1 l1.length) (rSeen l1) b (by rw [rO_len]) (by rw [tO_len]) hSl (fun i h h2 => by
    have a1 := rO_get (l := l1) (i := i) (by omega)
    have a2 : (rSeen l1)[i]? = some (decide (Reach l1 i)) := get_map_range _ _ _ (by omega)
    rw [List.getElem?_eq_getElem h] at a1
    rw [List.getElem?_eq_getElem h2] at a2
    rw [Option.some.inj a1, Option.some.inj a2]) k R hx l1.length 0 (by omega)
  have hwo := without_run l1 (rO l1) (by rw [rO_len]) (by omega) (fun i x hx hj => hg1.tgt hx hj)
  rw [mixB_zero] at hloop
  rw [tL_none ht] at hts
  rw [tO_none ht] at hct hts hloop
  have hOl := rO_len (l := l1)
  have hdn : decide (true ∈ List.replicate l1.length false) = false := by rw [decide_eq_false_iff_not, ← tO_none ht]; exact ht
  rw [hdn] at hct
  generalize rO l1 = O at *
  generalize wo l1 O = W at *
  generalize rSeen l1 = S at *
  rw [← hle] at *
  have g1 : (l1.length : Int) ≤ 140737488355328 ∧ (l1.length : Int) ≤ 4611686018427387904 := by omega
  have g2 : l1.length ≤ 140737488355328 ∧ l1.length ≤ 4611686018427387904 := by omega
  have hpl := plain_ins W
  simp [hr] at hth hts hct2 hwo hpl hre hct
  simp [Tryz.f13] at hloop
  rw [run13 (by simp)]
  simp [Tryz.f13, hth, hts, g1, g2, hct, hre, hSl]
  rw [hloop _ _ _ _ _ rfl rfl rfl rfl rfl]
  simp [hct2, hwo, hOl, hpl]
theorem jO_spec {l : List Ins} (i : Nat) (h : i < (jO l).length) (h2 : i < l.length) : (jO l)[i] = (decide (l[i].op = 9) && decide (l[i].a = (i : Int) + 1)) := by
  have := jO_get (l := l) i
  rw [List.getElem?_eq_getElem h, List.getElem?_eq_getElem h2] at this
  simpa using this
theorem round_run3 {pins cells r st} (l l1 : List Ins) (b : Bool) (h : ThrL 0 l l1 b) (hg : Good pins cells l r st) (ht : true ∉ tO l1 l1.length) (hr : true ∉ rO l1) :
    callT ctx 13 [.vec 0 0 0 l.length] [.vec 5 (l.map insD)] = if true ∈ jO l1 then some (.ret (.tup [.vec 1 0 0 (wo l1 (jO l1)).length, .d (.bool true)]), [(0, .vec 5 (l1.map insD)), (0, .vec 5 ((wo l1 (jO l1)).map insD))])
      else some (.ret (.tup [.vec 0 0 0 l1.length, .d (.bool b)]), [(0, .vec 5 (l1.map insD))]) := by
  classical
  obtain ⟨hg1, hle⟩ := thrL_good h hg
  have hlen := hg1.len
  have hth := threaded_run l l1 b h hg
  have hts := tested_run l1 (by omega) (by omega)
  have hct := containsT_run (tO l1 l1.length) (by rw [tO_len]; omega)
  have hct2 := containsT_run (rO l1) (by rw [rO_len]; omega)
  have hct3 := containsT_run (jO l1) (by rw [jO_len]; omega)
  have hre := reached_run l1 hg1
  have hSl : (rSeen l1).length = l1.length := by simp [rSeen]
  have hloop := fun e1 e2 e4 e5 e6 h1 h2 h4 h5 h6 k R hx => rnd_loopA l1 e1 e2 e4 e5 e6 h1 h2 h4 h5 h6 (by omega) (rO l1) (tO l1 l1.length) (rSeen l1) b (by rw [rO_len]) (by rw [tO_len]) hSl (fun i h h2 => by
    have a1 := rO_get (l := l1) (i := i) (by omega)
    have a2 : (rSeen l1)[i]? = some (decide (Reach l1 i)) := get_map_range _ _ _ (by omega)
    rw [List.getElem?_eq_getElem h] at a1
    rw [List.getElem?_eq_getElem h2] at a2
    rw [Option.some.inj a1, Option.some.inj a2]) k R hx l1.length 0 (by omega)
  have hloopB := fun e1 e4 e5 e6 h1 h4 h5 h6 k R hx v2 c2 hc => rnd_loopB l1 e1 e4 e5 e6 h1 h4 h5 h6 (by omega) (jO l1) (rO l1) b (by rw [jO_len]) (by rw [rO_len]) jO_spec k R hx l1.length 0 v2 c2 hc (by omega)
  have hwo := without_run l1 (jO l1) (by rw [jO_len]) (by omega) (fun i x hx hj => hg1.tgt hx hj)
  rw [mixB_zero] at hloop hloopB
  rw [tL_none ht] at hts
  rw [tO_none ht] at hct hts hloop
  have hOl := rO_len (l := l1)
  have hJl := jO_len (l := l1)
  have hdn : decide (true ∈ List.replicate l1.length false) = false := by rw [decide_eq_false_iff_not, ← tO_none ht]; exact ht
  have hdr : decide (true ∈ rO l1) = false := by rw [decide_eq_false_iff_not]; exact hr
  rw [hdn] at hct
  rw [hdr] at hct2
  generalize rO l1 = O at *
  generalize jO l1 = J at *
  generalize wo l1 J = W at *
  generalize rSeen l1 = S at *
  rw [← hle] at *
  have g1 : (l1.length : Int) ≤ 140737488355328 ∧ (l1.length : Int) ≤ 4611686018427387904 := by omega
  have g2 : l1.length ≤ 140737488355328 ∧ l1.length ≤ 4611686018427387904 := by omega
  have hpl := plain_ins W
  have hpl2 := plain_ins l1
  simp at hth hts hct hct2 hct3 hwo hpl hre hpl2
  simp [Tryz.f13] at hloop hloopB
  rw [run13 (by simp)]
  simp [Tryz.f13, hth, hts, g1, g2, hct, hre, hSl]
  rw [hloop _ _ _ _ _ rfl rfl rfl rfl rfl]
  simp [hct2, hOl]
  rw [hloopB _ _ _ _ rfl rfl rfl rfl _ (if true ∈ J then some (.ret (.tup [.vec 1 0 0 W.length, .d (.bool true)]), [(0, .vec 5 (l1.map insD)), (0, .vec 5 (W.map insD))])
      else some (.ret (.tup [.vec 0 0 0 l1.length, .d (.bool b)]), [(0, .vec 5 (l1.map insD))])) _ _ _ (.inl rfl)]
  · intro v2 c2 hc
    by_cases hj : true ∈ J
    · rcases hc with rfl | ⟨ds, rfl⟩ <;> simp [hct3, hwo, hJl, hpl, hj]
    · rcases hc with rfl | ⟨ds, rfl⟩ <;> simp [hct3, hJl, hpl2, hj]
end Go.Am
end
section
namespace Go.Am
open Go Go.Proofs
set_option maxRecDepth 20000
@[simp] def mkE (ins : List Ins) (vars cells : Int) (v v9 : Nat) (l : List Ins) : Mem := [⟨150, 1, .box [.d (.list (ins.map insD)), .d (.int .i64 vars), .d (.int .i64 cells)]⟩, ⟨200, 1, .box [.lit (.slice none 0 0), .d (.int .i64 0), .d (.int .i64 0)]⟩, ⟨701, v, .vec 5 (l.map insD)⟩, ⟨901, v9, .dead⟩]
theorem make_loop (ins : List Ins) (vars cells : Int) (k : Kt) (R : Ans) (l d : List Ins) (h : Made l d) : ∀ {pins : Int → Nat} {cl : Int} {r st}, Good pins cl l r st →
    (∀ v v9, k (.exit 0) ⟨25, gl0, [(1, true, .ptr 150 1 0), (2, true, .ptr 200 1 0), (4, true, .vec 701 v 0 d.length), (13, true, .d (.bool false))], mkE ins vars cells v v9 d⟩ = R) → ∀ v v9,
    denK ctx 5 (.loop (Code.at (codeOf Tryz.f5) [1, 1, 1, 0, 1, 0, 0])) ⟨25, gl0, [(1, true, .ptr 150 1 0), (2, true, .ptr 200 1 0), (4, true, .vec 701 v 0 l.length), (5, true, .d (.bool true))], mkE ins vars cells v v9 l⟩ k = R := by
  induction h with
  | last l l1 b d h h2 =>
    intro pins cl r st hg hx v v9
    obtain ⟨hg1, hle⟩ := thrL_good h hg
    have hd : d = l1 ∧ b = false ∧ true ∉ tO l1 l1.length ∧ true ∉ rO l1 ∧ true ∉ jO l1 := by
      rcases round_good hg1 b with ⟨l2, r', st', e, _, _⟩ | ⟨e, a1, a2, a3⟩
      · rw [e] at h2; cases h2
      · rw [e] at h2; cases h2; exact ⟨rfl, rfl, a1, a2, a3⟩
    obtain ⟨rfl, rfl, a1, a2, a3⟩ := hd
    have hr := round_run3 l d false h hg a1 a2
    rw [if_neg a3] at hr
    have hlen := hg1.len
    rw [← hle] at *
    rw [denK_loop]
    simp at hx hr
    simp [Tryz.f5, hr]
    rw [denK_loop]
    simp [hx]
  | more l l1 b l2 d h h2 h3 ih =>
    intro pins cl r st hg hx v v9
    obtain ⟨hg1, hle⟩ := thrL_good h hg
    have hlen := hg1.len
    have hw1 := round_run1 l l1 b h hg
    have hw2 := round_run2 l l1 b h hg
    have hw3 := round_run3 l l1 b h hg
    have hr : (∃ L, callT ctx 13 [.vec 0 0 0 l.length] [.vec 5 (l.map insD)] = some (.ret (.tup [.vec 1 0 0 l2.length, .d (.bool true)]), [(0, .vec 5 (L : List D)), (0, .vec 5 (l2.map insD))])) ∨ (callT ctx 13 [.vec 0 0 0 l.length] [.vec 5 (l.map insD)] = some (.ret (.tup [.vec 0 0 0 l1.length, .d (.bool true)]), [(0, .vec 5 (l1.map insD))]) ∧ l2 = l1) := by
      unfold roundF at h2
      by_cases a1 : true ∈ tO l1 l1.length
      · rw [if_pos a1] at h2
        cases h2
        exact .inl ⟨_, hw1 a1⟩
      · rw [if_neg a1] at h2
        by_cases a2 : true ∈ rO l1
        · rw [if_pos a2] at h2
          cases h2
          exact .inl ⟨_, hw2 a1 a2⟩
        · rw [if_neg a2] at h2
          have hw3 := hw3 a1 a2
          by_cases a3 : true ∈ jO l1
          · rw [if_pos a3] at h2 hw3
            cases h2
            exact .inl ⟨_, hw3⟩
          · rw [if_neg a3] at h2 hw3
            cases h2
            exact .inr ⟨hw3, rfl⟩
    have hg2 : ∃ r' st', Good pins cl l2 r' st' := by
      rcases round_good hg1 b with ⟨l3, r', st', e, g3, _⟩ | ⟨e, _, _, _⟩
      · rw [e] at h2; cases h2; exact ⟨_, _, g3⟩
      · rw [e] at h2; cases h2; exact ⟨_, _, hg1⟩
    obtain ⟨r', st', hg2⟩ := hg2
    have ih := ih hg2 hx
    clear hx hw1 hw2 hw3
    rw [denK_loop]
    rcases hr with ⟨L, hr⟩ | ⟨hr, rfl⟩
    · try simp at hr
      simp [Tryz.f5] at ih ⊢
      simp [hr, ih]
    · try simp at hr
      simp [Tryz.f5] at ih ⊢
      simp [hr, ih]
theorem make_run (pins : Int → Nat) (hp : PinsOk 41 pins) (ins d : List Ins) (vars cells : Int) (hok : okCode pins ins vars cells = true) (hm : Made ins d) : callT ctx 5 [.d (codeD ins vars cells)] [] = some (.ret (.tup [.d (codeD d vars cells), .d (.int .i64 0)]), []) := by
  obtain ⟨_, r, st, hg⟩ := good_of hok
  have hlen := hg.len
  have hc := checkCode_run pins hp ins vars cells (by omega)
  have hcl := cloneI_run ins (by omega) (by omega)
  have hloop := fun k R hx => make_loop ins vars cells k R ins d hm hg hx
  rw [run5 (by simp)]
  rw [hok] at hc
  simp at hc hcl
  simp [Tryz.f5] at hloop
  simp [Tryz.f5, hc, hcl]
  rw [hloop]
  intro v v9
  simp
theorem make_bad (pins : Int → Nat) (hp : PinsOk 41 pins) (ins : List Ins) (vars cells : Int) (hl : ins.length ≤ 5000) (hok : okCode pins ins vars cells = false) : callT ctx 5 [.d (codeD ins vars cells)] [] = some (.ret (.tup [.d (codeD [] 0 0), .d (.int .i64 1)]), []) := by
  have hc := checkCode_run pins hp ins vars cells hl
  rw [run5 (by simp)]
  rw [hok] at hc
  simp at hc
  simp [Tryz.f5, hc]
end Go.Am
end
section
namespace Go.Am
open Go Go.Proofs
set_option maxRecDepth 20000
theorem awake32_run : callT ctx 4 [] [] = some (.ret (.d (.bool true)), []) := callT_of 300 (by kernel_rfl)
end Go.Am
end
section
namespace Go.Am
open Go Go.Proofs
set_option maxRecDepth 20000
theorem ins_ext (x y : Ins) : x = y ↔ x.op = y.op ∧ x.a = y.a ∧ x.b = y.b ∧ x.n = y.n ∧ x.m = y.m := by
  constructor
  · rintro rfl; simp
  · intro h; cases x; cases y; simp_all
instance : DecidableEq Ins := fun x y => decidable_of_iff _ (ins_ext x y).symm
theorem csame_loop (a b : List Ins) (va ca vb cb : Int) (ha : a.length ≤ 1000000) (hl : a.length = b.length) (k : Kt) (R1 R2 : Ans)
    (h1 : ∀ M, k .ret ⟨45, gl0, [(4, true, .d (.bool false))], M⟩ = R1) (h2 : ∀ (Y : Env) M, k (.exit 0) ⟨45, gl0, Y, M⟩ = R2) : ∀ (ra rb : List Ins) (i : Nat), a.drop i = ra → b.drop i = rb → i + ra.length = a.length →
    denK ctx 7 (.loop (Code.at (codeOf Tryz.f7) [1, 1, 0, 1, 0, 0])) ⟨45, gl0, [(2, true, .ptr 200 1 0), (3, true, .ptr 250 1 0), (5, true, .d (.int .i64 i))],
      [⟨200, 1, .box [.d (.list (a.map insD)), .d (.int .i64 va), .d (.int .i64 ca)]⟩, ⟨250, 1, .box [.d (.list (b.map insD)), .d (.int .i64 vb), .d (.int .i64 cb)]⟩]⟩ k = if ra = rb then R2 else R1
  | [], rb, i, hra, hrb, hi => by
    have hi : i = a.length := by simpa using hi
    subst hi
    have : rb = [] := by rw [← hrb, hl]; simp
    subst this
    rw [denK_loop]
    simp [Tryz.f7, h2]
  | x :: ra, rb, i, hra, hrb, hi => by
    have hlt : i < a.length := by simp at hi; omega
    have hltI : (i : Int) < a.length := by omega
    have hlt2 : i < b.length := by omega
    have hlt2I : (i : Int) < b.length := by omega
    have hx : a[i] = x := by
      have := congrArg (·[0]?) hra
      simp at this
      simpa [hlt] using this
    obtain ⟨y, hy⟩ : ∃ y, y = b[i] := ⟨_, rfl⟩
    have hrb2 : rb = y :: b.drop (i + 1) := by rw [← hrb, hy]; exact List.drop_eq_getElem_cons hlt2
    have ih := csame_loop a b va ca vb cb ha hl k R1 R2 h1 h2 ra (b.drop (i + 1)) (i + 1) (by rw [← List.tail_drop, hra]; rfl) rfl (by simp at hi; omega)
    have w1 : IntKind.i64.wrap ((i : Int) + 1) = (i : Int) + 1 := wrap_id (by unfold I64; omega)
    rw [hrb2, denK_loop]
    simp [Tryz.f7] at ih
    simp [Tryz.f7]
    simp [hlt, hltI, hlt2, hlt2I, hx, ← hy, w1, ih, h1, drwK_end]
    have he := ins_ext x y
    clear ih h1 h2
    by_cases q0 : x.op = y.op <;> by_cases q1 : x.a = y.a <;> by_cases q2 : x.b = y.b <;> by_cases q3 : x.n = y.n <;> by_cases q4 : x.m = y.m <;> simp [q0, q1, q2, q3, q4] at he ⊢ <;> simp [he]
theorem csame_run (a b : List Ins) (va ca vb cb : Int) (ha : a.length ≤ 1000000) : callT ctx 7 [.d (codeD a va ca), .d (codeD b vb cb)] [] = some (.ret (.d (.bool (decide (a = b) && decide (va = vb) && decide (ca = cb)))), []) := by
  rw [run7 (by simp)]
  by_cases hl : a.length = b.length
  · have h := fun k R1 R2 h1 h2 => csame_loop a b va ca vb cb ha hl k R1 R2 h1 h2 a b 0 rfl rfl (by simp)
    simp [Tryz.f7] at h
    by_cases hv : va = vb
    · by_cases hc : ca = cb
      · simp [Tryz.f7, hl, hv, hc]
        rw [hv, hc] at h
        rw [h _ (some (.ret (.d (.bool false)), [])) (some (.ret (.d (.bool true)), [])) (by simp) (by simp)]
        by_cases e : a = b <;> simp [e]
      · simp [Tryz.f7, hl, hv, hc]
    · simp [Tryz.f7, hl, hv]
  · have hI : ¬ ((a.length : Int) = b.length) := by omega
    have hne : a ≠ b := fun h => hl (by rw [h])
    simp [Tryz.f7, hI, hne, hl]
end Go.Am
end
section
namespace Go.Am
open Go Go.Proofs
def addF (m : Int) (s : Ms) : Ms := { s with fuel := s.fuel + m }
theorem op1_f (op a : Int) (t : Bool) : (op1 op a t).2.2 ≠ 4 := by
  have hf : ∀ p, (fitR p).2.2 ≠ 4 := fun p => by unfold fitR; split <;> simp
  unfold op1 noOp
  repeat' split
  all_goals first | exact hf _ | simp
theorem op2_f (op a b : Int) (t : Bool) : (op2 op a b t).2.2 ≠ 4 := by
  have hf : ∀ p, (fitR p).2.2 ≠ 4 := fun p => by unfold fitR; split <;> simp
  have he : ∀ p, (errR p).2.2 ≠ 4 := fun p => by unfold errR; split; simp; split <;> simp
  have hT : (opT op a b).2.2 ≠ 4 := by
    unfold opT noOp
    repeat' split
    all_goals simp
  have k1 := hf (fitZ (a + b))
  have k2 := hf (fitZ (a - b))
  have k3 := hf (fitZ (a * b))
  have k4 := he (divZ a b)
  have k5 := he (modZ a b)
  have hN : (opN op a b).2.2 ≠ 4 := by
    unfold opN noOp
    by_cases h8 : op = 8
    · rw [if_pos h8]; exact k1
    rw [if_neg h8]
    by_cases h9 : op = 9
    · rw [if_pos h9]; exact k2
    rw [if_neg h9]
    by_cases h10 : op = 10
    · rw [if_pos h10]; exact k3
    rw [if_neg h10]
    by_cases h11 : op = 11
    · rw [if_pos h11]; exact k4
    rw [if_neg h11]
    by_cases h12 : op = 12
    · rw [if_pos h12]; exact k5
    rw [if_neg h12]
    repeat' split
    all_goals simp
  unfold op2
  split
  · split
    · simp [noOp]
    · exact hT
  · exact hN
theorem moveF_more (m : Int) (x : Ins) (s : Ms) : moveF x (addF m s) = (moveF x s).map (addF m) := by
  unfold moveF
  have e1 : (addF m s).top = s.top := rfl
  have e2 : (addF m s).pop.top = s.pop.top := rfl
  rw [e1, e2]
  by_cases h1 : x.op = 1
  · rw [if_pos h1, if_pos h1]; rfl
  rw [if_neg h1, if_neg h1]
  by_cases h2 : x.op = 2
  · rw [if_pos h2, if_pos h2]; rfl
  rw [if_neg h2, if_neg h2]
  by_cases h3 : x.op = 3
  · rw [if_pos h3, if_pos h3]; rfl
  rw [if_neg h3, if_neg h3]
  by_cases h4 : x.op = 4 ∨ x.op = 5
  · rw [if_pos h4, if_pos h4]
    by_cases hi : inArr x s.top = true
    · rw [if_pos hi, if_pos hi]; rfl
    · rw [if_neg hi, if_neg hi]; rfl
  rw [if_neg h4, if_neg h4]
  by_cases h6 : x.op = 6
  · rw [if_pos h6, if_pos h6]; rfl
  rw [if_neg h6, if_neg h6]
  by_cases h7 : x.op = 7
  · rw [if_pos h7, if_pos h7]
    by_cases hi : inArr x s.pop.top = true
    · rw [if_pos hi, if_pos hi]; rfl
    · rw [if_neg hi, if_neg hi]; rfl
  rw [if_neg h7, if_neg h7]
  rfl
theorem doF_four (x : Ins) (s : Ms) (h0 : s.fault = 0) : (doF x s).fault ≠ 4 := by
  have key : ∀ (t : Ms) (p : Int × Bool × Int), t.fault = 0 → p.2.2 ≠ 4 → (if p.2.2 = 0 then t.push p.1 else { t with fault := p.2.2 }).fault ≠ 4 := by
    intro t p ht hp
    by_cases h : p.2.2 = 0
    · rw [if_pos h]; show t.fault ≠ 4; rw [ht]; decide
    · rw [if_neg h]; exact hp
  unfold doF
  split
  · exact key s.pop _ h0 (op1_f _ _ _)
  · exact key s.pop.pop _ h0 (op2_f _ _ _ _)
theorem doF_more (m : Int) (x : Ins) (s : Ms) : doF x (addF m s) = addF m (doF x s) := by
  unfold doF
  have e1 : (addF m s).top = s.top := rfl
  have e2 : (addF m s).pop.top = s.pop.top := rfl
  rw [e1, e2]
  split
  · split <;> rfl
  · split <;> rfl
theorem ctlF_more (m : Int) (hm : 0 ≤ m) (x : Ins) (s : Ms) (hf : 0 ≤ s.fuel) (h : x.op = 11 → s.fuel ≠ 0) : ctlF x (addF m s) = addF m (ctlF x s) := by
  unfold ctlF
  by_cases h8 : x.op = 8
  · rw [if_pos h8, if_pos h8]; exact doF_more m x s
  rw [if_neg h8, if_neg h8]
  by_cases h9 : x.op = 9
  · rw [if_pos h9, if_pos h9]; rfl
  rw [if_neg h9, if_neg h9]
  by_cases h10 : x.op = 10
  · rw [if_pos h10, if_pos h10]
    have e1 : (addF m s).top = s.top := rfl
    rw [e1]
    split <;> rfl
  rw [if_neg h10, if_neg h10]
  by_cases h11 : x.op = 11
  · rw [if_pos h11, if_pos h11]
    have h0 := h h11
    have h1 : (addF m s).fuel ≠ 0 := by show s.fuel + m ≠ 0; omega
    rw [if_neg h0, if_neg h1]
    simp only [addF, Ms.mk.injEq, and_true, true_and]
    omega
  rw [if_neg h11, if_neg h11]
  by_cases h12 : x.op = 12
  · rw [if_pos h12, if_pos h12]; rfl
  rw [if_neg h12, if_neg h12]
  by_cases h13 : x.op = 13
  · rw [if_pos h13, if_pos h13]; rfl
  rw [if_neg h13, if_neg h13]
  by_cases h14 : x.op = 14
  · rw [if_pos h14, if_pos h14]; rfl
  rw [if_neg h14, if_neg h14]
theorem stepF_more (m : Int) (hm : 0 ≤ m) (x : Ins) (s : Ms) (hf : 0 ≤ s.fuel) (h : x.op = 11 → s.fuel ≠ 0) : stepF x (addF m s) = addF m (stepF x s) := by
  unfold stepF
  have e : ({ addF m s with at_ := (addF m s).at_ + 1 } : Ms) = addF m { s with at_ := s.at_ + 1 } := rfl
  rw [e, moveF_more]
  cases hmv : moveF x { s with at_ := s.at_ + 1 } with
  | some t => rfl
  | none => exact ctlF_more m hm x _ hf h
theorem stepF_four {x : Ins} {s : Ms} (h0 : s.fault = 0) (h4 : (stepF x s).fault = 4) : x.op = 11 ∧ s.fuel = 0 ∧ (stepF x s).fuel = 0 := by
  obtain ⟨C, S, a, f, z⟩ := s
  simp only at h0
  subst h0
  by_cases h11 : x.op = 11
  · by_cases hf : f = 0
    · refine ⟨h11, hf, ?_⟩
      simp [stepF, moveF, ctlF, h11, hf]
    · exfalso
      revert h4
      simp [stepF, moveF, ctlF, h11, hf]
  · exfalso
    revert h4
    unfold stepF
    cases hmv : moveF x ⟨C, S, a + 1, f, 0⟩ with
    | some t =>
      simp only
      unfold moveF at hmv
      repeat' split at hmv
      all_goals first | (cases hmv; done) | (cases hmv; simp [Ms.push, Ms.pop])
    | none =>
      simp only
      unfold ctlF
      simp only [h11, if_false]
      by_cases h8 : x.op = 8
      · rw [if_pos h8]
        exact doF_four x _ rfl
      · rw [if_neg h8]
        repeat' split
        all_goals simp [Ms.push, Ms.pop]
theorem runs_more {l : List Ins} {r : Nat → Nat} {st : Nat → List Bool} {n : Nat} (hg : Good pinsN n l r st) (hl : InsOk l) {s t : Ms} (h : RunsF l s t) (m : Int) (hm : 0 ≤ m) : VInv l st n s → (s.fault = 4 → s.fuel = 0) → (t.fault = 4 → t.fuel = 0) ∧ (t.fault ≠ 4 → RunsF l (addF m s) (addF m t)) := by
  induction h with
  | fault s h => exact fun hv h4 => ⟨h4, fun _ => .fault _ h⟩
  | fin s x h0 hx h => exact fun hv h4 => ⟨h4, fun _ => .fin _ x h0 hx h⟩
  | step s x t h0 hx h15 h' ih =>
    intro hv h4
    obtain ⟨_, _, hv', _⟩ := step_inv hg hl hv h0 hx h15
    obtain ⟨i1, i2⟩ := ih hv' (fun hf => (stepF_four h0 hf).2.2)
    refine ⟨i1, fun ht => ?_⟩
    have hfu : x.op = 11 → s.fuel ≠ 0 := by
      intro h11 hf
      have hst : (stepF x s).fault = 4 := by
        obtain ⟨C, S, a, f, z⟩ := s
        simp only at hf
        simp [stepF, moveF, ctlF, h11, hf]
      cases h' with
      | fault _ _ => exact ht hst
      | fin _ _ k0 _ _ => rw [hst] at k0; cases k0
      | step _ _ _ k0 _ _ _ => rw [hst] at k0; cases k0
    have := i2 ht
    rw [← stepF_more m hm x s hv.nums.fuel.1 hfu] at this
    exact .step _ x _ h0 hx h15 this
end Go.Am
end
section
namespace Go.Am
open Go Go.Proofs
set_option maxRecDepth 20000
theorem same16_loop (A B : List Int) (hl : A.length = B.length) (hA : A.length ≤ 100000) (k : Kt) (R : Ans) : ∀ (ra rb : List Int) (i : Nat), A.drop i = ra → B.drop i = rb → i + ra.length = A.length →
    ((if ra = rb then k (.exit 0) ⟨26, gl0, [(0, true, .d (.list (A.map jD))), (1, true, .d (.list (B.map jD))), (5, true, .d (.int .i64 A.length)), (14, true, .d (.bool false))], []⟩ else k .ret ⟨26, gl0, [(4, true, .d (.bool false))], []⟩) = R) →
    denK ctx 20 (.loop (Code.at (codeOf Tryz.f20) [1, 1, 0, 1, 0, 0])) ⟨26, gl0, [(0, true, .d (.list (A.map jD))), (1, true, .d (.list (B.map jD))), (5, true, .d (.int .i64 i))], []⟩ k = R := by
  intro ra
  induction ra with
  | nil =>
    intro rb i ha hb hi hx
    have hi : i = A.length := by simpa using hi
    subst hi
    have hrb : rb = [] := by rw [← hb]; exact List.drop_eq_nil_of_le (by omega)
    subst hrb
    simp at hx
    rw [denK_loop]
    simp [Tryz.f20, hx]
  | cons a ra ih =>
    intro rb i ha hb hi hx
    have hlt : i < A.length := by simp at hi; omega
    have hltB : i < B.length := by omega
    have hae : A[i] = a := by
      have := congrArg (·[0]?) ha
      simp at this
      simpa [hlt] using this
    obtain ⟨b, rb', rfl⟩ : ∃ b rb', rb = b :: rb' := by
      match rb, hb with
      | [], hb => have := congrArg List.length hb; simp at this; omega
      | b :: rb', _ => exact ⟨b, rb', rfl⟩
    have hbe : B[i] = b := by
      have := congrArg (·[0]?) hb
      simp at this
      simpa [hltB] using this
    have w1 : IntKind.i64.wrap ((i : Int) + 1) = (i : Int) + 1 := wrap_id (by unfold I64; omega)
    rw [denK_loop]
    by_cases hab : a = b
    · subst hab
      have ih := ih rb' (i + 1) (by rw [← List.tail_drop, ha]; rfl) (by rw [← List.tail_drop, hb]; rfl) (by simp at hi; omega) (by simpa using hx)
      simp [Tryz.f20] at ih ⊢
      simp [hlt, hltB, hae, hbe, w1, drwK_end, ih]
    · rw [if_neg (by simp [hab])] at hx
      simp [Tryz.f20]
      simp [hlt, hltB, hae, hbe, hab, drwK_end, hx]
theorem same16_run (A B : List Int) (hA : A.length ≤ 100000) : callT ctx 20 [.d (.list (A.map jD)), .d (.list (B.map jD))] [] = some (.ret (.d (.bool (decide (A = B)))), []) := by
  rw [run20 (by simp)]
  by_cases hl : A.length = B.length
  · have hloop := fun k R hx => same16_loop A B hl hA k R A B 0 (by simp) (by simp) (by simp) hx
    have hl2 : (A.length : Int) = (B.length : Int) := by omega
    simp [Tryz.f20] at hloop
    simp [Tryz.f20, hl2]
    rw [hloop]
    by_cases hab : A = B <;> simp [hab]
  · have hab : A ≠ B := fun h => hl (by rw [h])
    have hl2 : ¬ (A.length : Int) = (B.length : Int) := by omega
    simp [Tryz.f20, hl2, hab]
theorem same23_run (A B : List Int) (f g u v : Int) (hA : A.length ≤ 100000) : callT ctx 9 [.d (ranD A f u), .d (ranD B g v)] [] = some (.ret (.d (.bool (decide (A = B ∧ f = g ∧ u = v)))), []) := by
  have hs := same16_run A B hA
  rw [run9 (by simp)]
  try simp at hs
  by_cases h1 : A = B
  · subst h1
    simp at hs
    by_cases h2 : f = g <;> by_cases h3 : u = v <;> simp [Tryz.f9, hs, h2, h3]
  · simp [h1] at hs
    simp [Tryz.f9, hs, h1]
end Go.Am
end
section
namespace Go.Am
open Go Go.Proofs
set_option maxRecDepth 20000
theorem rpins10 : retLen (callN ctx 120 31 [.d (.int .i64 10)] []) = some 4 := by kernel_rfl
theorem rpins11 : retLen (callN ctx 120 31 [.d (.int .i64 11)] []) = some 4 := by kernel_rfl
theorem rpins12 : retLen (callN ctx 120 31 [.d (.int .i64 12)] []) = some 6 := by kernel_rfl
theorem rpins13 : retLen (callN ctx 120 31 [.d (.int .i64 13)] []) = some 6 := by kernel_rfl
theorem rpins14 : retLen (callN ctx 120 31 [.d (.int .i64 14)] []) = some 6 := by kernel_rfl
theorem rpins15 : retLen (callN ctx 120 31 [.d (.int .i64 15)] []) = some 3 := by kernel_rfl
theorem rpins16 : retLen (callN ctx 120 31 [.d (.int .i64 16)] []) = some 3 := by kernel_rfl
theorem rpins17 : retLen (callN ctx 120 31 [.d (.int .i64 17)] []) = some 3 := by kernel_rfl
theorem rpins18 : retLen (callN ctx 120 31 [.d (.int .i64 18)] []) = some 3 := by kernel_rfl
theorem rpins19 : retLen (callN ctx 120 31 [.d (.int .i64 19)] []) = some 0 := by kernel_rfl
theorem rpins20 : retLen (callN ctx 120 31 [.d (.int .i64 20)] []) = some 4 := by kernel_rfl
theorem rpins21 : retLen (callN ctx 120 31 [.d (.int .i64 21)] []) = some 9 := by kernel_rfl
theorem rpins22 : retLen (callN ctx 120 31 [.d (.int .i64 22)] []) = some 9 := by kernel_rfl
theorem rpins23 : retLen (callN ctx 120 31 [.d (.int .i64 23)] []) = some 9 := by kernel_rfl
theorem rpins24 : retLen (callN ctx 120 31 [.d (.int .i64 24)] []) = some 12 := by kernel_rfl
theorem rpins25 : retLen (callN ctx 120 31 [.d (.int .i64 25)] []) = some 12 := by kernel_rfl
theorem rpins26 : retLen (callN ctx 120 31 [.d (.int .i64 26)] []) = some 12 := by kernel_rfl
theorem rpins27 : retLen (callN ctx 120 31 [.d (.int .i64 27)] []) = some 10 := by kernel_rfl
theorem rpins28 : retLen (callN ctx 120 31 [.d (.int .i64 28)] []) = some 12 := by kernel_rfl
theorem rpins29 : retLen (callN ctx 120 31 [.d (.int .i64 29)] []) = some 5 := by kernel_rfl
theorem rpins30 : retLen (callN ctx 120 31 [.d (.int .i64 30)] []) = some 6 := by kernel_rfl
theorem rpins31 : retLen (callN ctx 120 31 [.d (.int .i64 31)] []) = some 4 := by kernel_rfl
theorem rpins_ok : PinsOk 31 pinsN := by
  intro b
  by_cases h1 : b < 10
  · refine ⟨[], ?_, ?_, ?_⟩
    · rw [run31 (by simp)]
      simp [Tryz.f31, h1]
    · unfold pinsN; repeat' (rw [if_neg (by omega)])
      rfl
    · unfold pinsN; repeat' (rw [if_neg (by omega)])
      omega
  by_cases h2 : 31 < b
  · refine ⟨[], ?_, ?_, ?_⟩
    · rw [run31 (by simp)]
      simp [Tryz.f31, h1, h2]
    · unfold pinsN; repeat' (rw [if_neg (by omega)])
      rfl
    · unfold pinsN; repeat' (rw [if_neg (by omega)])
      omega
  have h : b = 10 ∨ b = 11 ∨ b = 12 ∨ b = 13 ∨ b = 14 ∨ b = 15 ∨ b = 16 ∨ b = 17 ∨ b = 18 ∨ b = 19 ∨ b = 20 ∨ b = 21 ∨ b = 22 ∨ b = 23 ∨ b = 24 ∨ b = 25 ∨ b = 26 ∨ b = 27 ∨ b = 28 ∨ b = 29 ∨ b = 30 ∨ b = 31 := by omega
  rcases h with rfl | rfl | rfl | rfl | rfl | rfl | rfl | rfl | rfl | rfl | rfl | rfl | rfl | rfl | rfl | rfl | rfl | rfl | rfl | rfl | rfl | rfl
  · obtain ⟨l, h1, h2⟩ := pins_of rpins10; exact ⟨l, h1, by rw [h2]; rfl, by decide⟩
  · obtain ⟨l, h1, h2⟩ := pins_of rpins11; exact ⟨l, h1, by rw [h2]; rfl, by decide⟩
  · obtain ⟨l, h1, h2⟩ := pins_of rpins12; exact ⟨l, h1, by rw [h2]; rfl, by decide⟩
  · obtain ⟨l, h1, h2⟩ := pins_of rpins13; exact ⟨l, h1, by rw [h2]; rfl, by decide⟩
  · obtain ⟨l, h1, h2⟩ := pins_of rpins14; exact ⟨l, h1, by rw [h2]; rfl, by decide⟩
  · obtain ⟨l, h1, h2⟩ := pins_of rpins15; exact ⟨l, h1, by rw [h2]; rfl, by decide⟩
  · obtain ⟨l, h1, h2⟩ := pins_of rpins16; exact ⟨l, h1, by rw [h2]; rfl, by decide⟩
  · obtain ⟨l, h1, h2⟩ := pins_of rpins17; exact ⟨l, h1, by rw [h2]; rfl, by decide⟩
  · obtain ⟨l, h1, h2⟩ := pins_of rpins18; exact ⟨l, h1, by rw [h2]; rfl, by decide⟩
  · obtain ⟨l, h1, h2⟩ := pins_of rpins19; exact ⟨l, h1, by rw [h2]; rfl, by decide⟩
  · obtain ⟨l, h1, h2⟩ := pins_of rpins20; exact ⟨l, h1, by rw [h2]; rfl, by decide⟩
  · obtain ⟨l, h1, h2⟩ := pins_of rpins21; exact ⟨l, h1, by rw [h2]; rfl, by decide⟩
  · obtain ⟨l, h1, h2⟩ := pins_of rpins22; exact ⟨l, h1, by rw [h2]; rfl, by decide⟩
  · obtain ⟨l, h1, h2⟩ := pins_of rpins23; exact ⟨l, h1, by rw [h2]; rfl, by decide⟩
  · obtain ⟨l, h1, h2⟩ := pins_of rpins24; exact ⟨l, h1, by rw [h2]; rfl, by decide⟩
  · obtain ⟨l, h1, h2⟩ := pins_of rpins25; exact ⟨l, h1, by rw [h2]; rfl, by decide⟩
  · obtain ⟨l, h1, h2⟩ := pins_of rpins26; exact ⟨l, h1, by rw [h2]; rfl, by decide⟩
  · obtain ⟨l, h1, h2⟩ := pins_of rpins27; exact ⟨l, h1, by rw [h2]; rfl, by decide⟩
  · obtain ⟨l, h1, h2⟩ := pins_of rpins28; exact ⟨l, h1, by rw [h2]; rfl, by decide⟩
  · obtain ⟨l, h1, h2⟩ := pins_of rpins29; exact ⟨l, h1, by rw [h2]; rfl, by decide⟩
  · obtain ⟨l, h1, h2⟩ := pins_of rpins30; exact ⟨l, h1, by rw [h2]; rfl, by decide⟩
  · obtain ⟨l, h1, h2⟩ := pins_of rpins31; exact ⟨l, h1, by rw [h2]; rfl, by decide⟩
end Go.Am
end
section
namespace Go.Am
open Go Go.Proofs
set_option maxRecDepth 20000
theorem rg3 : List.range' 0 3 = [0, 1, 2] := rfl
theorem rg4 : List.range' 0 4 = [0, 1, 2, 3] := rfl
theorem rg6 : List.range' 0 6 = [0, 1, 2, 3, 4, 5] := rfl
theorem rnum_run (b : Bool) : callT ctx 71 [.d (.bool b)] [] = some (.ret (.d (.int .i64 (oneZ b))), []) := by
  rw [run71 (by simp)]
  cases b <;> simp [Tryz.f71, oneZ]
theorem rup_run (e b : Int) (he : I64 e) (hb : I64 b) : callT ctx 70 [.d (.int .i64 e), .d (.int .i64 b)] [] = some (.ret (.d (.int .i64 (upZ e b))), []) := by
  rw [run70 (by simp)]
  unfold upZ
  by_cases h : e < b
  · have w : IntKind.i64.wrap (e + 1) = e + 1 := wrap_id (by unfold I64 at *; omega)
    simp [Tryz.f70, h, w]
  · simp [Tryz.f70, h]
set_option maxHeartbeats 4000000 in
theorem rstep_other (k : Int) (c : List Int) (hc : c.length = pinsN k) (hk : k < 10 ∨ 18 < k) : callT ctx 48 [.d (.int .i64 k), .d (.list (c.map jD))] [] = some (.ret (.d (.list (c.map jD))), []) := by
  obtain ⟨pl, hp1, hp2, hp3⟩ := rpins_ok k
  have hlen : (pl.length : Int) = c.length := by omega
  have h2 : c.length * 8 ≤ 140737488355328 := by omega
  have h3 : c.length ≤ 4611686018427387904 := by omega
  have ht : (c.map jD).take c.length = c.map jD := List.take_of_length_le (by simp)
  rw [run48 (by simp)]
  try simp at hp1
  simp [Tryz.f48, hp1, hlen, h2, h3, ht, show ¬ k = 10 by omega, show ¬ k = 11 by omega, show ¬ k = 12 by omega, show ¬ k = 13 by omega, show ¬ k = 14 by omega, show ¬ k = 15 by omega, show ¬ k = 16 by omega, show ¬ k = 17 by omega, show ¬ k = 18 by omega, drwK_end]
set_option maxHeartbeats 4000000 in
theorem rstep_run (k : Int) (c : List Int) (hc : c.length = pinsN k) (hI : ∀ x ∈ c, I64 x) : callT ctx 48 [.d (.int .i64 k), .d (.list (c.map jD))] [] = some (.ret (.d (.list ((stepB k c).map jD))), []) := by
  by_cases hk : k < 10 ∨ 18 < k
  · rw [stepB_other hk]; exact rstep_other k c hc hk
  · have hk' : k = 10 ∨ k = 11 ∨ k = 12 ∨ k = 13 ∨ k = 14 ∨ k = 15 ∨ k = 16 ∨ k = 17 ∨ k = 18 := by omega
    clear hk
    obtain ⟨pl, hp1, hp2, hp3⟩ := rpins_ok k
    have hlen : (pl.length : Int) = c.length := by omega
    have ht := rnum_run
    rw [run48 (by simp)]
    have pin : (k = 10 ∨ k = 11 → pinsN k = 4) ∧ (k = 12 ∨ k = 13 ∨ k = 14 → pinsN k = 6) ∧ (k = 15 ∨ k = 16 ∨ k = 17 ∨ k = 18 → pinsN k = 3) := by
      refine ⟨?_, ?_, ?_⟩
      · rintro (rfl | rfl) <;> rfl
      · rintro (rfl | rfl | rfl) <;> rfl
      · rintro (rfl | rfl | rfl | rfl) <;> rfl
    obtain ⟨p4, p6, p3⟩ := pin
    rcases hk' with h | h | h | h | h | h | h | h | h
    · obtain ⟨a, b, q, e, rfl⟩ := len4 (hc.trans (p4 (by omega)))
      have hu := rup_run e b (hI _ (by simp)) (hI _ (by simp))
      subst h
      simp at hp1 hlen
      clear hI hc p3 p4 p6 hp2 hp3
      rcases Decidable.em (a = 0) with rfl | ha <;> simp [Tryz.f48, stepB, step4, drwK_end, bne, rg3, rg4, rg6, *]
    · obtain ⟨a, b, q, e, rfl⟩ := len4 (hc.trans (p4 (by omega)))
      have hu := rup_run e b (hI _ (by simp)) (hI _ (by simp))
      subst h
      simp at hp1 hlen
      clear hI hc p3 p4 p6 hp2 hp3
      rcases Decidable.em (a = 0) with rfl | ha <;> rcases Decidable.em (q = 0) with rfl | hq <;> simp [Tryz.f48, stepB, step4, drwK_end, bne, rg3, rg4, rg6, *]
    · obtain ⟨a, b, q, e, p, r, rfl⟩ := len6 (hc.trans (p6 (by omega)))
      have he : I64 e := hI _ (by simp)
      have hb : I64 b := hI _ (by simp)
      unfold I64 at he hb
      have w : e < b → IntKind.i64.wrap (e + 1) = e + 1 := fun h => wrap_id (by unfold I64; omega)
      subst h
      simp at hp1 hlen
      clear hI hc p3 p4 p6 hp2 hp3
      rcases Decidable.em (a = 0) with rfl | ha
      · rcases Decidable.em (r = 0) with rfl | hr
        · simp [Tryz.f48, stepB, step6, tpS, drwK_end, bne, rg3, rg4, rg6, hp1, hlen, ht]
        · rcases Decidable.em (e < b) with hlt | hlt
          · have w := w hlt
            simp [Tryz.f48, stepB, step6, tpS, upZ, oneZ, drwK_end, bne, rg3, rg4, rg6, hp1, hlen, ht, hr, hlt, w]
          · simp [Tryz.f48, stepB, step6, tpS, upZ, oneZ, drwK_end, bne, rg3, rg4, rg6, hp1, hlen, ht, hr, hlt]
      · rcases Decidable.em (r = 0) with rfl | hr
        · rcases Decidable.em (p = 0) with rfl | hp
          · rcases Decidable.em (0 < b) with hlt | hlt <;> simp [Tryz.f48, stepB, step6, tpS, upZ, oneZ, drwK_end, bne, rg3, rg4, rg6, hp1, hlen, ht, ha, hlt]
          · simp [Tryz.f48, stepB, step6, tpS, drwK_end, bne, rg3, rg4, rg6, hp1, hlen, ht, ha, hp]
        · rcases Decidable.em (e < b) with hlt | hlt
          · have w := w hlt
            rcases Decidable.em (p = 0) with rfl | hp <;> simp [Tryz.f48, stepB, step6, tpS, upZ, oneZ, drwK_end, bne, rg3, rg4, rg6, hp1, hlen, ht, ha, hr, hlt, w, *]
          · rcases Decidable.em (p = 0) with rfl | hp <;> simp [Tryz.f48, stepB, step6, tpS, upZ, oneZ, drwK_end, bne, rg3, rg4, rg6, hp1, hlen, ht, ha, hr, hlt, *]
    · obtain ⟨a, b, q, e, p, r, rfl⟩ := len6 (hc.trans (p6 (by omega)))
      have he : I64 p := hI _ (by simp)
      unfold I64 at he
      have w : ¬ p = 9223372036854775807 → IntKind.i64.wrap (p + 1) = p + 1 ∧ p < 9223372036854775807 := fun h => ⟨wrap_id (by unfold I64; omega), by omega⟩
      subst h
      simp at hp1 hlen
      clear hI hc p3 p4 p6 hp2 hp3 he
      rcases Decidable.em (b = 0) with rfl | hb
      · rcases Decidable.em (a = 0) with rfl | ha
        · simp [Tryz.f48, stepB, step6, cuS, drwK_end, bne, rg3, rg4, rg6, hp1, hlen, ht]
        · rcases Decidable.em (r = 0) with rfl | hr
          · rcases Decidable.em (p = 9223372036854775807) with rfl | hm
            · simp [Tryz.f48, stepB, step6, cuS, drwK_end, bne, rg3, rg4, rg6, hp1, hlen, ht, ha]
            · obtain ⟨w, w2⟩ := w hm
              simp [Tryz.f48, stepB, step6, cuS, drwK_end, bne, rg3, rg4, rg6, hp1, hlen, ht, ha, hm, w, w2]
          · simp [Tryz.f48, stepB, step6, cuS, drwK_end, bne, rg3, rg4, rg6, hp1, hlen, ht, ha, hr]
      · rcases Decidable.em (a = 0) with rfl | ha <;> simp [Tryz.f48, stepB, step6, cuS, drwK_end, bne, rg3, rg4, rg6, hp1, hlen, ht, hb, *]
    · obtain ⟨a, b, q, e, p, r, rfl⟩ := len6 (hc.trans (p6 (by omega)))
      have he : I64 p := hI _ (by simp)
      unfold I64 at he
      have w : ¬ p = -9223372036854775808 → IntKind.i64.wrap (p - 1) = p - 1 ∧ -9223372036854775808 < p := fun h => ⟨wrap_id (by unfold I64; omega), by omega⟩
      subst h
      simp at hp1 hlen
      clear hI hc p3 p4 p6 hp2 hp3 he
      rcases Decidable.em (b = 0) with rfl | hb
      · rcases Decidable.em (a = 0) with rfl | ha
        · simp [Tryz.f48, stepB, step6, cdS, drwK_end, bne, rg3, rg4, rg6, hp1, hlen, ht]
        · rcases Decidable.em (r = 0) with rfl | hr
          · rcases Decidable.em (p = -9223372036854775808) with rfl | hm
            · simp [Tryz.f48, stepB, step6, cdS, drwK_end, bne, rg3, rg4, rg6, hp1, hlen, ht, ha]
            · obtain ⟨w, w2⟩ := w hm
              simp [Tryz.f48, stepB, step6, cdS, drwK_end, bne, rg3, rg4, rg6, hp1, hlen, ht, ha, hm, w, w2]
          · simp [Tryz.f48, stepB, step6, cdS, drwK_end, bne, rg3, rg4, rg6, hp1, hlen, ht, ha, hr]
      · rcases Decidable.em (a = 0) with rfl | ha <;> simp [Tryz.f48, stepB, step6, cdS, drwK_end, bne, rg3, rg4, rg6, hp1, hlen, ht, hb, *]
    · obtain ⟨a, b, q, rfl⟩ := len3 (hc.trans (p3 (by omega)))
      subst h
      simp at hp1 hlen
      clear hI hc p3 p4 p6 hp2 hp3
      rcases Decidable.em (a = 0) with rfl | ha <;> rcases Decidable.em (q = 0) with rfl | hq <;> simp [Tryz.f48, stepB, step3, drwK_end, bne, rg3, rg4, rg6, *]
    · obtain ⟨a, b, q, rfl⟩ := len3 (hc.trans (p3 (by omega)))
      subst h
      simp at hp1 hlen
      clear hI hc p3 p4 p6 hp2 hp3
      rcases Decidable.em (a = 0) with rfl | ha <;> rcases Decidable.em (q = 0) with rfl | hq <;> simp [Tryz.f48, stepB, step3, drwK_end, bne, rg3, rg4, rg6, *]
    · obtain ⟨a, b, q, rfl⟩ := len3 (hc.trans (p3 (by omega)))
      subst h
      simp at hp1 hlen
      clear hI hc p3 p4 p6 hp2 hp3
      rcases Decidable.em (a = 0) with rfl | ha <;> rcases Decidable.em (q = 0) with rfl | hq <;> rcases Decidable.em (b = 0) with rfl | hb <;> simp [Tryz.f48, stepB, step3, drwK_end, bne, rg3, rg4, rg6, *]
    · obtain ⟨a, b, q, rfl⟩ := len3 (hc.trans (p3 (by omega)))
      subst h
      simp at hp1 hlen
      clear hI hc p3 p4 p6 hp2 hp3
      rcases Decidable.em (a = 0) with rfl | ha <;> rcases Decidable.em (q = 0) with rfl | hq <;> rcases Decidable.em (b = 0) with rfl | hb <;> simp [Tryz.f48, stepB, step3, drwK_end, bne, rg3, rg4, rg6, *]
end Go.Am
end
section
namespace Go.Am
open Go Go.Proofs
set_option maxRecDepth 20000
def uD (n : Nat) : D := .int .u64 (n : Int)
/-- A size in its parts, and its sign. -/
def wdD (m : Nat) (s : Bool) : D := .agg [.int .u64 (q0 m : Nat), .int .u64 (q1 m : Nat), .int .u64 (q2 m : Nat), .int .u64 (q3 m : Nat), .bool s]
theorem ucast (a b : Nat) : (a : Int) + (b : Int) = ((a + b : Nat) : Int) := (Int.natCast_add a b).symm
theorem umul (a b : Nat) : (a : Int) * (b : Int) = ((a * b : Nat) : Int) := (Int.natCast_mul a b).symm
theorem uwr (a : Nat) (h : a < 18446744073709551616) : IntKind.u64.wrap (a : Int) = (a : Int) := by rw [IntKind.wrap_u64]; omega
theorem utd (a : Nat) : (a : Int).tdiv 4294967296 = ((a / 4294967296 : Nat) : Int) := by rw [Int.tdiv_eq_ediv_of_nonneg (by omega)]; omega
theorem utm (a : Nat) : (a : Int).tmod 4294967296 = ((a % 4294967296 : Nat) : Int) := by rw [Int.tmod_eq_emod_of_nonneg (by omega)]; omega
theorem sum_run (m n : Nat) (s s2 : Bool) (h : m + n < 340282366920938463463374607431768211456) : callT ctx 97 [.d (wdD m s), .d (wdD n s2)] [] = some (.ret (.d (wdD (m + n) s)), []) := by
  obtain ⟨e0, e1, e2, e3⟩ := dsum m n h
  obtain ⟨a0, a1, a2, a3⟩ := q_lt m
  obtain ⟨b0, b1, b2, b3⟩ := q_lt n
  unfold wdD
  rw [← e0, ← e1, ← e2, ← e3]
  generalize q0 m = m0 at *
  generalize q1 m = m1 at *
  generalize q2 m = m2 at *
  generalize q3 m = m3 at *
  generalize q0 n = n0 at *
  generalize q1 n = n1 at *
  generalize q2 n = n2 at *
  generalize q3 n = n3 at *
  clear e0 e1 e2 e3
  have x0 : IntKind.u64.wrap ((m0 : Int) + n0) = ((m0 + n0 : Nat) : Int) := by rw [ucast, uwr _ (by omega)]
  generalize hx0 : m0 + n0 = y0 at *
  have z0 : IntKind.u64.wrap (y0 : Int) = y0 := uwr _ (by omega)
  have x1 : IntKind.u64.wrap ((m1 : Int) + n1) = ((m1 + n1 : Nat) : Int) := by rw [ucast, uwr _ (by omega)]
  have x1' : IntKind.u64.wrap (((m1 + n1 : Nat) : Int) + ((y0 / 4294967296 : Nat) : Int)) = ((m1 + n1 + y0 / 4294967296 : Nat) : Int) := by rw [ucast, uwr _ (by omega)]
  generalize hx1 : m1 + n1 = k1 at *
  generalize hc1 : y0 / 4294967296 = c1 at *
  have x2 : IntKind.u64.wrap ((m2 : Int) + n2) = ((m2 + n2 : Nat) : Int) := by rw [ucast, uwr _ (by omega)]
  generalize hy1 : k1 + c1 = y1 at *
  have x2' : IntKind.u64.wrap (((m2 + n2 : Nat) : Int) + ((y1 / 4294967296 : Nat) : Int)) = ((m2 + n2 + y1 / 4294967296 : Nat) : Int) := by rw [ucast, uwr _ (by omega)]
  generalize hx2 : m2 + n2 = k2 at *
  generalize hc2 : y1 / 4294967296 = c2 at *
  have x3 : IntKind.u64.wrap ((m3 : Int) + n3) = ((m3 + n3 : Nat) : Int) := by rw [ucast, uwr _ (by omega)]
  generalize hy2 : k2 + c2 = y2 at *
  have x3' : IntKind.u64.wrap (((m3 + n3 : Nat) : Int) + ((y2 / 4294967296 : Nat) : Int)) = ((m3 + n3 + y2 / 4294967296 : Nat) : Int) := by rw [ucast, uwr _ (by omega)]
  generalize hx3 : m3 + n3 = k3 at *
  generalize hc3 : y2 / 4294967296 = c3 at *
  generalize hy3 : k3 + c3 = y3 at *
  have d0 := utd y0
  have d1 := utd y1
  have d2 := utd y2
  have d3 := utd y3
  have r0 := utm y0
  have r1 := utm y1
  have r2 := utm y2
  have r3 := utm y3
  have w0 : IntKind.u64.wrap ((y0 / 4294967296 : Nat) : Int) = ((y0 / 4294967296 : Nat) : Int) := uwr _ (by omega)
  have w1 : IntKind.u64.wrap ((y1 / 4294967296 : Nat) : Int) = ((y1 / 4294967296 : Nat) : Int) := uwr _ (by omega)
  have w2 : IntKind.u64.wrap ((y2 / 4294967296 : Nat) : Int) = ((y2 / 4294967296 : Nat) : Int) := uwr _ (by omega)
  have w3 : IntKind.u64.wrap ((y3 / 4294967296 : Nat) : Int) = ((y3 / 4294967296 : Nat) : Int) := uwr _ (by omega)
  rw [hc1] at d0 w0
  rw [hc2] at d1 w1
  rw [hc3] at d2 w2
  generalize y3 / 4294967296 = c4 at *
  generalize y0 % 4294967296 = g0 at *
  generalize y1 % 4294967296 = g1 at *
  generalize y2 % 4294967296 = g2 at *
  generalize y3 % 4294967296 = g3 at *
  rw [run97 (by simp)]
  simp [Tryz.f97]
  rw [denK_loop]
  simp [x0, z0, d0, r0, w0, drwK_end]
  rw [denK_loop]
  simp [x1, x1', d1, r1, w1, drwK_end]
  rw [denK_loop]
  simp [x2, x2', d2, r2, w2, drwK_end]
  rw [denK_loop]
  simp [x3, x3', d3, r3, w3, drwK_end]
  rw [denK_loop]
  simp
def cmpZ (m n : Nat) : Int := if m < n then -1 else if n < m then 1 else 0
theorem cmp_run (m n : Nat) (s s2 : Bool) (hm : m < 340282366920938463463374607431768211456) (hn : n < 340282366920938463463374607431768211456) : callT ctx 98 [.d (wdD m s), .d (wdD n s2)] [] = some (.ret (.d (.int .i64 (cmpZ m n))), []) := by
  have h1 := dcmp m n hm hn
  have h2 := dcmp n m hn hm
  unfold wdD cmpZ
  rw [run98 (by simp)]
  generalize q0 m = m0 at *
  generalize q1 m = m1 at *
  generalize q2 m = m2 at *
  generalize q3 m = m3 at *
  generalize q0 n = n0 at *
  generalize q1 n = n1 at *
  generalize q2 n = n2 at *
  generalize q3 n = n3 at *
  simp [Tryz.f98]
  rw [denK_loop]
  rcases Nat.lt_trichotomy m3 n3 with c | c | c
  · have a1 : m < n := by omega
    simp [c, a1, drwK_end]
  · subst c
    simp [drwK_end]
    rw [denK_loop]
    rcases Nat.lt_trichotomy m2 n2 with c | c | c
    · have a1 : m < n := by omega
      simp [c, a1, drwK_end]
    · subst c
      simp [drwK_end]
      rw [denK_loop]
      rcases Nat.lt_trichotomy m1 n1 with c | c | c
      · have a1 : m < n := by omega
        simp [c, a1, drwK_end]
      · subst c
        simp [drwK_end]
        rw [denK_loop]
        rcases Nat.lt_trichotomy m0 n0 with c | c | c
        · have a1 : m < n := by omega
          simp [c, a1, drwK_end]
        · subst c
          have a1 : ¬ m < n := by omega
          have a2 : ¬ n < m := by omega
          simp [drwK_end]
          rw [denK_loop]
          simp [a1, a2]
        · have a1 : ¬ m < n := by omega
          have a2 : n < m := by omega
          have c2 : ¬ m0 < n0 := by omega
          simp [c, c2, a1, a2, drwK_end]
      · have a1 : ¬ m < n := by omega
        have a2 : n < m := by omega
        have c2 : ¬ m1 < n1 := by omega
        simp [c, c2, a1, a2, drwK_end]
    · have a1 : ¬ m < n := by omega
      have a2 : n < m := by omega
      have c2 : ¬ m2 < n2 := by omega
      simp [c, c2, a1, a2, drwK_end]
  · have a1 : ¬ m < n := by omega
    have a2 : n < m := by omega
    have c2 : ¬ m3 < n3 := by omega
    simp [c, c2, a1, a2, drwK_end]
theorem less_run (m n : Nat) (s s2 : Bool) (hm : m < 340282366920938463463374607431768211456) (h : n ≤ m) : callT ctx 99 [.d (wdD m s), .d (wdD n s2)] [] = some (.ret (.d (wdD (m - n) s)), []) := by
  obtain ⟨e0, e1, e2, e3⟩ := dless m n _ _ _ _ hm h rfl rfl rfl rfl
  obtain ⟨a0, a1, a2, a3⟩ := q_lt m
  obtain ⟨b0, b1, b2, b3⟩ := q_lt n
  unfold wdD
  rw [← e0, ← e1, ← e2, ← e3]
  generalize q0 m = m0 at *
  generalize q1 m = m1 at *
  generalize q2 m = m2 at *
  generalize q3 m = m3 at *
  generalize q0 n = n0 at *
  generalize q1 n = n1 at *
  generalize q2 n = n2 at *
  generalize q3 n = n3 at *
  clear e0 e1 e2 e3
  have key : ∀ (a b c x : Nat), a < 4294967296 → b < 4294967296 → c ≤ 1 → a + 4294967296 - b - c = x →
      IntKind.u64.wrap ((a : Int) + 4294967296) = ((a + 4294967296 : Nat) : Int) ∧ IntKind.u64.wrap (((a + 4294967296 : Nat) : Int) - (b : Int)) = ((a + 4294967296 - b : Nat) : Int) ∧
      IntKind.u64.wrap (((a + 4294967296 - b : Nat) : Int) - (c : Int)) = (x : Int) ∧ IntKind.u64.wrap ((x / 4294967296 : Nat) : Int) = ((x / 4294967296 : Nat) : Int) ∧ IntKind.u64.wrap (1 - ((x / 4294967296 : Nat) : Int)) = ((1 - x / 4294967296 : Nat) : Int) ∧ 1 - x / 4294967296 ≤ 1 := by
    intro a b c x h1 h2 h3 h4
    have hx : x / 4294967296 ≤ 1 := by omega
    refine ⟨?_, ?_, ?_, uwr _ (by omega), ?_, by omega⟩ <;> rw [IntKind.wrap_u64] <;> omega
  obtain ⟨p0, p1, p2, p3, p4, p5⟩ := key m0 n0 0 (m0 + 4294967296 - n0) a0 b0 (by omega) (by omega)
  generalize hx0 : m0 + 4294967296 - n0 = x0 at *
  generalize hc0 : 1 - x0 / 4294967296 = c0 at *
  obtain ⟨s0, s1, s2', s3, s4, s5⟩ := key m1 n1 c0 (m1 + 4294967296 - n1 - c0) a1 b1 p5 (by omega)
  generalize hx1 : m1 + 4294967296 - n1 - c0 = x1 at *
  generalize hc1 : 1 - x1 / 4294967296 = c1 at *
  obtain ⟨t0, t1, t2, t3, t4, t5⟩ := key m2 n2 c1 (m2 + 4294967296 - n2 - c1) a2 b2 s5 (by omega)
  generalize hx2 : m2 + 4294967296 - n2 - c1 = x2 at *
  generalize hc2 : 1 - x2 / 4294967296 = c2 at *
  obtain ⟨v0, v1, v2, v3, v4, v5⟩ := key m3 n3 c2 (m3 + 4294967296 - n3 - c2) a3 b3 t5 (by omega)
  generalize hx3 : m3 + 4294967296 - n3 - c2 = x3 at *
  generalize hc3 : 1 - x3 / 4294967296 = c3 at *
  have d0 := utd x0
  have d1 := utd x1
  have d2 := utd x2
  have d3 := utd x3
  have r0 := utm x0
  have r1 := utm x1
  have r2 := utm x2
  have r3 := utm x3
  generalize x0 / 4294967296 = k0 at *
  generalize x1 / 4294967296 = k1 at *
  generalize x2 / 4294967296 = k2 at *
  generalize x3 / 4294967296 = k3 at *
  generalize x0 % 4294967296 = g0 at *
  generalize x1 % 4294967296 = g1 at *
  generalize x2 % 4294967296 = g2 at *
  generalize x3 % 4294967296 = g3 at *
  generalize m0 + 4294967296 = y0 at *
  generalize m1 + 4294967296 = y1 at *
  generalize m2 + 4294967296 = y2 at *
  generalize m3 + 4294967296 = y3 at *
  generalize y1 - n1 = z1 at *
  generalize y2 - n2 = z2 at *
  generalize y3 - n3 = z3 at *
  clear key hx0 hc0 hx1 hc1 hx2 hc2 hx3 hc3
  simp at p2
  rw [run99 (by simp)]
  simp [Tryz.f99]
  rw [denK_loop]
  simp [p0, p1, p2, p3, p4, d0, r0, drwK_end]
  rw [denK_loop]
  simp [s0, s1, s2', s3, s4, d1, r1, drwK_end]
  rw [denK_loop]
  simp [t0, t1, t2, t3, t4, d2, r2, drwK_end]
  rw [denK_loop]
  simp [v0, v1, v2, v3, v4, d3, r3, drwK_end]
  rw [denK_loop]
  simp
end Go.Am
end
section
namespace Go.Am
open Go Go.Proofs
set_option maxRecDepth 20000
def sgZ (m : Nat) (s : Bool) : Int := if s = true then -(m : Int) else m
theorem q_small {m : Nat} (h : m < 18446744073709551616) : q0 m = m % 4294967296 ∧ q1 m = m / 4294967296 ∧ q2 m = 0 ∧ q3 m = 0 := by unfold q0 q1 q2 q3; omega
theorem of_run (a : Int) (ha : I64 a) : callT ctx 84 [.d (.int .i64 a)] [] = some (.ret (.d (wdD a.natAbs (decide (a < 0)))), []) := by
  unfold I64 at ha
  have hs : a.natAbs < 18446744073709551616 := by omega
  obtain ⟨e0, e1, e2, e3⟩ := q_small hs
  unfold wdD
  rw [e0, e1, e2, e3]
  have h1 := IntKind.wrap_u64 a
  have td := utd a.natAbs
  have tm := utm a.natAbs
  have wd : IntKind.u64.wrap ((a.natAbs / 4294967296 : Nat) : Int) = ((a.natAbs / 4294967296 : Nat) : Int) := uwr _ (by omega)
  rw [run84 (by simp)]
  by_cases h : a < 0
  · have h2 : IntKind.u64.wrap (-IntKind.u64.wrap a) = (a.natAbs : Nat) := by rw [h1, IntKind.wrap_u64]; omega
    generalize a.natAbs = x at *
    generalize x / 4294967296 = xd at *
    generalize x % 4294967296 = xm at *
    simp [Tryz.f84, h, h2, td, tm, wd, drwK_end]
  · have h2 : IntKind.u64.wrap a = (a.natAbs : Nat) := by rw [h1]; omega
    generalize a.natAbs = x at *
    generalize x / 4294967296 = xd at *
    generalize x % 4294967296 = xm at *
    simp [Tryz.f84, h, h2, td, tm, wd, drwK_end]
theorem turned_run (m : Nat) (s : Bool) : callT ctx 85 [.d (wdD m s)] [] = some (.ret (.d (wdD m (!s))), []) := by
  rw [run85 (by simp)]
  unfold wdD
  simp [Tryz.f85, drwK_end]
def plusM (m n : Nat) (s s2 : Bool) : Nat := if s = s2 then m + n else if n ≤ m then m - n else n - m
def plusS (m n : Nat) (s s2 : Bool) : Bool := if s = s2 then s else if n ≤ m then s else s2
theorem plus_run (m n : Nat) (s s2 : Bool) (h : m + n < 340282366920938463463374607431768211456) : callT ctx 83 [.d (wdD m s), .d (wdD n s2)] [] = some (.ret (.d (wdD (plusM m n s s2) (plusS m n s s2))), []) := by
  have h1 := sum_run m n s s2 h
  have h2 := cmp_run m n s s2 (by omega) (by omega)
  have h3 := fun h' => less_run m n s s2 (by omega) h'
  have h4 := fun h' => less_run n m s2 s (by omega) h'
  rw [run83 (by simp)]
  unfold plusM plusS
  unfold wdD at *
  by_cases hs : s = s2
  · subst hs
    simp [Tryz.f83, h1, drwK_end]
  · by_cases hle : n ≤ m
    · have h3 := h3 hle
      have hc : 0 ≤ cmpZ m n := by unfold cmpZ; rw [if_neg (by omega)]; split <;> omega
      have hs' : ¬ (s == s2) = true := by simpa using hs
      simp only [if_neg hs, if_pos hle]
      simp [Tryz.f83, h2, h3, hs, hc, drwK_end]
    · have h4 := h4 (by omega)
      have hc : ¬ 0 ≤ cmpZ m n := by unfold cmpZ; rw [if_pos (by omega)]; omega
      simp only [if_neg hs, if_neg hle]
      simp [Tryz.f83, h2, h4, hs, hc, drwK_end]
theorem room_run (m : Nat) (s : Bool) (hm : m < 340282366920938463463374607431768211456) : callT ctx 82 [.d (wdD m s)] [] = some (.ret (okZ (fitZ (sgZ m s))), []) := by
  rw [run82 (by simp)]
  have hq := q_eq hm
  obtain ⟨a0, a1, a2, a3⟩ := q_lt m
  unfold wdD fitZ sgZ
  generalize q0 m = m0 at *
  generalize q1 m = m1 at *
  generalize q2 m = m2 at *
  generalize q3 m = m3 at *
  by_cases h2 : m2 = 0
  · by_cases h3 : m3 = 0
    · have hx : (m1 * 4294967296 + m0 : Nat) = m := by omega
      have w1 : IntKind.u64.wrap ((m1 : Int) * 4294967296) = ((m1 * 4294967296 : Nat) : Int) := by rw [IntKind.wrap_u64]; omega
      have w2 : IntKind.u64.wrap (((m1 * 4294967296 : Nat) : Int) + (m0 : Int)) = (m : Int) := by rw [IntKind.wrap_u64]; omega
      have w3 := IntKind.wrap_i64 (m : Int)
      have w4 := IntKind.wrap_i64 (-IntKind.i64.wrap (m : Int))
      simp at w1 w2
      by_cases hlt : m < 9223372036854775808
      · have b1 : (m : Int) < 9223372036854775808 := by omega
        have b2 : (m : Int) ≤ 9223372036854775807 := by omega
        have b3 : -9223372036854775808 ≤ (m : Int) := by omega
        have b4 : -9223372036854775808 ≤ -(m : Int) := by omega
        have b5 : -(m : Int) ≤ 9223372036854775807 := by omega
        have k1 : IntKind.i64.wrap (m : Int) = m := by rw [w3]; omega
        have k2 : IntKind.i64.wrap (-(m : Int)) = -(m : Int) := by rw [IntKind.wrap_i64]; omega
        cases s <;> simp [Tryz.f82, h2, h3, w1, w2, b1, b2, b3, b4, b5, k1, k2]
      · have b1 : ¬ (m : Int) < 9223372036854775808 := by omega
        have b2 : ¬ (m : Int) ≤ 9223372036854775807 := by omega
        cases s
        · simp [Tryz.f82, h2, h3, w1, w2, b1, b2]
        · by_cases he : m = 9223372036854775808
          · subst he
            simp [Tryz.f82, h2, h3, w1, w2, b1, b2]
          · have c1 : ¬ (m : Int) = 9223372036854775808 := by omega
            have c2 : ¬ -9223372036854775808 ≤ -(m : Int) := by omega
            simp [Tryz.f82, h2, h3, w1, w2, b1, b2, c1, c2]
    · have b2 : ¬ (m : Int) ≤ 9223372036854775807 := by omega
      have c2 : ¬ -9223372036854775808 ≤ -(m : Int) := by omega
      cases s <;> simp [Tryz.f82, h2, h3, b2, c2]
  · have b2 : ¬ (m : Int) ≤ 9223372036854775807 := by omega
    have c2 : ¬ -9223372036854775808 ≤ -(m : Int) := by omega
    cases s <;> simp [Tryz.f82, h2, b2, c2]
theorem plus_val (m n : Nat) (s s2 : Bool) : sgZ (plusM m n s s2) (plusS m n s s2) = sgZ m s + sgZ n s2 := by
  unfold plusM plusS sgZ
  cases s <;> cases s2 <;> by_cases h : n ≤ m <;> simp [h] <;> omega
theorem sgZ_abs (a : Int) : sgZ a.natAbs (decide (a < 0)) = a := by unfold sgZ; by_cases h : a < 0 <;> simp [h] <;> omega
theorem rAdd_run (a b : Int) (ha : I64 a) (hb : I64 b) : callT ctx 66 [.d (.int .i64 a), .d (.int .i64 b)] [] = some (.ret (okZ (fitZ (a + b))), []) := by
  have h1 := of_run a ha
  have h2 := of_run b hb
  unfold I64 at ha hb
  have h3 := plus_run a.natAbs b.natAbs (decide (a < 0)) (decide (b < 0)) (by omega)
  have hv := plus_val a.natAbs b.natAbs (decide (a < 0)) (decide (b < 0))
  rw [sgZ_abs, sgZ_abs] at hv
  have hlt : plusM a.natAbs b.natAbs (decide (a < 0)) (decide (b < 0)) < 340282366920938463463374607431768211456 := by unfold plusM; split <;> (try split) <;> omega
  have h4 := room_run _ (plusS a.natAbs b.natAbs (decide (a < 0)) (decide (b < 0))) hlt
  rw [hv] at h4
  rw [run66 (by simp)]
  generalize wdD (plusM a.natAbs b.natAbs (decide (a < 0)) (decide (b < 0))) (plusS a.natAbs b.natAbs (decide (a < 0)) (decide (b < 0))) = z at *
  generalize fitZ (a + b) = p at *
  unfold wdD at *
  simp at h3 h4
  simp [Tryz.f66, h1, h2, h3, h4, drwK_end]
theorem rSub_run (a b : Int) (ha : I64 a) (hb : I64 b) : callT ctx 65 [.d (.int .i64 a), .d (.int .i64 b)] [] = some (.ret (okZ (fitZ (a - b))), []) := by
  have h1 := of_run a ha
  have h2 := of_run b hb
  unfold I64 at ha hb
  have h2' := turned_run b.natAbs (decide (b < 0))
  have h3 := plus_run a.natAbs b.natAbs (decide (a < 0)) (!decide (b < 0)) (by omega)
  have hv := plus_val a.natAbs b.natAbs (decide (a < 0)) (!decide (b < 0))
  have hb2 : sgZ b.natAbs (!decide (b < 0)) = -b := by unfold sgZ; by_cases h : b < 0 <;> simp [h] <;> omega
  rw [sgZ_abs, hb2, ← Int.sub_eq_add_neg] at hv
  have hlt : plusM a.natAbs b.natAbs (decide (a < 0)) (!decide (b < 0)) < 340282366920938463463374607431768211456 := by unfold plusM; split <;> (try split) <;> omega
  have h4 := room_run _ (plusS a.natAbs b.natAbs (decide (a < 0)) (!decide (b < 0))) hlt
  rw [hv] at h4
  rw [run65 (by simp)]
  generalize wdD (plusM a.natAbs b.natAbs (decide (a < 0)) (!decide (b < 0))) (plusS a.natAbs b.natAbs (decide (a < 0)) (!decide (b < 0))) = z at *
  generalize wdD b.natAbs (!decide (b < 0)) = z2 at *
  generalize fitZ (a - b) = p at *
  unfold wdD at *
  simp at h3 h4
  simp [Tryz.f65, h1, h2, h2', h3, h4, drwK_end]
end Go.Am
end
section
namespace Go.Am
open Go Go.Proofs
set_option maxRecDepth 20000
theorem wd_0 (p : Nat) (s : Bool) (h : p < 18446744073709551616) : wdD p s = .agg [.int .u64 (p % 4294967296 : Nat), .int .u64 (p / 4294967296 : Nat), .int .u64 0, .int .u64 0, .bool s] := by
  unfold wdD; obtain ⟨e0, e1, e2, e3⟩ := q_small h; rw [e0, e1, e2, e3]; rfl
theorem wd_1 (p : Nat) (s : Bool) (h : p < 18446744073709551616) : wdD (4294967296 * p) s = .agg [.int .u64 0, .int .u64 (p % 4294967296 : Nat), .int .u64 (p / 4294967296 : Nat), .int .u64 0, .bool s] := by
  obtain ⟨e0, e1, e2, e3⟩ := q_of (a := 0) (b := p % 4294967296) (c := p / 4294967296) (d := 0) (by omega) (by omega) (by omega) (by omega) (m := 4294967296 * p) (by omega)
  unfold wdD; rw [e0, e1, e2, e3]; rfl
theorem wd_2 (p : Nat) (s : Bool) (h : p < 18446744073709551616) : wdD (18446744073709551616 * p) s = .agg [.int .u64 0, .int .u64 0, .int .u64 (p % 4294967296 : Nat), .int .u64 (p / 4294967296 : Nat), .bool s] := by
  obtain ⟨e0, e1, e2, e3⟩ := q_of (a := 0) (b := 0) (c := p % 4294967296) (d := p / 4294967296) (by omega) (by omega) (by omega) (by omega) (m := 18446744073709551616 * p) (by omega)
  unfold wdD; rw [e0, e1, e2, e3]; rfl
theorem wd_z : wdD 0 false = .agg [.int .u64 0, .int .u64 0, .int .u64 0, .int .u64 0, .bool false] := rfl
theorem half_lt {a b : Nat} (ha : a < 4294967296) (hb : b < 4294967296) : a * b ≤ 18446744065119617025 := Nat.mul_le_mul (by omega : a ≤ 4294967295) (by omega : b ≤ 4294967295)
theorem times_run (m n : Nat) (s s2 : Bool) (hm : m < 18446744073709551616) (hn : n < 18446744073709551616) : callT ctx 86 [.d (wdD m s), .d (wdD n s2)] [] = some (.ret (.d (wdD (m * n) (s != s2))), []) := by
  obtain ⟨a0, a1, a2, a3⟩ := q_lt m
  obtain ⟨b0, b1, b2, b3⟩ := q_lt n
  have hmq : m = q0 m + 4294967296 * q1 m := by unfold q0 q1; omega
  have hnq : n = q0 n + 4294967296 * q1 n := by unfold q0 q1; omega
  have hp : m * n = q0 m * q0 n + 4294967296 * (q0 m * q1 n) + 4294967296 * (q1 m * q0 n) + 18446744073709551616 * (q1 m * q1 n) := by
    have := Lib.split_mul (q1 m) (q0 m) (q1 n) (q0 n) 4294967296
    rw [Nat.mul_comm (q1 m) 4294967296, Nat.mul_comm (q1 n) 4294967296, Nat.add_comm (4294967296 * q1 m), Nat.add_comm (4294967296 * q1 n), ← hmq, ← hnq] at this
    rw [this]; omega
  have c00 := half_lt a0 b0
  have c01 := half_lt a0 b1
  have c10 := half_lt a1 b0
  have c11 := half_lt a1 b1
  have u00 : IntKind.u64.wrap ((q0 m : Int) * (q0 n : Int)) = ((q0 m * q0 n : Nat) : Int) := by rw [umul, uwr _ (by omega)]
  have u01 : IntKind.u64.wrap ((q0 m : Int) * (q1 n : Int)) = ((q0 m * q1 n : Nat) : Int) := by rw [umul, uwr _ (by omega)]
  have u10 : IntKind.u64.wrap ((q1 m : Int) * (q0 n : Int)) = ((q1 m * q0 n : Nat) : Int) := by rw [umul, uwr _ (by omega)]
  have u11 : IntKind.u64.wrap ((q1 m : Int) * (q1 n : Int)) = ((q1 m * q1 n : Nat) : Int) := by rw [umul, uwr _ (by omega)]
  rw [hp]
  unfold wdD
  generalize q0 m * q0 n = p00 at *
  generalize q0 m * q1 n = p01 at *
  generalize q1 m * q0 n = p10 at *
  generalize q1 m * q1 n = p11 at *
  clear hp hmq hnq
  have s1 := sum_run 0 p00 false false (by omega)
  have s2' := sum_run (0 + p00) (4294967296 * p01) false false (by omega)
  have s3 := sum_run (0 + p00 + 4294967296 * p01) (4294967296 * p10) false false (by omega)
  have s4 := sum_run (0 + p00 + 4294967296 * p01 + 4294967296 * p10) (18446744073709551616 * p11) false false (by omega)
  rw [wd_z, wd_0 p00 _ (by omega)] at s1
  rw [wd_1 p01 _ (by omega)] at s2'
  rw [wd_1 p10 _ (by omega)] at s3
  rw [wd_2 p11 _ (by omega)] at s4
  have d00 := utd p00
  have d01 := utd p01
  have d10 := utd p10
  have d11 := utd p11
  have t00 := utm p00
  have t01 := utm p01
  have t10 := utm p10
  have t11 := utm p11
  have w00 : IntKind.u64.wrap ((p00 / 4294967296 : Nat) : Int) = ((p00 / 4294967296 : Nat) : Int) := uwr _ (by omega)
  have w01 : IntKind.u64.wrap ((p01 / 4294967296 : Nat) : Int) = ((p01 / 4294967296 : Nat) : Int) := uwr _ (by omega)
  have w10 : IntKind.u64.wrap ((p10 / 4294967296 : Nat) : Int) = ((p10 / 4294967296 : Nat) : Int) := uwr _ (by omega)
  have w11 : IntKind.u64.wrap ((p11 / 4294967296 : Nat) : Int) = ((p11 / 4294967296 : Nat) : Int) := uwr _ (by omega)
  generalize ho1 : 0 + p00 = o1 at *
  generalize ho2 : o1 + 4294967296 * p01 = o2 at *
  generalize ho3 : o2 + 4294967296 * p10 = o3 at *
  generalize ho4 : o3 + 18446744073709551616 * p11 = o4 at *
  have e4 : p00 + 4294967296 * p01 + 4294967296 * p10 + 18446744073709551616 * p11 = o4 := by omega
  rw [e4]
  unfold wdD at *
  generalize p00 / 4294967296 = k00 at *
  generalize p01 / 4294967296 = k01 at *
  generalize p10 / 4294967296 = k10 at *
  generalize p11 / 4294967296 = k11 at *
  generalize p00 % 4294967296 = g00 at *
  generalize p01 % 4294967296 = g01 at *
  generalize p10 % 4294967296 = g10 at *
  generalize p11 % 4294967296 = g11 at *
  rw [run86 (by simp)]
  simp [Tryz.f86]
  rw [denK_loop]
  simp
  rw [denK_loop]
  simp [u00, d00, t00, w00, s1, drwK_end]
  rw [denK_loop]
  simp [u01, d01, t01, w01, s2', drwK_end]
  rw [denK_loop]
  simp
  rw [denK_loop]
  simp
  rw [denK_loop]
  simp [u10, d10, t10, w10, s3, drwK_end]
  rw [denK_loop]
  simp [u11, d11, t11, w11, s4, drwK_end]
  rw [denK_loop]
  simp
  rw [denK_loop]
  simp [drwK_end]
end Go.Am
end
section
namespace Go.Am
open Go Go.Proofs
set_option maxRecDepth 20000
/-- A bit of a size. -/
def bitN (m i : Nat) : Nat := m / 2 ^ i % 2
theorem bit_le (m i : Nat) : bitN m i ≤ 1 := by unfold bitN; omega
theorem bit_step (m i : Nat) : m / 2 ^ i = 2 * (m / 2 ^ (i + 1)) + bitN m i := by
  unfold bitN
  rw [Nat.pow_succ, ← Nat.div_div_eq_div_mul]
  omega
theorem div_bit (m k r : Nat) (hr : r < 32) : m / 2 ^ (32 * k) % 4294967296 / 2 ^ r % 2 = bitN m (32 * k + r) := by
  unfold bitN
  rw [Nat.pow_add, ← Nat.div_div_eq_div_mul]
  generalize m / 2 ^ (32 * k) = x
  have e : (4294967296 : Nat) = 2 ^ r * 2 ^ (32 - r) := by rw [← Nat.pow_add, show r + (32 - r) = 32 by omega]
  rw [e, Nat.mod_mul_right_div_self]
  have e2 : 2 ^ (32 - r) = 2 * 2 ^ (31 - r) := by rw [← Nat.pow_succ']; congr 1; omega
  rw [e2, Nat.mod_mul_right_mod]
theorem bit_0 (m r : Nat) (hr : r < 32) : q0 m / 2 ^ r % 2 = bitN m r := by have := div_bit m 0 r hr; simpa [q0] using this
theorem bit_1 (m r : Nat) (hr : r < 32) : q1 m / 2 ^ r % 2 = bitN m (32 + r) := by have := div_bit m 1 r hr; simpa [q1] using this
theorem bit_2 (m r : Nat) (hr : r < 32) : q2 m / 2 ^ r % 2 = bitN m (64 + r) := by have := div_bit m 2 r hr; simpa [q2] using this
theorem bit_3 (m r : Nat) (hr : r < 32) : q3 m / 2 ^ r % 2 = bitN m (96 + r) := by have := div_bit m 3 r hr; simpa [q3] using this
theorem q_even (x : Nat) : q0 (2 * x + 1) = q0 (2 * x) + 1 ∧ q1 (2 * x + 1) = q1 (2 * x) ∧ q2 (2 * x + 1) = q2 (2 * x) ∧ q3 (2 * x + 1) = q3 (2 * x) := by unfold q0 q1 q2 q3; omega
set_option maxHeartbeats 4000000 in
theorem by_loop (m n : Nat) (s s2 : Bool) (hn : 0 < n) (hn2 : n < 18446744073709551616) (hm : m < 340282366920938463463374607431768211456) (k : Kt) (R : Ans)
    (hx : k (.exit 0) ⟨52, gl0, [(2, true, .ptr 200 1 0), (3, true, .ptr 250 1 0), (4, true, .ptr 300 1 0), (5, true, .ptr 350 1 0), (6, true, .ptr 400 1 0), (7, true, .ptr 450 1 0), (8, true, .d (.int .i64 (-1))), (10, true, .d (.bool false))],
      [⟨200, 1, .box [.d (.int .u64 (q0 m : Nat)), .d (.int .u64 (q1 m : Nat)), .d (.int .u64 (q2 m : Nat)), .d (.int .u64 (q3 m : Nat)), .d (.bool s)]⟩, ⟨250, 1, .box [.d (.int .u64 (q0 n : Nat)), .d (.int .u64 (q1 n : Nat)), .d (.int .u64 (q2 n : Nat)), .d (.int .u64 (q3 n : Nat)), .d (.bool s2)]⟩,
       ⟨300, 1, .box [.d (.int .u64 0), .d (.int .u64 0), .d (.int .u64 0), .d (.int .u64 0), .d (.bool false)]⟩, ⟨350, 1, .box [.d (.int .u64 0), .d (.int .u64 0), .d (.int .u64 0), .d (.int .u64 0), .d (.bool false)]⟩,
       ⟨400, 1, .box [.d (.int .u64 (q0 (m / n) : Nat)), .d (.int .u64 (q1 (m / n) : Nat)), .d (.int .u64 (q2 (m / n) : Nat)), .d (.int .u64 (q3 (m / n) : Nat)), .d (.bool false)]⟩,
       ⟨450, 1, .box [.d (.int .u64 (q0 (m % n) : Nat)), .d (.int .u64 (q1 (m % n) : Nat)), .d (.int .u64 (q2 (m % n) : Nat)), .d (.int .u64 (q3 (m % n) : Nat)), .d (.bool false)]⟩]⟩ = R) :
    ∀ (j : Nat), j ≤ 128 → ∀ (Y Q T : Nat), Y = m / 2 ^ j → Q = Y / n → T = Y % n →
    denK ctx 87 (.loop (Code.at (codeOf Tryz.f87) [1, 1, 0, 1, 0, 0])) ⟨52, gl0, [(2, true, .ptr 200 1 0), (3, true, .ptr 250 1 0), (4, true, .ptr 300 1 0), (5, true, .ptr 350 1 0), (6, true, .ptr 400 1 0), (7, true, .ptr 450 1 0), (8, true, .d (.int .i64 ((j : Int) - 1)))],
      [⟨200, 1, .box [.d (.int .u64 (q0 m : Nat)), .d (.int .u64 (q1 m : Nat)), .d (.int .u64 (q2 m : Nat)), .d (.int .u64 (q3 m : Nat)), .d (.bool s)]⟩, ⟨250, 1, .box [.d (.int .u64 (q0 n : Nat)), .d (.int .u64 (q1 n : Nat)), .d (.int .u64 (q2 n : Nat)), .d (.int .u64 (q3 n : Nat)), .d (.bool s2)]⟩,
       ⟨300, 1, .box [.d (.int .u64 0), .d (.int .u64 0), .d (.int .u64 0), .d (.int .u64 0), .d (.bool false)]⟩, ⟨350, 1, .box [.d (.int .u64 0), .d (.int .u64 0), .d (.int .u64 0), .d (.int .u64 0), .d (.bool false)]⟩,
       ⟨400, 1, .box [.d (.int .u64 (q0 Q : Nat)), .d (.int .u64 (q1 Q : Nat)), .d (.int .u64 (q2 Q : Nat)), .d (.int .u64 (q3 Q : Nat)), .d (.bool false)]⟩,
       ⟨450, 1, .box [.d (.int .u64 (q0 T : Nat)), .d (.int .u64 (q1 T : Nat)), .d (.int .u64 (q2 T : Nat)), .d (.int .u64 (q3 T : Nat)), .d (.bool false)]⟩]⟩ k = R
  | 0, _, Y, Q, T, hY, hQ, hT => by
    simp at hY
    subst hY; subst hQ; subst hT
    rw [denK_loop]
    simp [Tryz.f87, hx]
  | i + 1, hj, Y, Q, T, hY, hQ, hT => by
    have ih := fun Q' T' => by_loop m n s s2 hn hn2 hm k R hx i (by omega) (2 * Y + bitN m i) Q' T' (by rw [hY]; exact (bit_step m i).symm)
    obtain ⟨hq, ht⟩ := half (Y := Y) hn (bit_le m i)
    have hTn : T < n := by rw [hT]; exact Nat.mod_lt _ hn
    have hYm : Y < 340282366920938463463374607431768211456 / 2 := by
      rw [hY, Nat.pow_succ, ← Nat.div_div_eq_div_mul]
      have := Nat.div_le_self m (2 ^ i)
      omega
    have hQY : Q ≤ Y := by rw [hQ]; exact Nat.div_le_self _ _
    have ih := ih _ _ hq.symm ht.symm
    rw [← hQ, ← hT] at ih
    have hS := sum_run T T false false (by omega)
    have hS2 := sum_run Q Q false false (by omega)
    rw [show T + T = 2 * T by omega] at hS
    rw [show Q + Q = 2 * Q by omega] at hS2
    have hb := bit_le m i
    have hC := cmp_run (2 * T + bitN m i) n false s2 (by omega) (by omega)
    have hL := fun h => less_run (2 * T + bitN m i) n false s2 (by omega) h
    have lT := (q_lt (2 * T)).1
    have lQ := (q_lt (2 * Q)).1
    have wT : IntKind.u64.wrap ((q0 (2 * T) : Int) + 1) = ((q0 (2 * T) + 1 : Nat) : Int) := by rw [show (q0 (2 * T) : Int) + 1 = ((q0 (2 * T) + 1 : Nat) : Int) by omega, uwr _ (by omega)]
    have wQ : IntKind.u64.wrap ((q0 (2 * Q) : Int) + 1) = ((q0 (2 * Q) + 1 : Nat) : Int) := by rw [show (q0 (2 * Q) : Int) + 1 = ((q0 (2 * Q) + 1 : Nat) : Int) by omega, uwr _ (by omega)]
    obtain ⟨t0, t1, t2, t3⟩ := q_even T
    obtain ⟨p0, p1, p2, p3⟩ := q_even Q
    obtain ⟨c, r, hi, hr⟩ : ∃ c r, i = 32 * c + r ∧ r < 32 := ⟨i / 32, i % 32, by omega, by omega⟩
    have hc : c = 0 ∨ c = 1 ∨ c = 2 ∨ c = 3 := by omega
    have hbit : (if c = 0 then q0 m else if c = 1 then q1 m else if c = 2 then q2 m else q3 m) / 2 ^ r % 2 = bitN m i := by
      rcases hc with rfl | rfl | rfl | rfl
      · simpa [hi] using bit_0 m r hr
      · simpa [hi] using bit_1 m r hr
      · simpa [hi] using bit_2 m r hr
      · simpa [hi] using bit_3 m r hr
    have td : (i : Int).tdiv 32 = (c : Int) := by rw [Int.tdiv_eq_ediv_of_nonneg (by omega)]; omega
    have tm : (i : Int).tmod 32 = (r : Int) := by rw [Int.tmod_eq_emod_of_nonneg (by omega)]; omega
    have wi : IntKind.i64.wrap (i : Int) = i := wrap_id (by unfold I64; omega)
    have wr : IntKind.i64.wrap (r : Int) = r := wrap_id (by unfold I64; omega)
    have wi1 : IntKind.i64.wrap ((i : Int) - 1) = (i : Int) - 1 := wrap_id (by unfold I64; omega)
    have g0 : (0 : Int) ≤ (i : Int) := by omega
    have wru : IntKind.u64.wrap (r : Int) = r := uwr _ (by omega)
    have mr : min r IntKind.u64.bits = r := Nat.min_eq_left (by show r ≤ 64; omega)
    have fd : ∀ d : Nat, ((d : Int).fdiv (2 ^ r)).tmod 2 = ((d / 2 ^ r % 2 : Nat) : Int) := fun d => by
      rw [Int.fdiv_eq_ediv_of_nonneg _ (by exact Int.le_of_lt (Int.pow_pos (by decide))), Int.tmod_eq_emod_of_nonneg (Int.ediv_nonneg (by omega) (Int.le_of_lt (Int.pow_pos (by decide))))]
      simp
    have d0 := fd (q0 m)
    have d1 := fd (q1 m)
    have d2 := fd (q2 m)
    have d3 := fd (q3 m)
    clear fd
    unfold wdD at *
    have hcz : ∀ x, n ≤ x → 0 ≤ cmpZ x n := fun x h => by unfold cmpZ; rw [if_neg (by omega)]; split <;> omega
    have hcn : ∀ x, ¬ n ≤ x → ¬ 0 ≤ cmpZ x n := fun x h => by unfold cmpZ; rw [if_pos (by omega)]; omega
    have hcz := hcz (2 * T + bitN m i)
    have hcn := hcn (2 * T + bitN m i)
    simp [Tryz.f87] at ih ⊢
    have hbc : bitN m i = 0 ∨ bitN m i = 1 := by omega
    by_cases hle : n ≤ 2 * T + bitN m i
    · have hL := hL hle
      have hcz := hcz hle
      rw [if_pos hle] at ih
      rw [if_pos hle] at ih
      rcases hbc with hb0 | hb0 <;> rw [hb0] at hbit hL hC hcz ih <;> rcases hc with rfl | rfl | rfl | rfl <;>
      (simp only [if_true, if_false, Nat.reduceEqDiff, Nat.succ_ne_self, Nat.one_ne_zero] at hbit
       simp only [hbit] at d0 d1 d2 d3
       try simp only [t0, t1, t2, t3] at hC hL
       try simp only [p0, p1, p2, p3, Nat.add_zero, Nat.sub_zero] at ih hC hL hcz
       try simp only [t0, t1, t2, t3] at ih
       try simp only [Int.natCast_add, Int.cast_ofNat_Int] at wT wQ hC hL ih
       have td : (i : Int).tdiv 32 = _ := td
       rw [denK_loop]
       simp [g0, hS, hS2, td, tm, wi, wr, wru, mr, shiftBin, d0, d1, d2, d3, wT, wQ, hC, hcz, hL, wi1, drwK_end, ih])
    · have hcn := hcn hle
      rw [if_neg hle] at ih
      rw [if_neg hle] at ih
      rcases hbc with hb0 | hb0 <;> rw [hb0] at hbit  hC hcn ih <;> rcases hc with rfl | rfl | rfl | rfl <;>
      (simp only [if_true, if_false, Nat.reduceEqDiff, Nat.succ_ne_self, Nat.one_ne_zero] at hbit
       simp only [hbit] at d0 d1 d2 d3
       try simp only [t0, t1, t2, t3] at hC 
       try simp only [p0, p1, p2, p3, Nat.add_zero, Nat.sub_zero] at ih hC  hcn
       try simp only [t0, t1, t2, t3] at ih
       try simp only [Int.natCast_add, Int.cast_ofNat_Int] at wT wQ hC  ih
       have td : (i : Int).tdiv 32 = _ := td
       rw [denK_loop]
       simp [g0, hS, hS2, td, tm, wi, wr, wru, mr, shiftBin, d0, d1, d2, d3, wT, wQ, hC, hcn, wi1, drwK_end, ih])
theorem by_run (m n : Nat) (s s2 : Bool) (hn : 0 < n) (hn2 : n < 18446744073709551616) (hm : m < 340282366920938463463374607431768211456) :
    callT ctx 87 [.d (wdD m s), .d (wdD n s2)] [] = some (.ret (.tup [.d (wdD (m / n) false), .d (wdD (m % n) false)]), []) := by
  have hl := fun k R hx => by_loop m n s s2 hn hn2 hm k R hx 128 (by omega) 0 0 0 (by rw [Nat.div_eq_of_lt]; exact hm) (by simp) (by simp)
  rw [run87 (by simp)]
  unfold wdD
  simp [Tryz.f87, show q0 0 = 0 from rfl, show q1 0 = 0 from rfl, show q2 0 = 0 from rfl, show q3 0 = 0 from rfl] at hl
  simp [Tryz.f87]
  rw [hl]
  simp [drwK_end]
theorem rMul_run (a b : Int) (ha : I64 a) (hb : I64 b) : callT ctx 67 [.d (.int .i64 a), .d (.int .i64 b)] [] = some (.ret (okZ (fitZ (a * b))), []) := by
  have h1 := of_run a ha
  have h2 := of_run b hb
  unfold I64 at ha hb
  have h3 := times_run a.natAbs b.natAbs (decide (a < 0)) (decide (b < 0)) (by omega) (by omega)
  have hlt : a.natAbs * b.natAbs < 340282366920938463463374607431768211456 := by
    have : a.natAbs * b.natAbs ≤ 9223372036854775808 * 9223372036854775808 := Nat.mul_le_mul (by omega) (by omega)
    omega
  have h4 := room_run _ (decide (a < 0) != decide (b < 0)) hlt
  have hv : sgZ (a.natAbs * b.natAbs) (decide (a < 0) != decide (b < 0)) = a * b := by
    rw [mul_abs]; unfold sgZ
    by_cases h : decide (a < 0) = decide (b < 0) <;> simp [h]
  rw [hv] at h4
  rw [run67 (by simp)]
  generalize wdD (a.natAbs * b.natAbs) (decide (a < 0) != decide (b < 0)) = z at *
  generalize fitZ (a * b) = p at *
  unfold wdD at *
  simp at h3 h4
  simp [Tryz.f67, h1, h2, h3, h4, drwK_end]
end Go.Am
end
section
namespace Go.Am
open Go Go.Proofs
set_option maxRecDepth 20000
theorem rDiv_run (a b : Int) (ha : I64 a) (hb : I64 b) : callT ctx 68 [.d (.int .i64 a), .d (.int .i64 b)] [] = some (.ret (errZ (divZ a b)), []) := by
  rw [run68 (by simp)]
  by_cases h0 : b = 0
  · simp [Tryz.f68, h0, divZ]
  · have h1 := of_run a ha
    have h2 := of_run b hb
    unfold I64 at ha hb
    have h3 := by_run a.natAbs b.natAbs (decide (a < 0)) (decide (b < 0)) (by omega) (by omega) (by omega)
    have hdl : a.natAbs / b.natAbs ≤ a.natAbs := Nat.div_le_self _ _
    have h4 := room_run (a.natAbs / b.natAbs) (decide (a < 0) != decide (b < 0)) (by omega)
    have hv : sgZ (a.natAbs / b.natAbs) (decide (a < 0) != decide (b < 0)) = a.tdiv b := by
      rw [tdiv_abs]; unfold sgZ
      by_cases h : decide (a < 0) = decide (b < 0) <;> simp [h]
    rw [hv] at h4
    have hd : divZ a b = if (fitZ (a.tdiv b)).2 = true then ((fitZ (a.tdiv b)).1, 0) else (0, 2) := by
      unfold divZ fitZ
      rw [if_neg h0]
      by_cases hs : a = -9223372036854775808 ∧ b = -1
      · obtain ⟨rfl, rfl⟩ := hs
        rfl
      · rw [if_neg hs]
        have hI : I64 (a.tdiv b) := by
          have hq := tdiv_abs a b
          unfold I64
          have hle2 : decide (a < 0) = decide (b < 0) → a.natAbs / b.natAbs ≤ 9223372036854775807 := by
            intro hd
            by_cases ha1 : a = -9223372036854775808
            · have hb2 : 2 ≤ b.natAbs := by
                have : b < 0 := by rw [ha1] at hd; simpa using hd
                omega
              have h3 := Nat.div_le_div_left hb2 (by decide) (a := a.natAbs)
              omega
            · omega
          generalize a.natAbs / b.natAbs = q at *
          split at hq
          · rename_i hd
            have := hle2 hd
            omega
          · omega
        unfold I64 at hI
        rw [if_pos hI]
        simp
    rw [hd]
    generalize fitZ (a.tdiv b) = p at *
    generalize a.natAbs / b.natAbs = x at *
    generalize a.natAbs % b.natAbs = y at *
    unfold wdD at *
    try simp at h3
    try simp at h4
    cases hp : p.2 <;> simp [Tryz.f68, h0, h1, h2, h3, h4, hp, drwK_end]
theorem rMod_run (a b : Int) (ha : I64 a) (hb : I64 b) : callT ctx 69 [.d (.int .i64 a), .d (.int .i64 b)] [] = some (.ret (errZ (modZ a b)), []) := by
  rw [run69 (by simp)]
  unfold modZ
  by_cases h0 : b = 0
  · simp [Tryz.f69, h0]
  · rw [if_neg h0]
    have h1 := of_run a ha
    have h2 := of_run b hb
    unfold I64 at ha hb
    have h3 := by_run a.natAbs b.natAbs (decide (a < 0)) (decide (b < 0)) (by omega) (by omega) (by omega)
    have hml : a.natAbs % b.natAbs < b.natAbs := Nat.mod_lt _ (by omega)
    have hml2 : a.natAbs % b.natAbs ≤ a.natAbs := Nat.mod_le _ _
    have h4 := room_run (a.natAbs % b.natAbs) (decide (a < 0)) (by omega)
    have hv : sgZ (a.natAbs % b.natAbs) (decide (a < 0)) = a.tmod b := by
      rw [tmod_abs]; unfold sgZ
      by_cases h : a < 0 <;> simp [h]
    have hI : -9223372036854775808 ≤ a.tmod b ∧ a.tmod b ≤ 9223372036854775807 := by
      rw [← hv]; unfold sgZ
      generalize a.natAbs % b.natAbs = x at *
      split <;> omega
    rw [hv] at h4
    unfold fitZ at h4
    rw [if_pos hI] at h4
    generalize a.tmod b = p at *
    generalize a.natAbs % b.natAbs = x at *
    generalize a.natAbs / b.natAbs = y at *
    unfold wdD at *
    try simp at h3
    try simp at h4
    simp [Tryz.f69, h0, h1, h2, h3, h4, drwK_end]
end Go.Am
end
section
namespace Go.Am
open Go Go.Proofs
set_option maxRecDepth 20000
theorem rone_run (b : Bool) : callT ctx 64 [.d (.bool b)] [] = some (.ret (.d (.int .i64 (oneZ b))), []) := by
  rw [run64 (by simp)]
  cases b <;> simp [Tryz.f64, oneZ]
theorem refOp1_run (op a : Int) (t : Bool) (ha : I64 a) : callT ctx 47 [.d (.int .i64 op), .d (.list [.int .i64 a]), .d (.bool t)] [] = some (.ret (opZ (op1 op a t)), []) := by
  rw [run47 (by simp)]
  have hs := rSub_run 0 a (by unfold I64; omega) ha
  unfold op1
  generalize fitZ (0 - a) = p at *
  try simp at hs
  cases t
  · simp [Tryz.f47]
    rw [denK_loop]
    simp
    rw [denK_loop]
    by_cases h6 : op = 6
    · cases hp : p.2 <;> simp [h6, hs, hp, fitR]
    · simp [h6, noOp]
  · by_cases h1 : a < 0
    · have h3 : ¬ a = 0 := by omega
      have h4 : ¬ a = 1 := by omega
      simp [Tryz.f47]
      rw [denK_loop]
      simp [h1, h3, h4, noOp]
    · by_cases h2 : 1 < a
      · have h3 : ¬ a = 0 := by omega
        have h4 : ¬ a = 1 := by omega
        simp [Tryz.f47]
        rw [denK_loop]
        simp [h1, h2, h3, h4, noOp]
      · have h5 : a = 0 ∨ a = 1 := by omega
        rcases h5 with rfl | rfl <;>
          (simp [Tryz.f47]
           rw [denK_loop]
           simp
           rw [denK_loop]
           by_cases h7 : op = 7
           · simp [h7, rone_run]
           · simp [h7, noOp])
set_option maxHeartbeats 4000000 in
theorem refOp2_run (op a b : Int) (t : Bool) (ha : I64 a) (hb : I64 b) : callT ctx 47 [.d (.int .i64 op), .d (.list [.int .i64 a, .int .i64 b]), .d (.bool t)] [] = some (.ret (opZ (op2 op a b t)), []) := by
  rw [run47 (by simp)]
  have q1 := rAdd_run a b ha hb
  have q2 := rSub_run a b ha hb
  have q3 := rMul_run a b ha hb
  have q4 := rDiv_run a b ha hb
  have q5 := rMod_run a b ha hb
  unfold op2
  cases t
  · unfold opN
    generalize fitZ (a + b) = f1 at *
    generalize fitZ (a - b) = f2 at *
    generalize fitZ (a * b) = f3 at *
    generalize divZ a b = f4 at *
    generalize modZ a b = f5 at *
    simp at q1 q2 q3 q4 q5
    simp [Tryz.f47]
    rw [denK_loop]
    simp
    rw [denK_loop]
    simp
    rw [denK_loop]
    have hc : op = 8 ∨ op = 9 ∨ op = 10 ∨ op = 11 ∨ op = 12 ∨ op = 13 ∨ op = 14 ∨ op = 15 ∨ op = 16 ∨ op = 17 ∨ op = 18 ∨ (op < 8) ∨ (18 < op ∧ op ≤ 21) ∨ 21 < op := by omega
    rcases hc with rfl | rfl | rfl | rfl | rfl | rfl | rfl | rfl | rfl | rfl | rfl | h | ⟨h1, h2⟩ | h
    · cases hf : f1.2 <;> simp [q1, hf, fitR, drwK_end]
    · cases hf : f2.2 <;> simp [q2, hf, fitR, drwK_end]
    · cases hf : f3.2 <;> simp [q3, hf, fitR, drwK_end]
    · by_cases h3 : f4.2 = 3
      · simp [q4, h3, errR, drwK_end]
      · by_cases h0 : f4.2 = 0 <;> simp [q4, h0, h3, errR, drwK_end]
    · by_cases h3 : f5.2 = 3
      · simp [q5, h3, errR, drwK_end]
      · by_cases h0 : f5.2 = 0 <;> simp [q5, h0, h3, errR, drwK_end]
    · simp [rone_run, drwK_end]
    · simp [rone_run, drwK_end, bne]
    · simp [rone_run, drwK_end]
    · simp [rone_run, drwK_end]
    · simp [rone_run, drwK_end]
    · simp [rone_run, drwK_end, show IntKind.i64.wrap 5 = 5 from rfl]
    · simp only [show ¬ op = 8 by omega, show ¬ op = 9 by omega, show ¬ op = 10 by omega, show ¬ op = 11 by omega, show ¬ op = 12 by omega, show ¬ op = 13 by omega, show ¬ op = 14 by omega, show ¬ op = 15 by omega, show ¬ op = 16 by omega, show ¬ op = 17 by omega, show ¬ op = 18 by omega, if_false]
      simp [h, noOp, drwK_end]
    · have h3 : ¬ op < 8 := by omega
      have h4 : ¬ 21 < op := by omega
      simp only [show ¬ op = 8 by omega, show ¬ op = 9 by omega, show ¬ op = 10 by omega, show ¬ op = 11 by omega, show ¬ op = 12 by omega, show ¬ op = 13 by omega, show ¬ op = 14 by omega, show ¬ op = 15 by omega, show ¬ op = 16 by omega, show ¬ op = 17 by omega, show ¬ op = 18 by omega, if_false]
      simp [h1, h3, h4, noOp, drwK_end]
    · have h3 : ¬ op < 8 := by omega
      simp only [show ¬ op = 8 by omega, show ¬ op = 9 by omega, show ¬ op = 10 by omega, show ¬ op = 11 by omega, show ¬ op = 12 by omega, show ¬ op = 13 by omega, show ¬ op = 14 by omega, show ¬ op = 15 by omega, show ¬ op = 16 by omega, show ¬ op = 17 by omega, show ¬ op = 18 by omega, if_false]
      simp [h, h3, noOp, drwK_end]
  · clear q1 q2 q3 q4 q5
    by_cases h1 : a = 0 ∨ a = 1
    · by_cases h2 : b = 0 ∨ b = 1
      · have hc : op = 13 ∨ op = 14 ∨ op = 20 ∨ op = 19 ∨ op = 21 ∨ (op < 8) ∨ (8 ≤ op ∧ op < 13) ∨ (14 < op ∧ op < 19) ∨ 21 < op := by omega
        unfold opT
        rcases h1 with rfl | rfl <;> rcases h2 with rfl | rfl <;>
          (simp [Tryz.f47]
           rw [denK_loop]
           simp
           rw [denK_loop]
           simp
           rw [denK_loop]
           rcases hc with rfl | rfl | rfl | rfl | rfl | h | ⟨h3, h4⟩ | ⟨h3, h4⟩ | h
           · simp [rone_run, drwK_end]
           · simp [rone_run, drwK_end]
           · simp [rone_run, drwK_end]
           · simp [rone_run, drwK_end]
           · simp [rone_run, drwK_end]
           · simp only [show ¬ op = 13 by omega, show ¬ op = 14 by omega, show ¬ op = 20 by omega, show ¬ op = 19 by omega, show ¬ op = 21 by omega, if_false, or_self]
             simp [h, noOp, drwK_end]
           · simp only [show ¬ op = 13 by omega, show ¬ op = 14 by omega, show ¬ op = 20 by omega, show ¬ op = 19 by omega, show ¬ op = 21 by omega, if_false, or_self]
             simp [show ¬ op < 8 by omega, show ¬ 21 < op by omega, show ¬ op = 13 by omega, show ¬ op = 14 by omega, show ¬ op = 20 by omega, show ¬ op = 19 by omega, show ¬ op = 21 by omega, noOp, drwK_end]
           · simp only [show ¬ op = 13 by omega, show ¬ op = 14 by omega, show ¬ op = 20 by omega, show ¬ op = 19 by omega, show ¬ op = 21 by omega, if_false, or_self]
             simp [show ¬ op < 8 by omega, show ¬ 21 < op by omega, show ¬ op = 13 by omega, show ¬ op = 14 by omega, show ¬ op = 20 by omega, show ¬ op = 19 by omega, show ¬ op = 21 by omega, noOp, drwK_end]
           · simp only [show ¬ op = 13 by omega, show ¬ op = 14 by omega, show ¬ op = 20 by omega, show ¬ op = 19 by omega, show ¬ op = 21 by omega, if_false, or_self]
             simp [show ¬ op < 8 by omega, h, noOp, drwK_end])
      · have h3 : ¬ b = 0 := by omega
        have h4 : ¬ b = 1 := by omega
        have h5 : ¬ b < 0 → 1 < b := by omega
        rcases h1 with rfl | rfl <;> by_cases h6 : b < 0 <;>
          (simp [Tryz.f47]
           rw [denK_loop]
           simp
           rw [denK_loop]
           simp [h3, h4, h5, h6, noOp])
    · have h3 : ¬ a = 0 := by omega
      have h4 : ¬ a = 1 := by omega
      have h5 : ¬ a < 0 → 1 < a := by omega
      by_cases h6 : a < 0 <;>
      (simp [Tryz.f47]
       rw [denK_loop]
       simp [h3, h4, h5, h6, noOp])
end Go.Am
end
section
namespace Go.Am
open Go Go.Proofs
set_option maxRecDepth 20000
/-- The reference's state. -/
def rB (v1 v2 : AV) (a f x : Int) : List AV := [v1, v2, .d (.int .i64 a), .d (.int .i64 f), .d (.int .i64 x)]
def rC (C S : List Int) (a f x : Int) : List Cont := [.box (rB (.vec 1 0 0 C.length) (.vec 2 0 0 S.length) a f x), .vec 1 (C.map jD), .vec 1 (S.map jD)]
/-- What is handed back: the stack anew. -/
def rC2 (C S : List Int) (a f x : Int) : List (Nat × Cont) := [(0, .box (rB (.vec 1 0 0 C.length) (.vec 2 1 0 S.length) a f x)), (0, .vec 1 (C.map jD)), (1, .vec 1 (S.map jD))]
theorem ryes_run (b : Bool) : callT ctx 45 [.d (.bool b)] [] = some (.ret (.d (.int .i64 (oneZ b))), []) := by
  rw [run45 (by simp)]
  cases b <;> simp [Tryz.f45, oneZ]
theorem put_run (C S : List Int) (a f x n : Int) (hS : S.length ≤ 100) : callT ctx 44 [.ptr 0 0 0, .d (.int .i64 n)] (rC C S a f x) = some (.ret (.tup []), rC2 C (S ++ [n]) a f x) := by
  have h2 : (S.length + 1) * 8 ≤ 140737488355328 := by omega
  have h3 : S.length + 1 ≤ 4611686018427387904 := by omega
  have ht : (S.map jD).take S.length = S.map jD := List.take_of_length_le (by simp)
  rw [run44 (by simp [rC])]
  simp [Tryz.f44, rC, rC2, rB, h2, h3, ht, drwK_end]
theorem cut1_run (C S : List Int) (a f x n : Int) (hS : S.length ≤ 100) : callT ctx 46 [.ptr 0 0 0, .d (.int .i64 1)] (rC C (S ++ [n]) a f x) = some (.ret (.d (.list [.int .i64 n])), rC2 C S a f x) := by
  have h2 : S.length * 8 ≤ 140737488355328 := by omega
  have h3 : S.length ≤ 4611686018427387904 := by omega
  have w1 : IntKind.i64.wrap (S.length : Int) = S.length := wrap_id (by unfold I64; omega)
  have g1 : (S.length : Int) ≤ (S.length : Int) + 1 := by omega
  rw [run46 (by simp [rC])]
  simp [Tryz.f46, rC, rC2, rB, h2, h3, w1, g1, drwK_end]
theorem cut2_run (C S : List Int) (a f x m n : Int) (hS : S.length ≤ 100) : callT ctx 46 [.ptr 0 0 0, .d (.int .i64 2)] (rC C (S ++ [m, n]) a f x) = some (.ret (.d (.list [.int .i64 m, .int .i64 n])), rC2 C S a f x) := by
  have h2 : S.length * 8 ≤ 140737488355328 := by omega
  have h3 : S.length ≤ 4611686018427387904 := by omega
  have w1 : IntKind.i64.wrap ((S.length : Int) + 2 - 2) = S.length := by rw [show (S.length : Int) + 2 - 2 = S.length by omega]; exact wrap_id (by unfold I64; omega)
  have w2 : IntKind.i64.wrap (S.length : Int) = S.length := wrap_id (by unfold I64; omega)
  have g2 : (S.length : Int) + 2 ≤ 2 + (S.length : Int) := by omega
  have tn : ((S.length : Int) + 2).toNat - S.length = 2 := by omega
  have g1 : (S.length : Int) ≤ (S.length : Int) + 2 := by omega
  rw [run46 (by simp [rC])]
  simp [Tryz.f46, rC, rC2, rB, h2, h3, w1, w2, g1, g2, tn, drwK_end]
end Go.Am
end
section
namespace Go.Am
open Go Go.Proofs
set_option maxRecDepth 20000
def rCv (C S : List Int) (a f x : Int) (v : Nat) : List (Nat × Cont) := [(0, .box (rB (.vec 1 0 0 C.length) (.vec 2 v 0 S.length) a f x)), (0, .vec 1 (C.map jD)), (v, .vec 1 (S.map jD))]
def RStepOk (x : Ins) (s : Ms) : Prop := ∃ v S', ((stepF x s).fault = 0 → S' = (stepF x s).stk) ∧ S'.length ≤ 65 ∧
  callT ctx 24 [.ptr 0 0 0, .d (insD x)] (rC s.cells s.stk s.at_ s.fuel s.fault) = some (.ret (.tup []), rCv (stepF x s).cells S' (stepF x s).at_ (stepF x s).fuel (stepF x s).fault v)
theorem rs_1 (x : Ins) (s : Ms) (h0 : s.fault = 0) (hf : Fit x s.cells.length s.stk.length) (hN : NumsOk s) (hop : x.op = 1) : RStepOk x s := by
  obtain ⟨C, S, a, f, z⟩ := s
  have hp := hN.place
  simp only at h0 hf hp
  subst h0
  have h1 := hf.i1 hop
  have hst : stepF x ⟨C, S, a, f, 0⟩ = ⟨C, S ++ [x.n], a + 1, f, 0⟩ := by simp [stepF, moveF, hop, Ms.push]
  have hput := put_run C S (a + 1) f 0 x.n (by omega)
  have w1 : IntKind.i64.wrap (a + 1) = a + 1 := wrap_id (by unfold I64; omega)
  unfold RStepOk
  rw [hst]
  refine ⟨1, S ++ [x.n], fun _ => rfl, by simp; omega, ?_⟩
  rw [run24 (by simp [rC])]
  simp [rC, rC2, rB] at hput
  simp [Tryz.f24, rC, rCv, rB, hop, hput, w1, drwK_end]
theorem rs_2 (x : Ins) (s : Ms) (h0 : s.fault = 0) (hf : Fit x s.cells.length s.stk.length) (hN : NumsOk s) (hop : x.op = 2) : RStepOk x s := by
  obtain ⟨C, S, a, f, z⟩ := s
  have hp := hN.place
  simp only at h0 hf hp
  subst h0
  obtain ⟨h1, hc1, hc2⟩ := hf.i2 (.inl hop)
  have hst : stepF x ⟨C, S, a, f, 0⟩ = ⟨C, S ++ [atI C x.a], a + 1, f, 0⟩ := by simp [stepF, moveF, hop, Ms.push]
  have hput := put_run C S (a + 1) f 0 (atI C x.a) (by omega)
  have w1 : IntKind.i64.wrap (a + 1) = a + 1 := wrap_id (by unfold I64; omega)
  unfold RStepOk
  rw [hst]
  refine ⟨1, S ++ [atI C x.a], fun _ => rfl, by simp; omega, ?_⟩
  rw [run24 (by simp [rC])]
  simp [rC, rC2, rB] at hput
  simp [Tryz.f24, rC, rCv, rB, hop, hput, w1, hc1, hc2, cellAt, drwK_end]
theorem rs_3 (x : Ins) (s : Ms) (h0 : s.fault = 0) (hf : Fit x s.cells.length s.stk.length) (hN : NumsOk s) (hop : x.op = 3) : RStepOk x s := by
  obtain ⟨C, S, a, f, z⟩ := s
  have hp := hN.place
  simp only at h0 hf hp
  subst h0
  obtain ⟨h1, hc1, hc2⟩ := hf.i2 (.inr (.inl hop))
  have hst : stepF x ⟨C, S, a, f, 0⟩ = ⟨C, S ++ [oneZ (decide (atI C x.a ≠ 0))], a + 1, f, 0⟩ := by simp [stepF, moveF, hop, Ms.push]
  have hput := fun b => put_run C S (a + 1) f 0 (oneZ b) (by omega)
  have w1 : IntKind.i64.wrap (a + 1) = a + 1 := wrap_id (by unfold I64; omega)
  have hb : (atI C x.a != 0) = decide (atI C x.a ≠ 0) := by by_cases h : atI C x.a = 0 <;> simp [h]
  have hy := ryes_run
  unfold RStepOk
  rw [hst]
  refine ⟨1, S ++ [oneZ (decide (atI C x.a ≠ 0))], fun _ => rfl, by simp; omega, ?_⟩
  rw [run24 (by simp [rC])]
  generalize decide (atI C x.a ≠ 0) = b at *
  have hput := hput b
  simp [rC, rC2, rB] at hput
  simp [Tryz.f24, rC, rCv, rB, hop, hput, hy, hb, w1, hc1, hc2, cellAt, drwK_end]
theorem rs_4 (x : Ins) (s : Ms) (h0 : s.fault = 0) (hf : Fit x s.cells.length s.stk.length) (hN : NumsOk s) (hop : x.op = 4 ∨ x.op = 5) : RStepOk x s := by
  obtain ⟨C, S0, a, f, z⟩ := s
  have hp := hN.place
  have hfew := hN.few
  have htop := hf.top
  simp only at h0 hf hp hfew htop
  subst h0
  obtain ⟨hl, k1, k2, k3, k4, k5⟩ := hf.i4 hop
  obtain ⟨S, n, rfl⟩ := snoc_of hl
  simp at htop
  have hcut := cut1_run C S (a + 1) f 0 n (by omega)
  have w1 : IntKind.i64.wrap (a + 1) = a + 1 := wrap_id (by unfold I64; omega)
  unfold RStepOk
  by_cases hin : x.n ≤ n ∧ n ≤ x.m
  · obtain ⟨i1, i2⟩ := hin
    have hinb : inArr x n = true := by unfold inArr; simp [i1, i2]
    have hr : 0 ≤ x.a + (n - x.n) ∧ (x.a + (n - x.n)).toNat < C.length := by omega
    obtain ⟨r1, r2⟩ := hr
    have w2 : IntKind.i64.wrap (x.a + n) = x.a + n := wrap_id (by unfold I64; omega)
    have w3 : IntKind.i64.wrap (x.a + n - x.n) = x.a + (n - x.n) := by rw [show x.a + n - x.n = x.a + (n - x.n) by omega]; exact wrap_id (by unfold I64; omega)
    have n1 : ¬ n < x.n := by omega
    have n2 : ¬ x.m < n := by omega
    generalize hv : x.a + (n - x.n) = v at *
    rcases hop with hop | hop
    · have hst : stepF x ⟨C, S ++ [n], a, f, 0⟩ = ⟨C, S ++ [atI C v], a + 1, f, 0⟩ := by simp [stepF, moveF, hop, Ms.push, Ms.pop, Ms.top, hinb, hv]
      rw [hst]
      have hput := put_run C S (a + 1) f 0 (atI C v) (by omega)
      refine ⟨1, S ++ [atI C v], fun _ => rfl, by simp; omega, ?_⟩
      rw [run24 (by simp [rC])]
      simp [rC, rC2, rB] at hput hcut
      simp [Tryz.f24, rC, rCv, rB, hop, hput, hcut, w1, w2, w3, n1, n2, r1, r2, cellAt, drwK_end]
    · have hst : stepF x ⟨C, S ++ [n], a, f, 0⟩ = ⟨C, S ++ [oneZ (decide (atI C v ≠ 0))], a + 1, f, 0⟩ := by
        by_cases hz : atI C v = 0 <;> simp [stepF, moveF, hop, Ms.push, Ms.pop, Ms.top, hinb, hv, hz]
      rw [hst]
      have hput := fun b => put_run C S (a + 1) f 0 (oneZ b) (by omega)
      have hb : (atI C v != 0) = decide (atI C v ≠ 0) := by by_cases h : atI C v = 0 <;> simp [h]
      have hy := ryes_run
      refine ⟨1, S ++ [oneZ (decide (atI C v ≠ 0))], fun _ => rfl, by simp; omega, ?_⟩
      rw [run24 (by simp [rC])]
      generalize decide (atI C v ≠ 0) = b at *
      have hput := hput b
      simp [rC, rC2, rB] at hput hcut
      simp [Tryz.f24, rC, rCv, rB, hop, hput, hcut, hy, hb, w1, w2, w3, n1, n2, r1, r2, cellAt, drwK_end]
  · have hinb : inArr x n = false := by unfold inArr; by_cases h1 : x.n ≤ n <;> by_cases h2 : n ≤ x.m <;> simp_all
    have hst : stepF x ⟨C, S ++ [n], a, f, 0⟩ = ⟨C, S, a + 1, f, 3⟩ := by
      have q1 : ¬ x.op = 1 := by omega
      have q2 : ¬ x.op = 2 := by omega
      have q3 : ¬ x.op = 3 := by omega
      simp [stepF, moveF, q1, q2, q3, hop, Ms.push, Ms.pop, Ms.top, hinb]
    rw [hst]
    refine ⟨1, S, fun h => by simp at h, by omega, ?_⟩
    rw [run24 (by simp [rC])]
    simp [rC, rC2, rB] at hcut
    by_cases n1 : n < x.n
    · rcases hop with hop | hop <;> simp [Tryz.f24, rC, rCv, rB, hop, hcut, w1, n1, drwK_end]
    · have n2 : x.m < n := by omega
      rcases hop with hop | hop <;> simp [Tryz.f24, rC, rCv, rB, hop, hcut, w1, n1, n2, drwK_end]
end Go.Am
end
section
namespace Go.Am
open Go Go.Proofs
set_option maxRecDepth 20000
theorem rs_7 (x : Ins) (s : Ms) (h0 : s.fault = 0) (hf : Fit x s.cells.length s.stk.length) (hN : NumsOk s) (hop : x.op = 7) : RStepOk x s := by
  obtain ⟨C, S0, a, f, z⟩ := s
  have hp := hN.place
  have hfew := hN.few
  have htop := hf.top
  simp only at h0 hf hp hfew htop
  subst h0
  obtain ⟨hl, k1, k2, k3, k4, k5⟩ := hf.i7 hop
  obtain ⟨S, m, n, rfl⟩ := snoc2_of hl
  simp at htop
  have hcut := cut1_run C (S ++ [m]) (a + 1) f 0 n (by simp; omega)
  have hcut2 := cut1_run C S (a + 1) f 0 m (by omega)
  have e0 : S ++ [m] ++ [n] = S ++ [m, n] := by simp
  rw [e0] at hcut
  have w1 : IntKind.i64.wrap (a + 1) = a + 1 := wrap_id (by unfold I64; omega)
  unfold RStepOk
  by_cases hin : x.n ≤ m ∧ m ≤ x.m
  · obtain ⟨i1, i2⟩ := hin
    have hinb : inArr x m = true := by unfold inArr; simp [i1, i2]
    have hr : 0 ≤ x.a + (m - x.n) ∧ (x.a + (m - x.n)).toNat < C.length := by omega
    obtain ⟨r1, r2⟩ := hr
    have w2 : IntKind.i64.wrap (x.a + m) = x.a + m := wrap_id (by unfold I64; omega)
    have w3 : IntKind.i64.wrap (x.a + m - x.n) = x.a + (m - x.n) := by rw [show x.a + m - x.n = x.a + (m - x.n) by omega]; exact wrap_id (by unfold I64; omega)
    have n1 : ¬ m < x.n := by omega
    have n2 : ¬ x.m < m := by omega
    generalize hv : x.a + (m - x.n) = v at *
    have hst : stepF x ⟨C, S ++ [m, n], a, f, 0⟩ = ⟨setI C v n, S, a + 1, f, 0⟩ := by
      simp only [stepF, moveF, Ms.pop, Ms.top]
      simp [hop, top2, pop2, hinb, hv]
    rw [hst]
    refine ⟨1, S, fun _ => rfl, by omega, ?_⟩
    rw [run24 (by simp [rC])]
    simp [rC, rC2, rB] at hcut hcut2
    simp [Tryz.f24, rC, rCv, rB, setI, hop, hcut, hcut2, w1, w2, w3, n1, n2, r1, r2, drwK_end]
  · have hinb : inArr x m = false := by unfold inArr; by_cases h1 : x.n ≤ m <;> by_cases h2 : m ≤ x.m <;> simp_all
    have hst : stepF x ⟨C, S ++ [m, n], a, f, 0⟩ = ⟨C, S, a + 1, f, 3⟩ := by
      simp only [stepF, moveF, Ms.pop, Ms.top]
      simp [hop, top2, pop2, hinb]
    rw [hst]
    refine ⟨1, S, fun h => by simp at h, by omega, ?_⟩
    rw [run24 (by simp [rC])]
    simp [rC, rC2, rB] at hcut hcut2
    by_cases n1 : m < x.n
    · simp [Tryz.f24, rC, rCv, rB, hop, hcut, hcut2, w1, n1, drwK_end]
    · have n2 : x.m < m := by omega
      simp [Tryz.f24, rC, rCv, rB, hop, hcut, hcut2, w1, n1, n2, drwK_end]
theorem rs_8 (x : Ins) (s : Ms) (h0 : s.fault = 0) (hf : Fit x s.cells.length s.stk.length) (hN : NumsOk s) (hop : x.op = 8) (hb7 : x.b ≤ 7 ↔ (x.b = 6 ∨ x.b = 7)) : RStepOk x s := by
  obtain ⟨C, S0, a, f, z⟩ := s
  have hp := hN.place
  have hstk := hN.stk
  have htop := hf.top
  simp only at h0 hf hp htop hstk
  subst h0
  obtain ⟨f1, f2⟩ := hf.i8 hop
  have w1 : IntKind.i64.wrap (a + 1) = a + 1 := wrap_id (by unfold I64; omega)
  unfold RStepOk
  by_cases hb : x.b = 6 ∨ x.b = 7
  · obtain ⟨S, n, rfl⟩ := snoc_of (f1 hb)
    simp at htop
    have hle := hb7.2 hb
    have hcut := cut1_run C S (a + 1) f 0 n (by omega)
    have hopr := refOp1_run x.b n (decide (x.a = 1)) (hstk n (by simp))
    have hst : stepF x ⟨C, S ++ [n], a, f, 0⟩ = doF x ⟨C, S ++ [n], a + 1, f, 0⟩ := by simp [stepF, moveF, ctlF, hop]
    rw [hst]
    unfold doF
    rw [if_pos hb]
    simp only [Ms.top, Ms.pop, Ms.push, List.getLast?_concat, Option.getD_some, List.dropLast_concat]
    generalize op1 x.b n (decide (x.a = 1)) = p at *
    have hput := put_run C S (a + 1) f p.2.2 p.1 (by omega)
    rw [run24 (by simp [rC])]
    simp [rC, rC2, rB] at hput hcut
    simp at hopr
    by_cases hp0 : p.2.2 = 0
    · rw [if_pos hp0]
      refine ⟨1, S ++ [p.1], fun _ => rfl, by simp; omega, ?_⟩
      rw [hp0] at hput
      simp [Tryz.f24, rC, rCv, rB, hop, hle, hput, hcut, hopr, hp0, w1, drwK_end]
    · rw [if_neg hp0]
      refine ⟨1, S ++ [p.1], fun h => absurd h hp0, by simp; omega, ?_⟩
      simp [Tryz.f24, rC, rCv, rB, hop, hle, hput, hcut, hopr, w1, drwK_end]
  · obtain ⟨S, m, n, rfl⟩ := snoc2_of (f2 hb)
    simp at htop
    have hle : ¬ x.b ≤ 7 := fun h => hb (hb7.1 h)
    have hcut := cut2_run C S (a + 1) f 0 m n (by omega)
    have hopr := refOp2_run x.b m n (decide (x.a = 1)) (hstk m (by simp)) (hstk n (by simp))
    have hst : stepF x ⟨C, S ++ [m, n], a, f, 0⟩ = doF x ⟨C, S ++ [m, n], a + 1, f, 0⟩ := by simp [stepF, moveF, ctlF, hop]
    rw [hst]
    unfold doF
    rw [if_neg hb]
    simp only [Ms.top, Ms.pop, Ms.push, top2, pop2, List.getLast?_concat, Option.getD_some, List.dropLast_concat]
    generalize op2 x.b m n (decide (x.a = 1)) = p at *
    have hput := put_run C S (a + 1) f p.2.2 p.1 (by omega)
    rw [run24 (by simp [rC])]
    simp [rC, rC2, rB] at hput hcut
    simp at hopr
    by_cases hp0 : p.2.2 = 0
    · rw [if_pos hp0]
      refine ⟨1, S ++ [p.1], fun _ => rfl, by simp; omega, ?_⟩
      rw [hp0] at hput
      simp [Tryz.f24, rC, rCv, rB, hop, hle, hput, hcut, hopr, hp0, w1, drwK_end]
    · rw [if_neg hp0]
      refine ⟨1, S ++ [p.1], fun h => absurd h hp0, by simp; omega, ?_⟩
      simp [Tryz.f24, rC, rCv, rB, hop, hle, hput, hcut, hopr, w1, drwK_end]
theorem rs_9 (x : Ins) (s : Ms) (h0 : s.fault = 0) (hf : Fit x s.cells.length s.stk.length) (hN : NumsOk s) (hop : x.op = 9) : RStepOk x s := by
  obtain ⟨C, S, a, f, z⟩ := s
  have hp := hN.place
  have htop := hf.top
  simp only at h0 hf hp htop
  subst h0
  have w1 : IntKind.i64.wrap (a + 1) = a + 1 := wrap_id (by unfold I64; omega)
  have hst : stepF x ⟨C, S, a, f, 0⟩ = ⟨C, S, x.a, f, 0⟩ := by simp [stepF, moveF, ctlF, hop]
  unfold RStepOk
  rw [hst]
  refine ⟨0, S, fun _ => rfl, by omega, ?_⟩
  rw [run24 (by simp [rC])]
  simp [Tryz.f24, rC, rCv, rB, hop, w1, drwK_end]
theorem rs_10 (x : Ins) (s : Ms) (h0 : s.fault = 0) (hf : Fit x s.cells.length s.stk.length) (hN : NumsOk s) (hop : x.op = 10) : RStepOk x s := by
  obtain ⟨C, S0, a, f, z⟩ := s
  have hp := hN.place
  have htop := hf.top
  simp only at h0 hf hp htop
  subst h0
  obtain ⟨S, n, rfl⟩ := snoc_of (hf.i10 hop)
  simp at htop
  have hcut := cut1_run C S (a + 1) f 0 n (by omega)
  have w1 : IntKind.i64.wrap (a + 1) = a + 1 := wrap_id (by unfold I64; omega)
  unfold RStepOk
  rw [run24 (by simp [rC])]
  by_cases hn : n = 0
  · have hst : stepF x ⟨C, S ++ [n], a, f, 0⟩ = ⟨C, S, x.a, f, 0⟩ := by simp [stepF, moveF, ctlF, hop, Ms.top, Ms.pop, hn]
    rw [hst]
    refine ⟨1, S, fun _ => rfl, by omega, ?_⟩
    subst hn
    simp [rC, rC2, rB] at hcut
    simp [Tryz.f24, rC, rCv, rB, hop, hcut, w1, drwK_end]
  · have hst : stepF x ⟨C, S ++ [n], a, f, 0⟩ = ⟨C, S, a + 1, f, 0⟩ := by simp [stepF, moveF, ctlF, hop, Ms.top, Ms.pop, hn]
    rw [hst]
    refine ⟨1, S, fun _ => rfl, by omega, ?_⟩
    simp [rC, rC2, rB] at hcut
    simp [Tryz.f24, rC, rCv, rB, hop, hcut, hn, w1, drwK_end]
theorem rs_11 (x : Ins) (s : Ms) (h0 : s.fault = 0) (hf : Fit x s.cells.length s.stk.length) (hN : NumsOk s) (hop : x.op = 11) : RStepOk x s := by
  obtain ⟨C, S, a, f, z⟩ := s
  have hp := hN.place
  have hfu := hN.fuel
  have htop := hf.top
  simp only at h0 hf hp htop hfu
  subst h0
  have w1 : IntKind.i64.wrap (a + 1) = a + 1 := wrap_id (by unfold I64; omega)
  unfold RStepOk
  rw [run24 (by simp [rC])]
  by_cases hn : f = 0
  · have hst : stepF x ⟨C, S, a, f, 0⟩ = ⟨C, S, a + 1, f, 4⟩ := by simp [stepF, moveF, ctlF, hop, hn]
    rw [hst]
    refine ⟨0, S, fun h => rfl, by omega, ?_⟩
    simp [Tryz.f24, rC, rCv, rB, hop, hn, w1, drwK_end]
  · have hst : stepF x ⟨C, S, a, f, 0⟩ = ⟨C, S, a + 1, f - 1, 0⟩ := by simp [stepF, moveF, ctlF, hop, hn]
    rw [hst]
    have w2 : IntKind.i64.wrap (f - 1) = f - 1 := wrap_id (by unfold I64; omega)
    refine ⟨0, S, fun h => rfl, by omega, ?_⟩
    simp [Tryz.f24, rC, rCv, rB, hop, hn, w1, w2, drwK_end]
theorem rs_13 (x : Ins) (s : Ms) (h0 : s.fault = 0) (hf : Fit x s.cells.length s.stk.length) (hN : NumsOk s) (hop : x.op = 13) : RStepOk x s := by
  obtain ⟨C, S, a, f, z⟩ := s
  have hp := hN.place
  have hfew := hN.few
  simp only at h0 hf hp hfew
  subst h0
  obtain ⟨h1, ⟨a1, a2⟩, ⟨b1, b2⟩, ⟨c1, c2⟩⟩ := hf.i13 hop
  have w1 : IntKind.i64.wrap (a + 1) = a + 1 := wrap_id (by unfold I64; omega)
  have w2 : IntKind.i64.wrap (x.b + 1) = x.b + 1 := wrap_id (by unfold I64; omega)
  have hst : stepF x ⟨C, S, a, f, 0⟩ = ⟨C, S ++ [oneZ (upToS C x)], a + 1, f, 0⟩ := by simp [stepF, moveF, ctlF, hop, Ms.push]
  have hy := ryes_run
  unfold RStepOk
  rw [hst]
  refine ⟨1, S ++ [oneZ (upToS C x)], fun _ => rfl, by simp; omega, ?_⟩
  have hput := put_run C S (a + 1) f 0 (oneZ (upToS C x)) (by omega)
  rw [run24 (by simp [rC])]
  simp [rC, rC2, rB] at hput
  by_cases hby : atI C (x.b + 1) < 0
  · have hu : upToS C x = decide (atI C x.b ≤ atI C x.a) := by
      unfold upToS
      have : ¬ 0 ≤ atI C (x.b + 1) := by omega
      simp [hby, this]
    rw [hu] at hput ⊢
    simp [Tryz.f24, rC, rCv, rB, hop, hput, hy, hby, w1, w2, a1, a2, b1, b2, c1, c2, cellAt, drwK_end]
  · have hu : upToS C x = decide (atI C x.a ≤ atI C x.b) := by
      unfold upToS
      have : 0 ≤ atI C (x.b + 1) := by omega
      simp [hby, this]
    rw [hu] at hput ⊢
    simp [Tryz.f24, rC, rCv, rB, hop, hput, hy, hby, w1, w2, a1, a2, b1, b2, c1, c2, cellAt, drwK_end]
theorem rs_14 (x : Ins) (s : Ms) (h0 : s.fault = 0) (hf : Fit x s.cells.length s.stk.length) (hN : NumsOk s) (hop : x.op = 14) : RStepOk x s := by
  obtain ⟨C, S, a, f, z⟩ := s
  have hp := hN.place
  simp only at h0 hf hp
  subst h0
  obtain ⟨h1, hc1, hc2⟩ := hf.i2 (.inr (.inr hop))
  have w1 : IntKind.i64.wrap (a + 1) = a + 1 := wrap_id (by unfold I64; omega)
  have hst : stepF x ⟨C, S, a, f, 0⟩ = ⟨C, S ++ [oneZ (decide (x.n ≤ atI C x.a ∧ atI C x.a ≤ x.m))], a + 1, f, 0⟩ := by simp [stepF, moveF, ctlF, hop, Ms.push]
  have hy := ryes_run
  unfold RStepOk
  rw [hst]
  refine ⟨1, S ++ [oneZ (decide (x.n ≤ atI C x.a ∧ atI C x.a ≤ x.m))], fun _ => rfl, by simp; omega, ?_⟩
  have hput := fun b => put_run C S (a + 1) f 0 (oneZ b) (by omega)
  rw [run24 (by simp [rC])]
  by_cases h2 : x.n ≤ atI C x.a
  · by_cases h3 : atI C x.a ≤ x.m
    · have hput := hput true
      simp [rC, rC2, rB] at hput
      simp [Tryz.f24, rC, rCv, rB, hop, hput, hy, h2, h3, w1, hc1, hc2, cellAt, drwK_end]
    · have hput := hput false
      simp [rC, rC2, rB] at hput
      simp [Tryz.f24, rC, rCv, rB, hop, hput, hy, h2, h3, w1, hc1, hc2, cellAt, drwK_end]
  · have hput := hput false
    simp [rC, rC2, rB] at hput
    simp [Tryz.f24, rC, rCv, rB, hop, hput, hy, h2, w1, hc1, hc2, cellAt, drwK_end]
end Go.Am
end
section
namespace Go.Am
open Go Go.Proofs
set_option maxRecDepth 20000
def writeAll : List Int → Nat → List Int → List Int
  | C, _, [] => C
  | C, p, y :: r => writeAll (C.set p y) (p + 1) r
theorem writeAll_eq : ∀ (Y C : List Int) (o : Nat), o + Y.length ≤ C.length → writeAll C o Y = C.take o ++ Y ++ C.drop (o + Y.length)
  | [], C, o, h => by simp [writeAll]
  | y :: r, C, o, h => by
    simp at h
    rw [writeAll, writeAll_eq r (C.set o y) (o + 1) (by simp; omega)]
    have l1 : (C.take o).length = o := by simp; omega
    have e : C.set o y = C.take o ++ y :: C.drop (o + 1) := by rw [List.set_eq_take_append_cons_drop, if_pos (by omega)]
    have e1 : (C.take o ++ y :: C.drop (o + 1)).take (o + 1) = C.take o ++ [y] := by
      have := List.take_length_add_append (l₁ := C.take o) (l₂ := y :: C.drop (o + 1)) 1
      rw [l1] at this
      simpa using this
    have e2 : (C.take o ++ y :: C.drop (o + 1)).drop (o + 1 + r.length) = C.drop (o + (y :: r).length) := by
      have := List.drop_length_add_append (l₁ := C.take o) (l₂ := y :: C.drop (o + 1)) (1 + r.length)
      rw [l1, ← Nat.add_assoc] at this
      rw [this, Nat.add_comm 1 r.length, List.drop_succ_cons, List.drop_drop]
      simp only [List.length_cons]
      congr 1
      omega
    rw [e, e1, e2]
    simp
@[simp] def r12M (x : Ins) (C S : List Int) (L : Nat) (a f : Int) (v1 v2 : Nat) (c1 c2 : Cont) : Mem :=
  [⟨0, 0, .box (rB (.vec 1 0 0 L) (.vec 2 0 0 S.length) a f 0)⟩, ⟨1, 0, .vec 1 (C.map jD)⟩, ⟨2, 0, .vec 1 (S.map jD)⟩, ⟨250, 1, .box [.d (.int .i64 x.op), .d (.int .i64 x.a), .d (.int .i64 x.b), .d (.int .i64 x.n), .d (.int .i64 x.m)]⟩, ⟨10550, v1, c1⟩, ⟨11150, v2, c2⟩]
theorem rs12_loop (x : Ins) (Y S : List Int) (L o : Nat) (a f : Int) (v1 v2 : Nat) (c1 c2 : Cont) (hxa : x.a = (o : Int)) (hL : o + Y.length ≤ L) (hL2 : L ≤ 8192) (k : Kt) (R : Ans) : ∀ (rest : List Int) (i : Nat) (C : List Int), Y.drop i = rest → i + rest.length = Y.length → C.length = L →
    (k (.exit 2) ⟨301, gl0, [(0, true, .ptr 0 0 0), (3, true, .ptr 250 1 0), (11, true, .d (.int .i64 Y.length)), (12, true, .d (.list (Y.map jD))), (13, true, .d (.int .i64 Y.length)), (225, true, .d (.bool false))], r12M x (writeAll C (o + i) rest) S L a f v1 v2 c1 c2⟩ = R) →
    denK ctx 24 (.loop (Code.at (codeOf Tryz.f24) [1, 1, 1, 0, 1, 1, 1, 1, 1, 1, 1, 1, 1, 1, 1, 1, 1, 1, 1, 1, 1, 1, 1, 0, 1, 1, 1, 0, 0]))
      ⟨301, gl0, [(0, true, .ptr 0 0 0), (3, true, .ptr 250 1 0), (11, true, .d (.int .i64 Y.length)), (12, true, .d (.list (Y.map jD))), (13, true, .d (.int .i64 i))], r12M x C S L a f v1 v2 c1 c2⟩ k = R := by
  intro rest
  induction rest with
  | nil =>
    intro i C hd hi hC hx
    have hi : i = Y.length := by simpa using hi
    subst hi
    simp [writeAll] at hx
    rw [denK_loop]
    simp [Tryz.f24, hx]
  | cons y rest ih =>
    intro i C hd hi hC hx
    have hlt : i < Y.length := by simp at hi; omega
    have hye : Y[i] = y := by
      have := congrArg (·[0]?) hd
      simp at this
      simpa [hlt] using this
    have w1 : IntKind.i64.wrap ((i : Int) + 1) = (i : Int) + 1 := wrap_id (by unfold I64; omega)
    have w2 : IntKind.i64.wrap ((o : Int) + (i : Int)) = (o : Int) + (i : Int) := wrap_id (by unfold I64; omega)
    have tn : ((o : Int) + (i : Int)).toNat = o + i := by omega
    have g1 : (0 : Int) ≤ (o : Int) + (i : Int) := by omega
    have g2 : o + i < L := by omega
    have ih := ih (i + 1) (C.set (o + i) y) (by rw [← List.tail_drop, hd]; rfl) (by simp at hi; omega) (by simpa using hC) (by rw [writeAll] at hx; exact hx)
    rw [denK_loop]
    simp [Tryz.f24] at ih ⊢
    simp [rB, hxa, hlt, hye, hC, w1, w2, tn, g1, g2, drwK_end] at ih ⊢
    exact ih
theorem rs_12 (x : Ins) (s : Ms) (h0 : s.fault = 0) (hf : Fit x s.cells.length s.stk.length) (hN : NumsOk s) (hop : x.op = 12) : RStepOk x s := by
  obtain ⟨C, S, a, f, z⟩ := s
  have hp := hN.place
  have hfew := hN.few
  have hcI := hN.cells
  have htop := hf.top
  simp only at h0 hf hp htop hfew hcI
  subst h0
  obtain ⟨k1, k2⟩ := hf.i12 hop
  obtain ⟨pl, hp1, hp2, hp3⟩ := rpins_ok x.b
  obtain ⟨o, ho⟩ : ∃ o : Nat, x.a = (o : Int) := ⟨x.a.toNat, by omega⟩
  have k2' : o + pl.length ≤ C.length := by rw [ho] at k2; simp at k2; omega
  have hlen : ((C.drop o).take pl.length).length = pl.length := by simp; omega
  have hst := rstep_run x.b ((C.drop o).take pl.length) (by rw [hlen, hp2]) (fun y hy => hcI y (List.mem_of_mem_drop (List.mem_of_mem_take hy)))
  have hYl : (stepB x.b ((C.drop o).take pl.length)).length = pl.length := by rw [stepB_len, hlen]
  have hblk : blockF x C = writeAll C o (stepB x.b ((C.drop o).take pl.length)) := by
    rw [writeAll_eq _ _ _ (by omega)]
    unfold blockF
    rw [ho, hYl, ← hp2]
    simp
  have hbl : (blockF x C).length = C.length := blockF_len k2
  have hsF : stepF x ⟨C, S, a, f, 0⟩ = ⟨blockF x C, S, a + 1, f, 0⟩ := by simp [stepF, moveF, ctlF, hop]
  unfold RStepOk
  rw [hsF]
  refine ⟨0, S, fun h => rfl, by omega, ?_⟩
  rw [hblk] at hbl ⊢
  generalize hY : stepB x.b ((C.drop o).take pl.length) = Y at *
  have hloop := fun v1 v2 c1 c2 k R hx => rs12_loop x Y S C.length o (a + 1) f v1 v2 c1 c2 ho (by omega) hfew k R Y 0 C (by simp) (by simp) rfl hx
  have w1 : IntKind.i64.wrap (a + 1) = a + 1 := wrap_id (by unfold I64; omega)
  have wa : IntKind.i64.wrap ((o : Int) + (pl.length : Int)) = (o : Int) + (pl.length : Int) := wrap_id (by unfold I64; omega)
  have tn : ((o : Int) + (pl.length : Int)).toNat = o + pl.length := by omega
  have ho1 : o ≤ C.length := by omega
  have ho2 : (o : Int) ≤ (C.length : Int) := by omega
  have ho3 : (0 : Int) ≤ (o : Int) + (pl.length : Int) := by omega
  have ho4 : (o : Int) ≤ (o : Int) + (pl.length : Int) := by omega
  have ho5 : min pl.length (C.length - o) * 8 ≤ 140737488355328 := by omega
  have ho6 : min pl.length (C.length - o) ≤ 4611686018427387904 := by omega
  have ho7 : min pl.length (C.length - o) = pl.length := by omega
  have ho8 : pl.length * 8 ≤ 140737488355328 := by omega
  have ho9 : pl.length ≤ 4611686018427387904 := by omega
  rw [run24 (by simp [rC])]
  clear hN hf hcI hY hblk
  simp only [hYl] at hloop
  simp [Tryz.f24, rB, hop, ho] at hloop
  try simp at hp1
  simp only [List.map_take, List.map_drop] at hst
  have hsz : ∀ d ∈ (List.drop o (C.map jD)).take pl.length, d.size = 1 := fun d hd => by
    obtain ⟨z, _, rfl⟩ := List.mem_map.1 (List.mem_of_mem_drop (List.mem_of_mem_take hd))
    rfl
  have htk : ((List.drop o (C.map jD)).take pl.length).take pl.length = (List.drop o (C.map jD)).take pl.length := by rw [List.take_take, Nat.min_self]
  simp [Tryz.f24, rC, rCv, rB, hop, ho, hp1, hst, w1, wa, tn, ho1, ho2, ho3, ho4, ho5, ho6, ho7, ho8, ho9, htk, k2', drwK_end]
  refine ⟨hsz, ?_⟩
  refine (hloop _ _ _ _ _).trans ?_
  simp [hbl, hYl]
theorem rs_6 (x : Ins) (s : Ms) (h0 : s.fault = 0) (hf : Fit x s.cells.length s.stk.length) (hN : NumsOk s) (hop : x.op = 6) : RStepOk x s := by
  obtain ⟨C, S0, a, f, z⟩ := s
  have hp := hN.place
  have htop := hf.top
  simp only at h0 hf hp htop
  subst h0
  obtain ⟨hl, hc1, hc2⟩ := hf.i6 hop
  obtain ⟨S, n, rfl⟩ := snoc_of hl
  simp at htop
  have hcut := cut1_run C S (a + 1) f 0 n (by omega)
  have w1 : IntKind.i64.wrap (a + 1) = a + 1 := wrap_id (by unfold I64; omega)
  have hst : stepF x ⟨C, S ++ [n], a, f, 0⟩ = ⟨setI C x.a n, S, a + 1, f, 0⟩ := by simp [stepF, moveF, hop, Ms.pop, Ms.top]
  unfold RStepOk
  rw [hst]
  refine ⟨1, S, fun _ => rfl, by omega, ?_⟩
  rw [run24 (by simp [rC])]
  simp [rC, rC2, rB] at hcut
  simp [Tryz.f24, rC, rCv, rB, setI, hop, hcut, w1, hc1, hc2, drwK_end, drwKA_c, drwKE, drwKT, drwKI_cons, drwKI_end, stepI, lookI, lookG, lookL, lookF, lookN, ents, findC, hasC, chkI, invEs, invE, clE, eqA, dgstep, dstep, dspec, dcall, Stp.app]
end Go.Am
end
section
namespace Go.Am
open Go Go.Proofs
set_option maxRecDepth 20000
theorem rstep_all (x : Ins) (s : Ms) (h0 : s.fault = 0) (hf : Fit x s.cells.length s.stk.length) (hN : NumsOk s) (hop : 1 ≤ x.op ∧ x.op ≤ 14) (hb7 : x.op = 8 → (x.b ≤ 7 ↔ (x.b = 6 ∨ x.b = 7))) : RStepOk x s := by
  have hc : x.op = 1 ∨ x.op = 2 ∨ x.op = 3 ∨ (x.op = 4 ∨ x.op = 5) ∨ x.op = 6 ∨ x.op = 7 ∨ x.op = 8 ∨ x.op = 9 ∨ x.op = 10 ∨ x.op = 11 ∨ x.op = 12 ∨ x.op = 13 ∨ x.op = 14 := by omega
  rcases hc with h | h | h | h | h | h | h | h | h | h | h | h | h
  · exact rs_1 x s h0 hf hN h
  · exact rs_2 x s h0 hf hN h
  · exact rs_3 x s h0 hf hN h
  · exact rs_4 x s h0 hf hN h
  · exact rs_6 x s h0 hf hN h
  · exact rs_7 x s h0 hf hN h
  · exact rs_8 x s h0 hf hN h (hb7 h)
  · exact rs_9 x s h0 hf hN h
  · exact rs_10 x s h0 hf hN h
  · exact rs_11 x s h0 hf hN h
  · exact rs_12 x s h0 hf hN h
  · exact rs_13 x s h0 hf hN h
  · exact rs_14 x s h0 hf hN h
theorem form_b7 {n : Nat} {last at_ : Int} {x : Ins} (h : formB pinsN n last at_ x = true) (h8 : x.op = 8) : x.b ≤ 7 ↔ (x.b = 6 ∨ x.b = 7) := by
  unfold formB at h
  simp [h8] at h
  unfold doesB at h
  split at h
  · simp only [Bool.or_eq_true, Bool.and_eq_true, decide_eq_true_eq] at h; omega
  · split at h
    · simp only [Bool.or_eq_true, Bool.and_eq_true, decide_eq_true_eq] at h; omega
    · cases h
@[simp] def rM2 (ins : List Ins) (vars cells : Int) (s : Ms) (S : List Int) (v u : Nat) : Mem :=
  [⟨250, 1, .box [.d (.list (ins.map insD)), .d (.int .i64 vars), .d (.int .i64 cells)]⟩, ⟨400, 1, .box [.lit (.slice none 0 0), .d (.int .i64 0), .d (.int .i64 0)]⟩, ⟨500, v, .vec 1 (s.cells.map jD)⟩,
   ⟨750, 1, .box (rB (.vec 500 v 0 s.cells.length) (.vec 751 u 0 S.length) s.at_ s.fuel s.fault)⟩, ⟨751, u, .vec 1 (S.map jD)⟩]
theorem rrun_loop (ins : List Ins) (vars cells : Int) {r : Nat → Nat} {st : Nat → List Bool} {n : Nat} (hg : Good pinsN n ins r st) (hl : InsOk ins) (k : Kt) (R : Ans) (v : Nat) {s t : Ms} (h : RunsF ins s t) : VInv ins st n s →
    (∀ X S u, k (.exit 2) ⟨74, gl0, (3, true, .ptr 250 1 0) :: (6, true, .ptr 400 1 0) :: (7, true, .ptr 750 1 0) :: X, rM2 ins vars cells t S v u⟩ = R) →
    ∀ X S u, (s.fault = 0 → S = s.stk) →
    denK ctx 11 (.loop (Code.at (codeOf Tryz.f11) [1, 1, 1, 0, 0, 0])) ⟨74, gl0, (3, true, .ptr 250 1 0) :: (6, true, .ptr 400 1 0) :: (7, true, .ptr 750 1 0) :: X, rM2 ins vars cells s S v u⟩ k = R := by
  induction h with
  | fault s h =>
    intro hv hx X S u hS
    have hx := hx [(47, true, .d (.bool false))] S u
    simp [rB] at hx
    rw [denK_loop]
    simp [Tryz.f11, rB, h, hx, drwK_end]
  | fin s x h0 hxx h15 =>
    intro hv hx X S u hS
    have hlt := (hv.here h0).1
    have hp := hv.nums.place
    have hxe : ins[s.at_.toNat] = x := by
      rw [List.getElem?_eq_getElem hlt] at hxx
      exact Option.some.inj hxx
    have hx := hx [(47, true, .d (.bool false))] S u
    simp [rB, h0] at hx
    rw [denK_loop]
    simp [Tryz.f11, rB, h0, hlt, hp.1, hxe, h15, hx, drwK_end]
  | step s x t h0 hxx h15 h' ih =>
    intro hv hx X S u hS
    obtain ⟨hfit, hop, hv', _⟩ := step_inv hg hl hv h0 hxx h15
    have ih := ih hv' hx
    have hlt := (hv.here h0).1
    have hp := hv.nums.place
    have hxe : ins[s.at_.toNat] = x := by
      rw [List.getElem?_eq_getElem hlt] at hxx
      exact Option.some.inj hxx
    obtain ⟨v', S', e1, e2, e3⟩ := rstep_all x s h0 hfit hv.nums hop (fun h8 => form_b7 (hg.form _ x hxx) h8)
    have hS := hS h0
    subst hS
    clear hx hv' hv
    have ih := ih [] S' (u + v') (fun hf => e1 hf)
    generalize stepF x s = t1 at *
    simp [rC, rCv, rB, h0] at e3
    rw [denK_loop]
    simp [Tryz.f11, rB] at ih ⊢
    simp [h0, hlt, hp.1, hxe, h15, e3, drwK_end, ih]
end Go.Am
end
section
namespace Go.Am
open Go Go.Proofs
set_option maxRecDepth 20000
theorem fill_loop (ins : List Ins) (vars : Int) (n : Nat) (hn : n ≤ 8192) (fuel : Int) (u : Nat) (k : Kt) (R : Ans) : ∀ (m : Nat) (C : List Int) (v : Nat), C.length + m = n →
    (∀ v, k (.exit 0) ⟨74, gl0, [(3, true, .ptr 250 1 0), (6, true, .ptr 400 1 0), (7, true, .ptr 750 1 0), (21, true, .d (.bool false))], rM2 ins vars n ⟨C ++ List.replicate m 0, [], 0, fuel, 0⟩ [] v u⟩ = R) →
    denK ctx 11 (.loop (Code.at (codeOf Tryz.f11) [1, 1, 0, 0, 0])) ⟨74, gl0, [(3, true, .ptr 250 1 0), (6, true, .ptr 400 1 0), (7, true, .ptr 750 1 0)], rM2 ins vars n ⟨C, [], 0, fuel, 0⟩ [] v u⟩ k = R := by
  intro m
  induction m with
  | zero =>
    intro C v hC hx
    have hx := hx v
    have hC : C.length = n := by omega
    simp [rB] at hx
    rw [denK_loop]
    simp [Tryz.f11, rB, hC, drwK_end]
    rw [hC] at hx
    exact hx
  | succ m ih =>
    intro C v hC hx
    have e : (C ++ [0]) ++ List.replicate m 0 = C ++ List.replicate (m + 1) 0 := by simp [List.replicate_succ]
    have ih := ih (C ++ [0]) (v + 1) (by simp; omega) (by rw [e]; exact hx)
    have hlt : C.length < n := by omega
    have h2 : (C.length + 1) * 8 ≤ 140737488355328 := by omega
    have h3 : C.length + 1 ≤ 4611686018427387904 := by omega
    have ht : (C.map jD).take C.length = C.map jD := List.take_of_length_le (by simp)
    rw [denK_loop]
    simp [Tryz.f11, rB] at ih ⊢
    simp [hlt, h2, h3, ht, drwK_end, ih]
theorem rrun_ok (ins : List Ins) (vars cells : Int) (C : List Int) (fuel : Int) (hok : okCode pinsN ins vars cells = true) (hv : (C.length : Int) = vars) (hf : 0 ≤ fuel ∧ fuel ≤ 16384) (hl : InsOk ins) (hI : ∀ x ∈ C, I64 x) (t : Ms)
    (ht : RunsF ins (s0 C cells.toNat fuel) t) (htv : t.cells.length = cells.toNat) :
    callT ctx 11 [.d (codeD ins vars cells), .d (.list (C.map jD)), .d (.int .i64 fuel)] [] = some (.ret (.d (ranD (t.cells.take vars.toNat) t.fault t.fuel)), []) := by
  obtain ⟨⟨c1, c2, c3, c4⟩, r, st, hg⟩ := good_of hok
  have hlen := hg.len
  obtain ⟨n, rfl⟩ : ∃ n : Nat, cells = (n : Int) := ⟨cells.toNat, by omega⟩
  have hCn : C.length ≤ n := by omega
  have hinv := s0_inv (l := ins) hg hI hCn (by omega) hf
  have hfill := fun u k R v hx => fill_loop ins vars n (by omega) fuel u k R (n - C.length) C v (by omega) hx
  have hloop := fun v k R hx u => rrun_loop ins vars n hg hl k R v ht hinv hx [(21, true, .d (.bool false))] [] u (fun _ => rfl)
  have hctk : (C.map jD).take C.length = C.map jD := List.take_of_length_le (by simp)
  have h2 : C.length * 8 ≤ 140737488355328 := by omega
  have h3 : C.length ≤ 4611686018427387904 := by omega
  rw [run11 (by simp)]
  subst hv
  simp [Tryz.f11, s0, rB] at hloop hfill
  simp [Tryz.f11, hctk, h2, h3, drwK_end]
  refine hfill _ _ _ _ ?_
  intro v
  simp
  refine hloop v _ _ ?_ _
  intro X S u
  have k1 : C.length ≤ t.cells.length := by omega
  have k2 : (C.length : Int) ≤ (t.cells.length : Int) := by omega
  simp [k1, k2, drwK_end]
end Go.Am
end
section
namespace Go.Am

/-- One instruction by itself, by the reference. -/
def singleB (pins : Int → Nat) (len cells at_ : Int) (x : Ins) : Bool :=
  if x.op = 1 ∨ x.op = 11 then true
  else if x.op = 2 ∨ x.op = 3 ∨ x.op = 6 ∨ x.op = 14 then thereB cells x.a 1
  else if x.op = 13 then thereB cells x.a 1 && thereB cells x.b 2
  else if x.op = 4 ∨ x.op = 5 ∨ x.op = 7 then decide (0 ≤ x.n) && decide (x.m ≤ 255) && decide (x.n ≤ x.m) && thereB cells x.a (x.m - x.n + 1)
  else if x.op = 8 then doesB x
  else if x.op = 9 ∨ x.op = 10 then decide (0 ≤ x.a) && decide (x.a < len)
  else if x.op = 12 then decide (0 < pins x.b) && thereB cells x.a (pins x.b)
  else if x.op = 15 then decide (at_ = len - 1)
  else false
theorem single_form {pins : Int → Nat} {len cells at_ : Int} {x : Ins} (hc : 0 ≤ cells ∧ cells ≤ 8192) : singleB pins len cells at_ x = formB pins cells (len - 1) at_ x := by
  unfold singleB formB arrB
  have c1 := cell_there (cells := cells) (at_ := x.a) (n := 1) hc (by omega)
  have c2 := cell_there (cells := cells) (at_ := x.b) (n := 2) hc (by omega)
  rw [c1, c2]
  have ca : (decide (0 ≤ x.n) && decide (x.m ≤ 255) && decide (x.n ≤ x.m) && thereB cells x.a (x.m - x.n + 1)) = (decide (0 ≤ x.n) && decide (x.n ≤ x.m) && decide (x.m ≤ 255) && cellB cells x.a (x.m - x.n + 1)) := by
    by_cases h : x.n ≤ x.m
    · rw [cell_there (cells := cells) (at_ := x.a) (n := x.m - x.n + 1) hc (by omega)]
      cases decide (0 ≤ x.n) <;> cases decide (x.m ≤ 255) <;> simp [h]
    · simp [h]
  rw [ca]
  have cp : (decide (0 < pins x.b) && thereB cells x.a (pins x.b)) = (decide (0 < pins x.b) && cellB cells x.a (pins x.b)) := by
    by_cases h : 0 < pins x.b
    · rw [cell_there (cells := cells) (at_ := x.a) (n := pins x.b) hc (by omega)]
    · simp [h]
  rw [cp]
  have cj : decide (x.a < len) = decide (x.a ≤ len - 1) := by rw [Bool.eq_iff_iff]; simp only [decide_eq_true_eq]; omega
  rw [cj]
/-- What an instruction takes and gives: how many, whether of truths, whether a truth. -/
def effI (x : Ins) : Nat × Nat × Bool × Bool :=
  if x.op = 1 then (0, 1, false, decide (x.n = 0) || decide (x.n = 1))
  else if x.op = 2 then (0, 1, false, false)
  else if x.op = 3 ∨ x.op = 13 ∨ x.op = 14 then (0, 1, false, true)
  else if x.op = 4 ∨ x.op = 5 then (1, 1, false, decide (x.op = 5))
  else if x.op = 6 then (1, 0, false, false)
  else if x.op = 7 then (2, 0, false, false)
  else if x.op = 8 then (if x.b < 8 then 1 else 2, 1, decide (x.a = 1), decide (x.b = 7) || decide (12 < x.b))
  else if x.op = 10 then (1, 0, true, false)
  else (0, 0, false, false)
/-- One number after another taken. -/
def takeR (need : Bool) : Nat → List Bool → Option (List Bool)
  | 0, S => some S
  | n + 1, S => if need && !(S.getLastD true) then none else takeR need n S.dropLast
def movesR (x : Ins) (S : List Bool) : Option (List Bool) :=
  if S.length < (effI x).1 then none else
  match takeR (effI x).2.2.1 (effI x).1 S with
  | none => none
  | some S1 =>
    let S2 := if 0 < (effI x).2.1 then S1 ++ [(effI x).2.2.2] else S1
    if 64 < S2.length || (decide (0 < S2.length) && (decide (x.op = 9) || decide (x.op = 10) || decide (x.op = 11) || decide (x.op = 12) || decide (x.op = 15))) then none else some S2
theorem takeR_takeS {need : Bool} : ∀ {n : Nat} {S : List Bool}, n ≤ S.length → takeR need n S = takeS n need S
  | 0, S, h => by simp [takeR, takeS]
  | n + 1, S, h => by
    have hne : S ≠ [] := by intro h0; simp [h0] at h
    obtain ⟨ini, b, rfl⟩ : ∃ ini b, S = ini ++ [b] := ⟨S.dropLast, S.getLast hne, (List.dropLast_concat_getLast _).symm⟩
    have hl : n ≤ ini.length := by simpa using h
    have ih := takeR_takeS (need := need) (n := n) (S := ini) hl
    unfold takeR
    rw [show (ini ++ [b]).getLastD true = b by simp, List.dropLast_concat, ih]
    unfold takeS
    have e1 : (ini ++ [b]).length - (n + 1) = ini.length - n := by simp
    have c1 : ¬ ((ini ++ [b]).length < n + 1) := by omega
    have c2 : ¬ (ini.length < n) := by omega
    rw [if_neg c1, if_neg c2, e1, List.drop_append_of_le_length (by omega), List.take_append_of_le_length (by omega)]
    cases need <;> cases b <;> simp
theorem movesR_S {pins : Int → Nat} {cells last at_ : Int} {x : Ins} {S : List Bool} (hf : formB pins cells last at_ x = true) (hl : S.length ≤ 64) : movesR x S = movesS x S := by
  have hg : ∀ (t : Bool) (S1 : List Bool), giveS t S1 = if 64 < (S1 ++ [t]).length then none else some (S1 ++ [t]) := by
    intro t S1
    unfold giveS
    by_cases h : S1.length < 64
    · rw [if_pos h, if_neg (by simp; omega)]
    · rw [if_neg h, if_pos (by simp; omega)]
  have he : ∀ S1 : List Bool, emptyS S1 = if 0 < S1.length then none else some S1 := by
    intro S1; cases S1 <;> simp [emptyS]
  have ht : ∀ {n t S1}, takeS n t S = some S1 → S1.length ≤ 64 := by
    intro n t S1 h
    unfold takeS at h
    split at h
    · cases h
    · split at h
      · cases h
      · cases h; simp; omega
  have htl : ∀ {n t}, S.length < n → takeS n t S = none := by
    intro n t h
    unfold takeS; rw [if_pos h]
  -- what is taken, by cases
  have key : ∀ (n : Nat) (t : Bool) (f : List Bool → Option (List Bool)), (if S.length < n then none else match takeR t n S with | none => none | some S1 => f S1) = (takeS n t S).bind f := by
    intro n t f
    by_cases h : S.length < n
    · rw [if_pos h, htl h]; rfl
    · rw [if_neg h, takeR_takeS (by omega)]
      cases takeS n t S <;> rfl
  have key1 : ∀ (n : Nat) (t : Bool), (takeS n t S).bind (fun S1 => if 64 < S1.length then none else some S1) = takeS n t S := by
    intro n t
    cases h : takeS n t S with
    | none => rfl
    | some S1 => have := ht h; simp; omega
  have t0 : ∀ t, takeS 0 t S = some S := by intro t; simp [takeS]
  unfold movesR
  rw [key]
  unfold formB at hf
  unfold movesS effI
  by_cases e1 : x.op = 1
  · simp [e1, t0, hg]
  by_cases e2 : x.op = 2
  · simp [e2, t0, hg]
  by_cases e3 : x.op = 3
  · simp [e3, t0, hg]
  by_cases e13 : x.op = 13
  · simp [e13, t0, hg]
  by_cases e14 : x.op = 14
  · simp [e14, t0, hg]
  by_cases e4 : x.op = 4
  · simp [e4]
    congr 1; funext S1; rw [hg]; simp
  by_cases e5 : x.op = 5
  · simp [e5]
    congr 1; funext S1; rw [hg]; simp
  by_cases e6 : x.op = 6
  · simp [e6]
    exact key1 _ _
  by_cases e7 : x.op = 7
  · simp [e7]
    exact key1 _ _
  by_cases e8 : x.op = 8
  · simp [e8] at hf
    have hb : x.b = 6 ∨ x.b = 7 ∨ 8 ≤ x.b := by
      unfold doesB at hf
      split at hf
      · simp at hf; omega
      · split at hf
        · simp at hf; omega
        · cases hf
    have hn : (if x.b = 6 ∨ x.b = 7 then 1 else 2 : Nat) = if x.b < 8 then 1 else 2 := by
      by_cases h : x.b < 8
      · rw [if_pos h, if_pos (by omega)]
      · rw [if_neg h, if_neg (by omega)]
    have hgv : (decide (x.b = 7) || decide (13 ≤ x.b)) = (decide (x.b = 7) || decide (12 < x.b)) := by
      rw [Bool.eq_iff_iff]; simp only [Bool.or_eq_true, decide_eq_true_eq]; omega
    simp only [e8, hn, hgv]
    simp
    congr 1; funext S1; rw [hg]; simp
  have hep : ∀ S1 : List Bool, (if (decide (64 < S1.length) || decide (0 < S1.length)) = true then none else some S1) = emptyS S1 := by
    intro S1
    rw [he]
    cases S1 <;> simp
  by_cases e10 : x.op = 10
  · simp only [e10]
    simp
    congr 1
    funext S1
    have := hep S1
    simpa using this
  have h9 : x.op = 9 ∨ x.op = 11 ∨ x.op = 12 ∨ x.op = 15 := by
    by_cases a9 : x.op = 9
    · exact .inl a9
    by_cases a11 : x.op = 11
    · exact .inr (.inl a11)
    by_cases a12 : x.op = 12
    · exact .inr (.inr (.inl a12))
    by_cases a15 : x.op = 15
    · exact .inr (.inr (.inr a15))
    simp [e1, e2, e3, e4, e5, e6, e7, e8, e10, e13, e14, a9, a11, a12, a15] at hf
  have hS := hep S
  rcases h9 with h | h | h | h <;> simp [h, t0] <;> simpa using hS
end Go.Am
end
section
namespace Go.Am
open Go
abbrev AnsT := Option (Out × List (Nat × Cont))
theorem hoistB (c : Prop) [Decidable c] (a b : Bool) (l : List (Nat × Cont)) : (if c then (some (Out.ret (.d (.bool a)), l) : AnsT) else some (Out.ret (.d (.bool b)), l)) = some (Out.ret (.d (.bool (if c then a else b))), l) := by split <;> rfl
theorem retB_iff (a b : Bool) (l : List (Nat × Cont)) : (some (Out.ret (.d (.bool a)), l) : AnsT) = some (Out.ret (.d (.bool b)), l) ↔ (a = true ↔ b = true) := by
  cases a <;> cases b <;> simp
theorem hoistI (c : Prop) [Decidable c] (k : IntKind) (a b : Int) (l : List (Nat × Cont)) : (if c then (some (Out.ret (.d (.int k a)), l) : AnsT) else some (Out.ret (.d (.int k b)), l)) = some (Out.ret (.d (.int k (if c then a else b))), l) := by split <;> rfl
theorem hoistT (c : Prop) [Decidable c] (a b : List AV) (l : List (Nat × Cont)) : (if c then (some (Out.ret (.tup a), l) : AnsT) else some (Out.ret (.tup b), l)) = some (Out.ret (.tup (if c then a else b)), l) := by split <;> rfl
end Go.Am
end
section
namespace Go.Am
open Go Go.Proofs
set_option maxRecDepth 20000
theorem there_run (l : List D) (vars cells at_ n : Int) :
    callT ctx 30 [.d (.agg [.list l, .int .i64 vars, .int .i64 cells]), .d (.int .i64 at_), .d (.int .i64 n)] [] = some (.ret (.d (.bool (decide (0 ≤ at_) && decide (at_ ≤ 8192) && decide (IntKind.i64.wrap (at_ + n) ≤ cells)))), []) := by
  rw [run30 (by simp)]
  simp [Tryz.f30, drwK_end]
theorem effect_run (x : Ins) :
    callT ctx 15 [.d (insD x)] [] = some (.ret (.tup [.d (.int .i64 (effI x).1), .d (.int .i64 (effI x).2.1), .d (.bool (effI x).2.2.1), .d (.bool (effI x).2.2.2)]), []) := by
  rw [run15 (by simp)]
  simp [Tryz.f15, drwK_end]
  grind (splits := 40) [effI]
set_option maxHeartbeats 2000000 in
theorem single_run (pins : Int → Nat) (hp : PinsOk 31 pins) (ins : List Ins) (vars cells : Int) (i : Nat) (hi : i < ins.length) (hl : ins.length ≤ 5000) :
    callT ctx 14 [.d (codeD ins vars cells), .d (.int .i64 i)] [] = some (.ret (.d (.bool (singleB pins ins.length cells i ins[i]))), []) := by
  obtain ⟨l, hl1, hl2, hl3⟩ := hp ins[i].b
  rw [run14 (by simp)]
  simp [Tryz.f14, drwK_end, hi, there_run, hl1, hl2]
  generalize ins[i] = x at *
  have w : ∀ y : Int, -9223372036854775808 ≤ y → y ≤ 9223372036854775807 → IntKind.i64.wrap y = y := fun y h1 h2 => wrap_id ⟨h1, h2⟩
  clear hl1 hl2
  simp only [hoistB, retB_iff]
  grind (splits := 60) [singleB, thereB, doesB]
end Go.Am
end
section
namespace Go.Am
open Go Go.Proofs

def singlesB (pins : Int → Nat) (len cells : Int) : Nat → List Ins → Bool
  | _, [] => true
  | i, x :: r => singleB pins len cells i x && singlesB pins len cells (i + 1) r
def stackR (led : List Bool) : Nat → List Ins → List Bool → Bool
  | _, [], _ => true
  | i, x :: r, S => if led.getD i false && !S.isEmpty then false else match movesR x S with
    | none => false
    | some S' => stackR led (i + 1) r S'
def aroundB (ins : List Ins) : Bool := (struck (succI ins) (List.range ins.length).reverse (ins.length + 1) (List.replicate ins.length false)).any (fun b => !b)
def refCode (pins : Int → Nat) (ins : List Ins) (vars cells : Int) : Bool :=
  headB ins.length vars cells (lastOp ins) && singlesB pins ins.length cells 0 ins && stackR (ledOf ins) 0 ins [] && !(aroundB ins)
theorem singles_forms {pins : Int → Nat} {len cells : Int} (hc : 0 ≤ cells ∧ cells ≤ 8192) : ∀ (l : List Ins) (i : Nat), singlesB pins len cells i l = formsB pins cells (len - 1) i l
  | [], _ => rfl
  | x :: r, i => by rw [singlesB, formsB, single_form hc, singles_forms hc r]
theorem stackR_S {pins : Int → Nat} {cells last : Int} (led : List Bool) : ∀ (l : List Ins) (i : Nat) (S : List Bool), formsB pins cells last i l = true → S.length ≤ 64 → stackR led i l S = stackS led i l S
  | [], _, _, _, _ => rfl
  | x :: r, i, S, hf, hS => by
    simp only [formsB, Bool.and_eq_true] at hf
    rw [stackR, stackS, movesR_S hf.1 hS]
    split
    · rfl
    · cases h : movesS x S with
      | none => rfl
      | some S' => exact stackR_S led r (i + 1) S' hf.2 (movesS_len hS h)
theorem around_iff {pins : Int → Nat} {ins : List Ins} {vars cells : Int} (h : okForms pins ins vars cells = true) : aroundB ins = true ↔ ∃ i < ins.length, ¬ Ends (succI ins) i := by
  have hl : left (List.replicate ins.length false) < ins.length + 1 := by
    have : left (List.replicate ins.length false) ≤ (List.replicate ins.length false).length := List.countP_le_length
    simp at this; omega
  obtain ⟨h1, h2⟩ := struck_all (succ := succI ins) (N := ins.length) (succ_in h) (List.range ins.length).reverse (by simp) (ins.length + 1) (List.replicate ins.length false) (by simp) hl
    (fun i hi hg => by simp [List.getD_eq_getElem?_getD, List.getElem?_replicate, hi] at hg)
  unfold aroundB
  generalize struck (succI ins) (List.range ins.length).reverse (ins.length + 1) (List.replicate ins.length false) = g at h1 h2
  simp only [List.any_eq_true]
  constructor
  · rintro ⟨b, hb, hf⟩
    obtain ⟨i, hi, rfl⟩ := List.getElem_of_mem hb
    refine ⟨i, by omega, fun he => ?_⟩
    have := (h2 i (by omega)).2 he
    simp [hi] at this
    rw [this] at hf; cases hf
  · rintro ⟨i, hi, he⟩
    have hi' : i < g.length := by omega
    refine ⟨g[i], List.getElem_mem hi', ?_⟩
    cases hq : g[i] with
    | false => rfl
    | true => exact absurd ((h2 i hi).1 (by simp [hi', hq])) he
theorem ref_ok (pins : Int → Nat) (ins : List Ins) (vars cells : Int) : refCode pins ins vars cells = okCode pins ins vars cells := by
  unfold refCode okCode okForms
  cases hh : headB ins.length vars cells (lastOp ins) with
  | false => rfl
  | true =>
    have hc : 0 ≤ cells ∧ cells ≤ 8192 := by
      simp only [headB, Bool.and_eq_true, decide_eq_true_eq] at hh
      omega
    rw [singles_forms hc]
    cases hf : formsB pins cells ((ins.length : Int) - 1) 0 ins with
    | false => rfl
    | true =>
      have hok : okForms pins ins vars cells = true := by unfold okForms; rw [hh, hf]; rfl
      rw [stackR_S (ledOf ins) ins 0 [] hf (by simp)]
      have h1 := around_iff hok
      have h2 := round_iff hok
      have : aroundB ins = rounds (succP ins) (ins.length + 1) (List.range ins.length) (List.replicate ins.length 0) := by
        rw [Bool.eq_iff_iff, h1, h2]
      rw [this]
end Go.Am
end
section
namespace Go.Am
open Go Go.Proofs
set_option maxRecDepth 20000
def freeB (g : List Bool) (i : Nat) (x : Ins) : Bool :=
  decide (x.op = 11) || decide (x.op = 15) || ((decide (x.op = 9) || g.getD (i + 1) true) && ((!decide (x.op = 9) && !decide (x.op = 10)) || g.getD x.a.toNat true))
theorem strike_free (ins : List Ins) (g : List Bool) (more : Bool) (i : Nat) (hi : i < ins.length) :
    strike (succI ins) (g, more) i = if g.getD i true = true then (g, more) else if freeB g i ins[i] = true then (g.set i true, true) else (g, more) := by
  unfold strike
  simp only
  split
  · rfl
  · have : (succI ins i).all (fun j => g.getD j true) = freeB g i ins[i] := by
      unfold succI tickAt nextI freeB
      have hx : ins[i]? = some ins[i] := by simp [hi]
      rw [hx]
      simp only [decide_eq_true_eq]
      by_cases e11 : ins[i].op = 11
      · simp [e11]
      by_cases e9 : ins[i].op = 9
      · simp [e9]
      by_cases e10 : ins[i].op = 10
      · simp [e10]
      by_cases e15 : ins[i].op = 15
      · simp [e15]
      simp [e11, e9, e10, e15]
    rw [this]
theorem strikes_len (ins : List Ins) : ∀ (l : List Nat) (s : List Bool × Bool), (∀ i ∈ l, i < ins.length) → (strikes (succI ins) l s).1.length = s.1.length
  | [], _, _ => rfl
  | i :: r, (g, m), h => by
    show (strikes (succI ins) r (strike (succI ins) (g, m) i)).1.length = _
    rw [strikes_len ins r _ (fun j hj => h j (by simp [hj])), strike_free ins g m i (h i (by simp))]
    split
    · rfl
    · split <;> simp
section
variable (ins : List Ins) (vars cells : Int)
@[simp] def arM (v : Nat) (ct : Cont) (g : List Bool) : Mem := [⟨150, 1, .box [.d (.list (ins.map insD)), .d (.int .i64 vars), .d (.int .i64 cells)]⟩, ⟨450, v, ct⟩, ⟨800, 1, .vec 1 (bD g)⟩]
set_option maxHeartbeats 2000000 in
theorem ar_inner (hin : Inside ins) (hl : ins.length ≤ 5000) (k : Kt) (R : Ans) :
    ∀ (m : Nat) (g : List Bool) (more : Bool), m ≤ ins.length → g.length = ins.length →
    (∀ v ct, k (.exit 2) ⟨82, gl0, [(1, true, .ptr 150 1 0), (3, true, .d (.int .i64 ins.length)), (4, true, .vec 800 1 0 ins.length), (5, true, .d (.bool (strikes (succI ins) (List.range m).reverse (g, more)).2)), (6, true, .d (.int .i64 (-1))), (19, true, .d (.bool false))], arM ins vars cells v ct (strikes (succI ins) (List.range m).reverse (g, more)).1⟩ = R) →
    ∀ (v : Nat) (ct : Cont), denK ctx 16 (.loop (Code.at (codeOf Tryz.f16) [1, 1, 1, 0, 1, 0, 0, 1, 0, 1, 1, 0, 0])) ⟨82, gl0, [(1, true, .ptr 150 1 0), (3, true, .d (.int .i64 ins.length)), (4, true, .vec 800 1 0 ins.length), (5, true, .d (.bool more)), (6, true, .d (.int .i64 ((m : Int) - 1)))],
        arM ins vars cells v ct g⟩ k = R
  | 0, g, more, hm, hg, hx, v, ct => by
    rw [denK_loop]
    simp [strikes] at hx
    simp [Tryz.f16, hx]
  | m + 1, g, more, hm, hg, hx, v, ct => by
    have hlt : m < ins.length := by omega
    have hgl : m < g.length := by omega
    have hx1 : ins[m]? = some ins[m] := by simp [hlt]
    obtain ⟨i1, i2⟩ := hin m ins[m] hx1
    have e : (List.range (m + 1)).reverse = m :: (List.range m).reverse := by rw [List.range_succ]; simp
    rw [e] at hx
    have es : strikes (succI ins) (m :: (List.range m).reverse) (g, more) = strikes (succI ins) (List.range m).reverse (strike (succI ins) (g, more) m) := rfl
    rw [es, strike_free ins g more m hlt] at hx
    have w1 : IntKind.i64.wrap ((m : Int) - 1) = (m : Int) - 1 := wrap_id (by unfold I64; omega)
    have w2 : IntKind.i64.wrap ((m : Int) + 1) = (m : Int) + 1 := wrap_id (by unfold I64; omega)
    have hgd : g.getD m true = g[m] := by simp [hgl]
    rw [hgd] at hx
    have ih1 := ar_inner hin hl k R m g more (by omega) hg
    have ih2 := ar_inner hin hl k R m (g.set m true) true (by omega) (by simpa using hg)
    have hset : (bD g).set m (.bool true) = bD (g.set m true) := bD_set g m true
    simp at hset
    have b3 : ¬ ((m : Int) + 1 < 0) := by omega
    cases hq : g[m]
    rotate_left
    · rw [hq, if_pos rfl] at hx
      replace ih1 := ih1 hx
      rw [denK_loop]
      simp [Tryz.f16] at ih1 ⊢
      simp [hlt, hgl, hq, w1, ih1]
    have hno : ¬ (false = true) := by decide
    rw [hq, if_neg hno] at hx
    by_cases e11 : ins[m].op = 11
    · have hfr : freeB g m ins[m] = true := by simp [freeB, hlt, hgl, hq, e11]
      rw [hfr, if_pos rfl] at hx
      replace ih2 := ih2 hx
      rw [denK_loop]
      simp [Tryz.f16, e11] at ih2 ⊢
      simp [hlt, hgl, hq, w1, hset, e11, ih2]
    by_cases e15 : ins[m].op = 15
    · have hfr : freeB g m ins[m] = true := by simp [freeB, hlt, hgl, hq, e15]
      rw [hfr, if_pos rfl] at hx
      replace ih2 := ih2 hx
      rw [denK_loop]
      simp [Tryz.f16, e15] at ih2 ⊢
      simp [hlt, hgl, hq, w1, hset, e15, ih2]
    by_cases e9 : ins[m].op = 9
    · obtain ⟨a1, a2⟩ := i1 (.inl e9)
      have a3 : ins[m].a.toNat < g.length := by omega
      have a4 : ins[m].a.toNat < ins.length := by omega
      cases hq2 : g[ins[m].a.toNat]
      · have hfr : freeB g m ins[m] = false := by simp [freeB, hlt, hgl, hq, hq2, a1, a3, a4, e9]
        rw [hfr, if_neg hno] at hx
        replace ih1 := ih1 hx
        rw [denK_loop]
        simp [Tryz.f16, e9] at ih1 ⊢
        simp [hlt, hgl, hq, hq2, w1, a1, a3, a4, e9, ih1]
      · have hfr : freeB g m ins[m] = true := by simp [freeB, hlt, hgl, hq, hq2, a1, a3, a4, e9]
        rw [hfr, if_pos rfl] at hx
        replace ih2 := ih2 hx
        rw [denK_loop]
        simp [Tryz.f16, e9] at ih2 ⊢
        simp [hlt, hgl, hq, hq2, w1, a1, a3, a4, hset, e9, ih2]
    have b1 : m + 1 < ins.length := i2 e9 e15
    have b2 : m + 1 < g.length := by omega
    by_cases e10 : ins[m].op = 10
    · obtain ⟨a1, a2⟩ := i1 (.inr e10)
      have a3 : ins[m].a.toNat < g.length := by omega
      have a4 : ins[m].a.toNat < ins.length := by omega
      cases hq3 : g[m + 1]
      · have hfr : freeB g m ins[m] = false := by simp [freeB, hlt, hgl, hq, hq3, b1, b2, b3, a1, a3, a4, e10]
        rw [hfr, if_neg hno] at hx
        replace ih1 := ih1 hx
        rw [denK_loop]
        simp [Tryz.f16, e10] at ih1 ⊢
        simp [hlt, hgl, hq, hq3, w1, w2, b1, b2, b3, a1, a3, a4, e10, ih1]
      · cases hq2 : g[ins[m].a.toNat]
        · have hfr : freeB g m ins[m] = false := by simp [freeB, hlt, hgl, hq, hq2, hq3, b1, b2, b3, a1, a3, a4, e10]
          rw [hfr, if_neg hno] at hx
          replace ih1 := ih1 hx
          rw [denK_loop]
          simp [Tryz.f16, e10] at ih1 ⊢
          simp [hlt, hgl, hq, hq2, hq3, w1, w2, b1, b2, b3, a1, a3, a4, e10, ih1]
        · have hfr : freeB g m ins[m] = true := by simp [freeB, hlt, hgl, hq, hq2, hq3, b1, b2, b3, a1, a3, a4, e10]
          rw [hfr, if_pos rfl] at hx
          replace ih2 := ih2 hx
          rw [denK_loop]
          simp [Tryz.f16, e10] at ih2 ⊢
          simp [hlt, hgl, hq, hq2, hq3, w1, w2, b1, b2, b3, a1, a3, a4, hset, e10, ih2]
    cases hq3 : g[m + 1]
    · have hfr : freeB g m ins[m] = false := by simp [freeB, hlt, hgl, hq, hq3, b1, b2, b3, e9, e10, e11, e15]
      rw [hfr, if_neg hno] at hx
      replace ih1 := ih1 hx
      rw [denK_loop]
      simp [Tryz.f16, e9, e10, e11, e15] at ih1 ⊢
      simp [hlt, hgl, hq, hq3, w1, w2, b1, b2, b3, e9, e10, e11, e15, ih1]
    · have hfr : freeB g m ins[m] = true := by simp [freeB, hlt, hgl, hq, hq3, b1, b2, b3, e9, e10, e11, e15]
      rw [hfr, if_pos rfl] at hx
      replace ih2 := ih2 hx
      rw [denK_loop]
      simp [Tryz.f16, e9, e10, e11, e15] at ih2 ⊢
      simp [hlt, hgl, hq, hq3, w1, w2, b1, b2, b3, hset, e9, e10, e11, e15, ih2]
theorem ar_outer (hin : Inside ins) (hl : ins.length ≤ 5000) (hs : ∀ i < ins.length, ∀ j ∈ succI ins i, j < ins.length) (k : Kt) (R : Ans) :
    ∀ (f : Nat) (g : List Bool), g.length = ins.length → left g < f →
    (∀ v ct, k (.exit 0) ⟨82, gl0, [(1, true, .ptr 150 1 0), (3, true, .d (.int .i64 ins.length)), (4, true, .vec 800 1 0 ins.length), (15, true, .d (.bool false))], arM ins vars cells v ct (struck (succI ins) (List.range ins.length).reverse f g)⟩ = R) →
    ∀ (X : Env), (X = [] ∨ X = [(6, true, .d (.int .i64 (-1))), (19, true, .d (.bool false))]) → ∀ (v : Nat) (ct : Cont), denK ctx 16 (.loop (Code.at (codeOf Tryz.f16) [1, 1, 1, 0, 1, 0, 0])) ⟨82, gl0, [(1, true, .ptr 150 1 0), (3, true, .d (.int .i64 ins.length)), (4, true, .vec 800 1 0 ins.length), (5, true, .d (.bool true))] ++ X,
        arM ins vars cells v ct g⟩ k = R
  | 0, g, hg, hf, hx, X, hX, v, ct => by omega
  | f + 1, g, hg, hf, hx, X, hX, v, ct => by
    have w1 : IntKind.i64.wrap ((ins.length : Int) - 1) = (ins.length : Int) - 1 := wrap_id (by unfold I64; omega)
    obtain ⟨ok, _⟩ := strikes_ok hs (List.range ins.length).reverse (g, false) hg (fun i hi => by simpa using hi)
    unfold struck at hx
    have hi := fun k => ar_inner ins vars cells hin hl k R ins.length g false (by omega) hg
    obtain ⟨g', b, hd⟩ : ∃ g' b, strikes (succI ins) (List.range ins.length).reverse (g, false) = (g', b) := ⟨_, _, rfl⟩
    rw [hd] at ok hi hx
    rw [denK_loop]
    cases b with
    | true =>
      have h1 := ok.less rfl rfl
      have h2 := ok.len
      simp only at h1 h2
      have ih := ar_outer hin hl hs k R f g' (by omega) (by omega) hx _ (.inr rfl)
      simp [Tryz.f16] at hi ih
      rcases hX with rfl | rfl
      all_goals
        simp [Tryz.f16]
        simp [w1]
        refine hi _ (fun v ct => ?_) _ _
        simp [ih]
    | false =>
      simp [Tryz.f16] at hi hx
      rcases hX with rfl | rfl
      all_goals
        simp [Tryz.f16]
        simp [w1]
        refine hi _ (fun v ct => ?_) _ _
        simp
        rw [denK_loop]
        simp [hx]
theorem ar_last (k : Kt) (R1 R2 : Ans) (g : List Bool) (hl : g.length ≤ 5000) (v : Nat) (ct : Cont) 
    (h1 : k .ret ⟨82, gl0, [(2, true, .d (.bool true))], arM ins vars cells v ct g⟩ = R1)
    (h2 : k (.exit 4) ⟨82, gl0, [(3, true, .d (.int .i64 g.length)), (4, true, .vec 800 1 0 g.length), (9, true, .d (.int .i64 g.length)), (74, true, .d (.bool false))], arM ins vars cells v ct g⟩ = R2) :
    ∀ (rest pre : List Bool), pre ++ rest = g →
    denK ctx 16 (.loop (Code.at (codeOf Tryz.f16) [1, 1, 1, 1, 0, 1, 0, 0])) ⟨82, gl0, [(3, true, .d (.int .i64 g.length)), (4, true, .vec 800 1 0 g.length), (9, true, .d (.int .i64 pre.length))],
        arM ins vars cells v ct g⟩ k = if rest.any (fun b => !b) then R1 else R2
  | [], pre, hp => by
    simp at hp
    subst hp
    rw [denK_loop]
    simp at h2
    simp [Tryz.f16, h2]
  | b :: rest, pre, hp => by
    have hpl : pre.length < g.length := by rw [← hp]; simp
    have hb : g[pre.length] = b := by simp [← hp]
    have w : IntKind.i64.wrap ((pre.length : Int) + 1) = pre.length + 1 := wrap_id (by unfold I64; omega)
    have ih := ar_last k R1 R2 g hl v ct h1 h2 rest (pre ++ [b]) (by simpa using hp)
    rw [denK_loop]
    cases b with
    | true =>
      simp [Tryz.f16] at ih ⊢
      simp [hpl, hb, w, ih]
    | false =>
      simp at h1
      simp [Tryz.f16]
      simp [hpl, hb, h1]
theorem around_run (hin : Inside ins) (hl : ins.length ≤ 5000) (hs : ∀ i < ins.length, ∀ j ∈ succI ins i, j < ins.length) :
    callT ctx 16 [.d (codeD ins vars cells)] [] = some (.ret (.d (.bool (aroundB ins))), []) := by
  have hlf : left (List.replicate ins.length false) < ins.length + 1 := by
    have : left (List.replicate ins.length false) ≤ (List.replicate ins.length false).length := List.countP_le_length
    simp at this; omega
  have g1 : (ins.length : Int) ≤ 140737488355328 ∧ (ins.length : Int) ≤ 4611686018427387904 := by omega
  have ho := fun k hx => ar_outer ins vars cells hin hl hs k (some (.ret (.d (.bool (aroundB ins))), [])) (ins.length + 1) (List.replicate ins.length false) (by simp) hlf hx [] (.inl rfl)
  have hst := (struck_all hs (List.range ins.length).reverse (by simp) (ins.length + 1) (List.replicate ins.length false) (by simp) hlf (fun i hi hg => by simp [List.getD_eq_getElem?_getD, List.getElem?_replicate, hi] at hg)).1
  have hB : aroundB ins = (struck (succI ins) (List.range ins.length).reverse (ins.length + 1) (List.replicate ins.length false)).any (fun b => !b) := rfl
  generalize struck (succI ins) (List.range ins.length).reverse (ins.length + 1) (List.replicate ins.length false) = g at ho hst hB
  have hla := fun k R1 R2 v ct h1 h2 => ar_last ins vars cells k R1 R2 g (by omega) v ct h1 h2 g [] rfl
  rw [run16 (by simp)]
  simp [Tryz.f16, hst] at ho hla ⊢
  simp [g1]
  refine ho _ (fun v ct => ?_) _ _
  simp
  rw [hla _ (some (.ret (.d (.bool true)), [])) (some (.ret (.d (.bool false)), [])) v ct (by simp) (by simp)]
  rw [hB]
  cases hq : g.any (fun b => !b) <;> simp_all
end
end Go.Am
end
section
namespace Go.Am
open Go Go.Proofs
set_option maxRecDepth 20000
section
variable (ins : List Ins) (vars cells : Int)
@[simp] def ccM (A B : Cont) (va vb : Nat) (T : List Bool) : Mem := [⟨150, 1, .box [.d (.list (ins.map insD)), .d (.int .i64 vars), .d (.int .i64 cells)]⟩, ⟨450, va, A⟩, ⟨550, vb, B⟩, ⟨2950, 1, .vec 1 (bD T)⟩]
set_option maxHeartbeats 1000000 in
theorem cc_led (pins : Int → Nat) (hp : PinsOk 31 pins) (hl : ins.length ≤ 5000) (k : Kt) (R1 R2 : Ans) (A B : Cont) (va vb : Nat)
    (h1 : ∀ T, k .ret ⟨174, gl0, [(2, true, .d (.bool false))], ccM ins vars cells A B va vb T⟩ = R1) :
    ∀ (rest : List Ins) (i : Nat) (T : List Bool), ins.drop i = rest → i + rest.length = ins.length → T.length = ins.length →
    (singlesB pins ins.length cells i rest = true → k (.exit 0) ⟨174, gl0, [(1, true, .ptr 150 1 0), (3, true, .d (.int .i64 ins.length)), (4, true, .vec 2950 1 0 ins.length), (5, true, .d (.int .i64 ins.length)), (60, true, .d (.bool false))], ccM ins vars cells A B va vb (rest.foldl ledStep T)⟩ = R2) →
    denK ctx 6 (.loop (Code.at (codeOf Tryz.f6) [1, 1, 1, 1, 0, 1, 0, 0])) ⟨174, gl0, [(1, true, .ptr 150 1 0), (3, true, .d (.int .i64 ins.length)), (4, true, .vec 2950 1 0 ins.length), (5, true, .d (.int .i64 i))],
        ccM ins vars cells A B va vb T⟩ k = if singlesB pins ins.length cells i rest = true then R2 else R1
  | [], i, T, hd, hi, hT, h2 => by
    have hi : i = ins.length := by simpa using hi
    subst hi
    rw [denK_loop]
    simp [singlesB] at h2
    simp [Tryz.f6, singlesB, h2]
  | x :: rest, i, T, hd, hi, hT, h2 => by
    have hlt : i < ins.length := by simp at hi; omega
    have hx : ins[i] = x := by
      have := congrArg (·[0]?) hd
      simp at this
      simpa [hlt] using this
    have hs := single_run pins hp ins vars cells i hlt hl
    have w1 : IntKind.i64.wrap ((i : Int) + 1) = (i : Int) + 1 := wrap_id (by unfold I64; omega)
    rw [hx] at hs
    rw [singlesB, denK_loop]
    cases hq : singleB pins ins.length cells i x with
    | false =>
      rw [hq] at hs
      simp at hs h1
      simp [Tryz.f6, hlt, hs, h1]
    | true =>
      rw [hq] at hs
      have ih := cc_led pins hp hl k R1 R2 A B va vb h1 rest (i + 1) (ledStep T x) (by rw [← List.tail_drop, hd]; rfl) (by simp at hi; omega) (by rw [ledStep_len]; exact hT) (fun h => h2 (by rw [singlesB, hq, h]; rfl))
      simp at hs
      by_cases e9 : x.op = 9
      · have hf := hq
        simp [singleB, e9] at hf
        have a3 : x.a.toNat < T.length := by omega
        have e : ledStep T x = T.set x.a.toNat true := by simp [ledStep, e9]
        have hset : (bD T).set x.a.toNat (.bool true) = bD (T.set x.a.toNat true) := bD_set _ _ _
        rw [e] at ih
        simp at hset
        simp [Tryz.f6] at ih ⊢
        simp [hlt, hs, hx, e9, hf, a3, w1, hset, ih, drwK_end]
      by_cases e10 : x.op = 10
      · have hf := hq
        simp [singleB, e10] at hf
        have a3 : x.a.toNat < T.length := by omega
        have e : ledStep T x = T.set x.a.toNat true := by simp [ledStep, e10]
        have hset : (bD T).set x.a.toNat (.bool true) = bD (T.set x.a.toNat true) := bD_set _ _ _
        rw [e] at ih
        simp at hset
        simp [Tryz.f6] at ih ⊢
        simp [hlt, hs, hx, e10, hf, a3, w1, hset, ih, drwK_end]
      have e : ledStep T x = T := by simp [ledStep, e9, e10]
      rw [e] at ih
      simp [Tryz.f6] at ih ⊢
      simp [hlt, hs, hx, e9, e10, w1, ih]
theorem takeR_take {need : Bool} {A : List Bool} : ∀ {r hf : Nat} {S : List Bool}, hf + r ≤ A.length → takeR need r (A.take (hf + r)) = some S → S = A.take hf
  | 0, hf, S, h, ht => by simpa [takeR] using ht.symm
  | r + 1, hf, S, h, ht => by
    unfold takeR at ht
    split at ht
    · cases ht
    · have e : (A.take (hf + (r + 1))).dropLast = A.take (hf + r) := by
        rw [List.dropLast_eq_take, List.take_take, List.length_take]; congr 1; omega
      rw [e] at ht
      exact takeR_take (by omega) ht
theorem takeR_step (need : Bool) (A : List Bool) (r hf : Nat) (h : hf + (r + 1) ≤ A.length) :
    takeR need (r + 1) (A.take (hf + (r + 1))) = if need && !(A[hf + r]'(by omega)) then none else takeR need r (A.take (hf + r)) := by
  have e : (A.take (hf + (r + 1))).dropLast = A.take (hf + r) := by
    rw [List.dropLast_eq_take, List.take_take, List.length_take]; congr 1; omega
  have e2 : (A.take (hf + (r + 1))).getLastD true = A[hf + r]'(by omega) := by
    rw [List.getLastD_eq_getLast?, List.getLast?_eq_getElem?, List.length_take, Nat.min_eq_left h, show hf + (r + 1) - 1 = hf + r by omega]
    simp [show hf + r < hf + (r + 1) by omega, show hf + r < A.length by omega]
  rw [takeR, e, e2]
@[simp] def ccN (A : List Bool) (B : Cont) (vb : Nat) (T : List Bool) : Mem := [⟨150, 1, .box [.d (.list (ins.map insD)), .d (.int .i64 vars), .d (.int .i64 cells)]⟩, ⟨450, 1, .vec 1 (bD A)⟩, ⟨550, vb, B⟩, ⟨2950, 1, .vec 1 (bD T)⟩]
set_option maxHeartbeats 1000000 in
theorem cc_take (k : Kt) (R1 R2 : Ans) (A : List Bool) (B : Cont) (vb : Nat) (T : List Bool) (i inn out hf : Nat) (need gives : Bool) (hinn : inn ≤ 1000) (hA : A.length = 70)
    (h1 : k .ret ⟨174, gl0, [(2, true, .d (.bool false))], ccN ins vars cells A B vb T⟩ = R1)
    (h2 : k (.exit 4) ⟨174, gl0, [(1, true, .ptr 150 1 0), (3, true, .d (.int .i64 ins.length)), (4, true, .vec 2950 1 0 ins.length), (6, true, .d (.int .i64 hf)), (7, true, .eptr 450 1 0 0), (8, true, .d (.int .i64 i)), (9, true, .ptr 550 vb 0), (10, true, .d (.int .i64 inn)), (11, true, .d (.int .i64 out)), (12, true, .d (.bool need)), (13, true, .d (.bool gives)), (14, true, .d (.int .i64 inn)), (121, true, .d (.bool false))], ccN ins vars cells A B vb T⟩ = R2) :
    ∀ (r kk : Nat), kk + r = inn → hf + r ≤ A.length →
    denK ctx 6 (.loop (Code.at (codeOf Tryz.f6) [1, 1, 1, 1, 1, 1, 1, 0, 1, 0, 0, 1, 0, 0, 1, 1, 1, 1, 0, 1, 0, 0])) ⟨174, gl0, [(1, true, .ptr 150 1 0), (3, true, .d (.int .i64 ins.length)), (4, true, .vec 2950 1 0 ins.length), (6, true, .d (.int .i64 (hf + r : Nat))), (7, true, .eptr 450 1 0 0), (8, true, .d (.int .i64 i)), (9, true, .ptr 550 vb 0), (10, true, .d (.int .i64 inn)), (11, true, .d (.int .i64 out)), (12, true, .d (.bool need)), (13, true, .d (.bool gives)), (14, true, .d (.int .i64 kk))],
        ccN ins vars cells A B vb T⟩ k = if (takeR need r (A.take (hf + r))).isSome = true then R2 else R1
  | 0, kk, hk, hh => by
    have hk : kk = inn := by omega
    subst hk
    rw [denK_loop]
    simp at h2
    simp [Tryz.f6, takeR, h2]
  | r + 1, kk, hk, hh => by
    have w1 : IntKind.i64.wrap ((kk : Int) + 1) = (kk : Int) + 1 := wrap_id (by unfold I64; omega)
    have w2 : IntKind.i64.wrap ((hf : Int) + ((r : Int) + 1) - 1) = (hf : Int) + r := by rw [wrap_id (by unfold I64; omega)]; omega
    have hkk : kk < inn := by omega
    have hlt : hf + r < A.length := by omega
    have hnn : ¬ ((hf : Int) + r < 0) := by omega
    have h70 : ¬ ((70 : Int) ≤ (hf : Int) + r) := by omega
    have htn : ((hf : Int) + r).toNat = hf + r := by omega
    have hnn2 : (0 : Int) ≤ (hf : Int) + r := by omega
    have ih := cc_take k R1 R2 A B vb T i inn out hf need gives hinn hA h1 h2 r (kk + 1) (by omega) (by omega)
    rw [takeR_step need A r hf hh, denK_loop]
    simp at h1
    cases need with
    | false =>
      simp [Tryz.f6] at ih ⊢
      simp [hkk, w1, w2, ih]
    | true =>
      cases hq : A[hf + r] with
      | true =>
        simp [Tryz.f6] at ih ⊢
        simp [hkk, w1, w2, hlt, hnn, hnn2, h70, htn, hq, ih]
      | false =>
        simp [Tryz.f6]
        simp [hkk, w1, w2, hlt, hnn, hnn2, h70, htn, hq, h1]
def badB (h : Nat) (x : Ins) : Bool := decide (64 < h) || (decide (0 < h) && (decide (x.op = 9) || decide (x.op = 10) || decide (x.op = 11) || decide (x.op = 12) || decide (x.op = 15)))
theorem eff_small (x : Ins) : (effI x).1 ≤ 2 ∧ ((effI x).2.1 = 0 ∨ (effI x).2.1 = 1) := by
  unfold effI
  repeat' split
  all_goals simp
end
end Go.Am
end
section
namespace Go.Am
open Go Go.Proofs
set_option maxRecDepth 20000
section
variable (ins : List Ins) (vars cells : Int)
theorem bad_case1 (h : Nat) (x : Ins) (R1 E : Ans) (h0 : 0 < h) (h64 : h ≤ 64) : (if badB h x = true then R1 else E) = (if x.op = 9 then R1 else if x.op = 10 then R1 else if x.op = 11 then R1 else if x.op = 12 then R1 else if x.op = 15 then R1 else E) := by
  grind [badB]
theorem bad_case2 (h : Nat) (x : Ins) (R1 E : Ans) (h64 : 64 < h) : (if badB h x = true then R1 else E) = R1 := by
  grind [badB]
set_option maxHeartbeats 2000000 in
theorem cc_stk (k : Kt) (R1 R2 : Ans) (T : List Bool) (hT : T.length = ins.length) (hl : ins.length ≤ 5000)
    (h1 : ∀ A vb B, k .ret ⟨174, gl0, [(2, true, .d (.bool false))], ccN ins vars cells A B vb T⟩ = R1)
    (h2 : ∀ (h : Nat) A vb B, k (.exit 2) ⟨174, gl0, [(1, true, .ptr 150 1 0), (3, true, .d (.int .i64 ins.length)), (4, true, .vec 2950 1 0 ins.length), (6, true, .d (.int .i64 h)), (7, true, .eptr 450 1 0 0), (8, true, .d (.int .i64 ins.length)), (93, true, .d (.bool false))], ccN ins vars cells A B vb T⟩ = R2) :
    ∀ (rest : List Ins) (i h : Nat) (A : List Bool) (vb : Nat) (B : Cont), ins.drop i = rest → i + rest.length = ins.length → A.length = 70 → h ≤ 64 →
    denK ctx 6 (.loop (Code.at (codeOf Tryz.f6) [1, 1, 1, 1, 1, 1, 1, 0, 1, 0, 0])) ⟨174, gl0, [(1, true, .ptr 150 1 0), (3, true, .d (.int .i64 ins.length)), (4, true, .vec 2950 1 0 ins.length), (6, true, .d (.int .i64 h)), (7, true, .eptr 450 1 0 0), (8, true, .d (.int .i64 i))],
        ccN ins vars cells A B vb T⟩ k = if stackR T i rest (A.take h) = true then R2 else R1
  | [], i, h, A, vb, B, hd, hi, hA, hh => by
    have hi : i = ins.length := by simpa using hi
    subst hi
    have h2 := h2 h A vb B
    rw [denK_loop]
    simp at h2
    simp [Tryz.f6, stackR, h2]
  | x :: rest, i, h, A, vb, B, hd, hi, hA, hh => by
    have hlt : i < ins.length := by simp at hi; omega
    have hltT : i < T.length := by omega
    have hx : ins[i] = x := by
      have := congrArg (·[0]?) hd
      simp at this
      simpa [hlt] using this
    have hef := effect_run x
    obtain ⟨hs1, hs2⟩ := eff_small x
    have w1 : IntKind.i64.wrap ((i : Int) + 1) = (i : Int) + 1 := wrap_id (by unfold I64; omega)
    have hSl : (A.take h).length = h := by simp; omega
    have hSe : (A.take h).isEmpty = decide (h = 0) := by rw [← Bool.not_inj_iff]; cases hc : A.take h with | nil => (rw [hc] at hSl; simp at hSl; subst hSl; simp) | cons a b => (rw [hc] at hSl; simp at hSl; simp; omega)
    have hTg : T.getD i false = T[i] := by simp [hltT]
    have ih := fun h A vb B => cc_stk k R1 R2 T hT hl h1 h2 rest (i + 1) h A vb B (by rw [← List.tail_drop, hd]; rfl) (by simp at hi; omega)
    have h1' := fun A vb B => h1 A vb B
    rw [stackR, hTg, hSe, denK_loop]
    unfold movesR
    rw [hSl]
    obtain ⟨n, o, need, g, he⟩ : ∃ n o need g, effI x = (n, o, need, g) := ⟨_, _, _, _, rfl⟩
    rw [he] at hef hs1 hs2 ⊢
    simp only at hs1 hs2 ⊢
    simp at h1' hef
    by_cases c1 : T[i] = true ∧ h ≠ 0
    · obtain ⟨c1, c2⟩ := c1
      have c3 : 0 < h := by omega
      simp [Tryz.f6, hlt, hltT, hx, c1, c2, c3, h1']
    have c1' : (T[i] && !decide (h = 0)) = false := by
      cases hq : T[i] <;> simp [hq] at c1 ⊢
      exact c1
    have c1'' : ¬ (T[i] = true ∧ 0 < h) := fun hc => c1 ⟨hc.1, by omega⟩
    rw [c1']
    by_cases c2 : h < n
    · simp [Tryz.f6, hlt, hltT, hx, c1'', hef, c2, h1']
    obtain ⟨hf, rfl⟩ : ∃ hf, h = hf + n := ⟨h - n, by omega⟩
    have htk := fun k R2' B vb h1 h2 => cc_take ins vars cells k R1 R2' A B vb T i n o hf need g (by omega) hA h1 h2 n 0 (by omega) (by omega)
    have hcast : ((hf + n : Nat) : Int) = (hf : Int) + n := by omega
    have c3 : ¬ ((hf : Int) + n < n) := by omega
    simp only [if_neg c2, Bool.false_eq_true, if_false]
    have wh : IntKind.i64.wrap ((hf : Int) + 1) = (hf : Int) + 1 := wrap_id (by unfold I64; omega)
    have hR2 : ∀ S1, takeR need n (A.take (hf + n)) = some S1 → S1 = A.take hf := fun S1 hS => takeR_take (by omega) hS
    simp [Tryz.f6] at htk
    have fin : ∀ (h' : Nat) (S1 S2 : List Bool), S2.length = h' → takeR need n (A.take (hf + n)) = some S1 → (if 0 < o then S1 ++ [g] else S1) = S2 →
        (if badB h' x = true then R1 else if stackR T (i + 1) rest S2 = true then R2 else R1) =
        (if (match (match takeR need n (A.take (hf + n)) with
          | none => none
          | some S1 => if (decide (64 < (if 0 < o then S1 ++ [g] else S1).length) || (decide (0 < (if 0 < o then S1 ++ [g] else S1).length) && (decide (x.op = 9) || decide (x.op = 10) || decide (x.op = 11) || decide (x.op = 12) || decide (x.op = 15)))) = true then none else some (if 0 < o then S1 ++ [g] else S1)) with
          | none => false
          | some S' => stackR T (i + 1) rest S') = true then R2 else R1) := by
      intro h' S1 S2 hl2 hS1 hS2
      rw [hS1]
      simp only [hS2, hl2]
      rw [← badB]
      cases badB h' x <;> simp
    have c4 : ¬ (T[i] = true ∧ 0 < (hf : Int) + n) := fun hc => c1 ⟨hc.1, by omega⟩
    cases hq : takeR need n (A.take (hf + n)) with
    | none =>
      simp [Tryz.f6, hlt, hltT, hx, c1'', hef, c2, c3, c4]
      rw [htk _ _ _ _ (by simp [h1']) rfl]
      simp [hq]
    | some S1 =>
      obtain rfl := hR2 S1 hq
      rcases hs2 with rfl | rfl
      · have ih := fun vb B => ih hf A vb B hA (by omega)
        simp at htk
        have hfin := fin hf (A.take hf) (A.take hf) (by simp; omega) hq (by simp)
        rw [hq] at hfin
        refine Eq.trans ?_ hfin
        simp [Tryz.f6] at ih
        simp [Tryz.f6, hlt, hltT, hx, c1'', hef, c2, c3, c4]
        rw [htk _ (if badB hf x = true then R1 else if stackR T (i + 1) rest (A.take hf) = true then R2 else R1) _ _ (by simp [h1'])]
        · simp [hq]
        · simp [h1', w1, ih]
          grind [badB]
      · have hset : (bD A).set hf (.bool g) = bD (A.set hf g) := bD_set A hf g
        have hst : (A.set hf g).take (hf + 1) = A.take hf ++ [g] := by
          rw [List.take_add_one, List.take_set_of_le (by omega)]; simp [show hf < A.length by omega]
        have hfA : hf < A.length := by omega
        have hf70 : (hf : Int) < 70 := by omega
        have hf70n : hf < 70 := by omega
        have h1s := fun vb B => h1' (A.set hf g) vb B
        simp at h1s
        simp at htk
        have hfin := fin (hf + 1) (A.take hf) (A.take hf ++ [g]) (by simp; omega) hq (by simp)
        rw [hq] at hfin
        refine Eq.trans ?_ hfin
        simp [Tryz.f6, hlt, hltT, hx, c1'', hef, c2, c3, c4]
        rw [htk _ (if badB (hf + 1) x = true then R1 else if stackR T (i + 1) rest (A.take hf ++ [g]) = true then R2 else R1) _ _ (by simp [h1'])]
        · simp [hq]
        · by_cases h64 : hf + 1 ≤ 64
          · have h64' : (hf : Int) + 1 ≤ 64 := by omega
            have ih := fun vb B => ih (hf + 1) (A.set hf g) vb B (by simpa using hA) h64
            rw [hst] at ih
            simp [Tryz.f6] at ih
            rw [bad_case1 (hf + 1) x _ _ (by omega) h64]
            simp [h1', h1s, w1, wh, hfA, hf70, hf70n, ih, h64, h64', drwK_end]
          · have h64' : ¬ ((hf : Int) + 1 ≤ 64) := by omega
            rw [bad_case2 (hf + 1) x _ _ (by omega)]
            simp [h1', h1s, w1, wh, hfA, hf70, hf70n, h64', drwK_end]
end
end Go.Am
end
section
namespace Go.Am
open Go Go.Proofs
set_option maxRecDepth 20000
section
variable (ins : List Ins) (vars cells : Int)
theorem last_op (h : 0 < ins.length) : ins[ins.length - 1].op = lastOp ins := by
  unfold lastOp
  rw [List.getLast?_eq_getElem?]
  simp [show ins.length - 1 < ins.length by omega]
theorem refCode_run (pins : Int → Nat) (hp : PinsOk 31 pins) (hl : ins.length ≤ 5000) :
    callT ctx 6 [.d (codeD ins vars cells)] [] = some (.ret (.d (.bool (refCode pins ins vars cells))), []) := by
  have g1 : (ins.length : Int) ≤ 140737488355328 ∧ (ins.length : Int) ≤ 4611686018427387904 := by omega
  have hlo := fun k R1 R2 A B va vb h1 => cc_led ins vars cells pins hp hl k R1 R2 A B va vb h1 ins 0 (List.replicate ins.length false) rfl (by simp) (by simp)
  rw [run6 (by simp)]
  unfold refCode headB
  by_cases h0 : ins = []
  · simp [Tryz.f6, h0]
  have h0' : 0 < ins.length := List.length_pos_iff.2 h0
  have c1 : (1 : Int) ≤ ins.length := by omega
  have hlt : ins.length - 1 < ins.length := by omega
  have w1 : IntKind.i64.wrap ((ins.length : Int) - 1) = ((ins.length - 1 : Nat) : Int) := by rw [wrap_id (by unfold I64; omega)]; omega
  have hlast := last_op ins h0'
  by_cases h2 : (ins.length : Int) ≤ 4096
  rotate_left
  · simp [Tryz.f6, h0, h2]
  by_cases h3 : 0 ≤ cells
  rotate_left
  · simp [Tryz.f6, h0, h2, h3]
  by_cases h4 : cells ≤ 8192
  rotate_left
  · simp [Tryz.f6, h0, h2, h3, h4]
  by_cases h5 : 0 ≤ vars
  rotate_left
  · simp [Tryz.f6, h0, h2, h3, h4, h5]
  by_cases h6 : vars ≤ cells
  rotate_left
  · simp [Tryz.f6, h0, h2, h3, h4, h5, h6]
  by_cases h7 : lastOp ins = 15
  rotate_left
  · simp [Tryz.f6, h0, h2, h3, h4, h5, h6, w1, hlt, hlast, h7]
  simp [Tryz.f6] at hlo
  simp [Tryz.f6, h0, h2, h3, h4, h5, h6, w1, hlt, hlast, h7]
  simp [g1]
  rw [hlo _ (some (.ret (.d (.bool false)), [])) (some (.ret (.d (.bool (stackR (ledOf ins) 0 ins [] && !(aroundB ins)))), [])) _ _ _ _ (by simp)]
  · cases hq : singlesB pins ins.length cells 0 ins <;> simp [h0', h2, c1]
  · intro hsi
    have hok : okForms pins ins vars cells = true := by
      unfold okForms headB
      rw [singles_forms ⟨h3, h4⟩] at hsi
      rw [hsi]
      simp [h2, h3, h4, h5, h6, h7]
      omega
    have har := around_run ins vars cells (inside_of hok) hl (succ_in hok)
    have hll : (ledOf ins).length = ins.length := by
      have : ∀ (l : List Ins) (T : List Bool), (l.foldl ledStep T).length = T.length := by
        intro l
        induction l with
        | nil => intro T; rfl
        | cons x l ih => intro T; simp only [List.foldl_cons]; rw [ih, ledStep_len]
      rw [show ledOf ins = ins.foldl ledStep (List.replicate ins.length false) from rfl, this]; simp
    have hsk := fun k h1 h2 => cc_stk ins vars cells k (some (.ret (.d (.bool false)), [])) (some (.ret (.d (.bool (!(aroundB ins)))), [])) (ledOf ins) hll hl h1 h2 ins 0 0 (List.replicate 70 false) 0 .dead rfl (by simp) (by simp) (by simp)
    simp at har
    simp [Tryz.f6]
    refine (hsk _ (fun A vb B => by simp) (fun h A vb B => by simp [har])).trans ?_
    cases hq : stackR (ledOf ins) 0 ins [] <;> simp [hq]
end
end Go.Am
end
section
namespace Go.Am
open Go Go.Proofs
set_option maxRecDepth 20000
set_option maxHeartbeats 2000000 in
theorem peepSame_run (ins : List Ins) (vars cells : Int) (C : List Int) (fuel : Int) (hl : InsOk ins) (hI : ∀ x ∈ C, I64 x) :
    callT ctx 3 [.d (codeD ins vars cells), .d (.list (C.map jD)), .d (.int .i64 fuel)] [] = some (.ret (.d (.bool true)), []) := by
  have haw := awake32_run
  rw [run3 (by simp)]
  try simp at haw
  by_cases h1 : ins.length ≤ 300
  rotate_left
  · have g1 : (300 : Int) < (ins.length : Int) := by omega
    simp [Tryz.f3, haw, g1]
  have g1 : ¬ (300 : Int) < (ins.length : Int) := by omega
  by_cases h2 : C.length ≤ 2000
  rotate_left
  · have g2 : (2000 : Int) < (C.length : Int) := by omega
    simp [Tryz.f3, haw, g1, g2]
  have g2 : ¬ (2000 : Int) < (C.length : Int) := by omega
  by_cases h3 : fuel < 0
  · simp [Tryz.f3, haw, g1, g2, h3]
  by_cases h4 : 3000 < fuel
  · simp [Tryz.f3, haw, g1, g2, h3, h4]
  have hrc := refCode_run ins vars cells pinsN rpins_ok (by omega)
  rw [ref_ok] at hrc
  cases hok : okCode pinsN ins vars cells
  · have hm := make_bad pinsN pins_ok ins vars cells (by omega) hok
    have hsm := csame_run [] [] 0 0 0 0 (by simp)
    rw [hok] at hrc
    simp at hm hsm hrc
    simp [Tryz.f3, haw, g1, g2, h3, h4, hrc, hm, hsm, drwK_end]
  · obtain ⟨⟨c1, c2, c3, c4⟩, r, st, hg⟩ := good_of hok
    obtain ⟨d, r2, st2, hmade, hg2, _, hle⟩ := made_ex (2 * ins.length + 2) ins r st hg (by split <;> omega)
    have hokd := ok_of ⟨c1, c2, c3, c4⟩ hg2
    have hm := make_run pinsN pins_ok ins d vars cells hok hmade
    have hcd := checkCode_run pinsN pins_ok d vars cells (by omega)
    have hrd := refCode_run d vars cells pinsN rpins_ok (by omega)
    rw [ref_ok] at hrd
    rw [hok] at hrc
    rw [hokd] at hcd hrd
    have g5 : ¬ (ins.length : Int) < (d.length : Int) := by omega
    by_cases hv : (C.length : Int) = vars
    · obtain ⟨n, rfl⟩ : ∃ n : Nat, cells = (n : Int) := ⟨cells.toNat, by omega⟩
      obtain ⟨f, rfl⟩ : ∃ f : Nat, fuel = (f : Int) := ⟨fuel.toNat, by omega⟩
      have hinv := s0_inv (l := ins) hg hI (show C.length ≤ n by omega) (by omega) (fuel := (f : Int)) (by omega)
      obtain ⟨t, htr, htv⟩ := runs_ex hg hl f (r (s0 C n f).at_.toNat) (s0 C n f) hinv rfl (Nat.le_refl _)
      obtain ⟨_, hld, hkeep⟩ := keeps_made (n := n) hmade ⟨r, st, hg⟩ hl
      obtain ⟨t', htr', heq⟩ := hkeep C f t hI (by omega) (by omega) (by omega) htr
      have hinv2 := s0_inv (l := d) hg2 hI (show C.length ≤ n by omega) (by omega) (fuel := (f : Int)) (by omega)
      have htv' := runs_inv hg2 hld htr' hinv2
      have hr := vrun_ok d vars n C f hokd hv (by omega) hld hI t' htr' ⟨htv'.len, htv'.h64⟩
      have hrr := rrun_ok ins vars n C f hok hv (by omega) hl hI t htr htv.len
      rw [heq.cells, heq.fault, heq.fuel] at hr
      have hsm := same23_run (t.cells.take vars.toNat) (t.cells.take vars.toNat) t.fault t.fault t.fuel t.fuel (by simp; have := htv.len; omega)
      simp at hr hrr hsm hrc hm hcd hrd
      simp [Tryz.f3, haw, g1, g2, h3, h4, g5, hrc, hm, hcd, hrd, hv, hr, hrr, hsm, drwK_end]
    · simp at hrc hm hcd hrd
      simp [Tryz.f3, haw, g1, g2, h3, h4, g5, hrc, hm, hcd, hrd, hv, drwK_end]
end Go.Am
end

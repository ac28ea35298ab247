/-
  Texts of one proof, one behind the other.
-/
import Derived.Test.YtmlboljlgaaebaaDoorP5
import Derived.ProofKit
import Derived.ChangeArms
import Derived.ChangeCalls
import Derived.LaidLaws
import Derived.SizedLaws
import Derived.Handed
import Derived.Shelf.Vars
set_option linter.all false
section
namespace Go.Am
open Go Go.Proofs
set_option maxRecDepth 20000
def jB (x : Ins) : Bool := decide (x.op = 9) || decide (x.op = 10)
theorem jB_iff {x : Ins} : jB x = true ↔ isJ x := by unfold jB isJ; simp
theorem jumps_run (x : Ins) : callT ctx 52 [.d (insD x)] [] = some (.ret (.d (.bool (jB x))), []) := by
  rw [run52 (by simp)]
  unfold jB
  by_cases e9 : x.op = 9
  · simp [Tryd.f52, drwK_end, e9]
  · simp [Tryd.f52, drwK_end, e9]
theorem set_insD (l : List Ins) (i : Nat) (x : Ins) : (l.map insD).set i (insD x) = (l.set i x).map insD := by rw [List.map_set]
theorem thr_inner (i : Nat) (k : Kt) (R : Ans) : ∀ (l l2 : List Ins) (b : Bool), ThrI i l l2 b → ∀ (changed : Bool), i < l.length → l.length ≤ 5000 → (∀ (j : Nat) (x : Ins), l[j]? = some x → isJ x → 0 ≤ x.a ∧ x.a.toNat < l.length) →
    (k (.exit 2) ⟨59, gl0, [(0, true, .vec 0 0 0 l.length), (3, true, .d (.bool (changed || b))), (4, true, .d (.int .i64 i)), (6, true, .d (.int .i64 l.length)), (7, true, .d (.int .i64 i)), (43, true, .d (.bool false))], [⟨0, 0, .vec 5 (l2.map insD)⟩]⟩ = R) →
    denK ctx 28 (.loop (Code.at (codeOf Tryd.f28) [1, 1, 0, 1, 0, 0, 1, 1, 0, 0, 1, 0, 0])) ⟨59, gl0, [(0, true, .vec 0 0 0 l.length), (3, true, .d (.bool changed)), (4, true, .d (.int .i64 i)), (6, true, .d (.int .i64 l.length)), (7, true, .d (.int .i64 i))], [⟨0, 0, .vec 5 (l.map insD)⟩]⟩ k = R := by
  intro l l2 b h
  induction h with
  | done l h =>
    intro changed hi hl ht hx
    have hx1 : l[i]? = some l[i] := by simp [hi]
    unfold thrAt at h
    rw [hx1] at h
    simp only at h
    have hj := jumps_run l[i]
    rw [denK_loop]
    by_cases hjj : isJ l[i]
    · have hjb := jB_iff.2 hjj
      obtain ⟨a1, a2⟩ := ht i _ hx1 hjj
      have hy1 : l[l[i].a.toNat]? = some l[l[i].a.toNat] := by simp [a2]
      rw [if_pos hjj, hy1] at h
      simp only at h
      have h9 : l[l[i].a.toNat].op = 9 → l[i].a = l[l[i].a.toNat].a := by
        intro h9
        exact Classical.byContradiction fun hc => by rw [if_pos ⟨h9, hc⟩] at h; cases h
      simp at hx hj
      by_cases e : l[l[i].a.toNat].op = 9
      · have e2 := h9 e
        simp [Tryd.f28, hi, hj, hjb, drwK_end, hx, a1, a2, e, ← e2]
      · simp [Tryd.f28, hi, hj, hjb, drwK_end, hx, a1, a2, e]
    · have hjb : jB l[i] = false := by rw [← Bool.not_eq_true]; exact fun hc => hjj (jB_iff.1 hc)
      simp at hx hj
      simp [Tryd.f28, hi, hj, hjb, drwK_end, hx]
  | step l l1 l2 b h h2 ih =>
    intro changed hi hl ht hx
    obtain ⟨x, y, hx1, hjj, hy, h9, hne, rfl⟩ := thrAt_some h
    obtain ⟨a1, a2⟩ := ht i _ hx1 hjj
    obtain ⟨b1, b2⟩ := ht _ y hy (.inl h9)
    have hxe : l[i] = x := by simpa [hi] using hx1
    have hye : l[x.a.toNat] = y := by simpa [a2] using hy
    have hj := jumps_run x
    have hjb := jB_iff.2 hjj
    have ih := ih true (by simpa using hi) (by simpa using hl) (fun j z hz hzj => by
      rw [List.length_set]
      rw [set_get] at hz
      split at hz
      · cases hz
        exact ⟨b1, b2⟩
      · exact ht j z hz hzj) (by simpa using hx)
    have hset := set_insD l i { x with a := y.a }
    simp at ih hj hset
    rw [denK_loop]
    simp [Tryd.f28] at ih ⊢
    simp [hi, hj, hjb, drwK_end, a1, a2, hxe, hye, h9, hne, hset, ih]
end Go.Am
end
section
namespace Go.Am
open Go Go.Proofs
set_option maxRecDepth 20000
theorem thrI_good {pins cells r st i l l2 b} (h : ThrI i l l2 b) : Good pins cells l r st → Good pins cells l2 r st ∧ l2.length = l.length := by
  induction h with
  | done l h => intro hg; exact ⟨hg, rfl⟩
  | step l l1 l2 b h h2 ih =>
    intro hg
    obtain ⟨x, y, hx1, hjj, hy, h9, hne, rfl⟩ := thrAt_some h
    have := ih (hg.thread hx1 hjj hy h9)
    exact ⟨this.1, by rw [this.2]; simp⟩
theorem thrL_good {pins cells r st i l l2 b} (h : ThrL i l l2 b) : Good pins cells l r st → Good pins cells l2 r st ∧ l2.length = l.length := by
  induction h with
  | fin i l h => intro hg; exact ⟨hg, rfl⟩
  | step i l l1 l2 b1 b2 h h1 h2 ih =>
    intro hg
    obtain ⟨g1, e1⟩ := thrI_good h1 hg
    obtain ⟨g2, e2⟩ := ih g1
    exact ⟨g2, by omega⟩
theorem thr_outer {pins cells r st} (k : Kt) (R : Ans) (i : Nat) (l l2 : List Ins) (b : Bool) (h : ThrL i l l2 b) : Good pins cells l r st → i ≤ l.length → ∀ (changed : Bool),
    (k (.exit 0) ⟨59, gl0, [(0, true, .vec 0 0 0 l.length), (3, true, .d (.bool (changed || b))), (6, true, .d (.int .i64 l.length)), (7, true, .d (.int .i64 l.length)), (8, true, .d (.bool false))], [⟨0, 0, .vec 5 (l2.map insD)⟩]⟩ = R) →
    denK ctx 28 (.loop (Code.at (codeOf Tryd.f28) [1, 1, 0, 1, 0, 0])) ⟨59, gl0, [(0, true, .vec 0 0 0 l.length), (3, true, .d (.bool changed)), (6, true, .d (.int .i64 l.length)), (7, true, .d (.int .i64 i))], [⟨0, 0, .vec 5 (l.map insD)⟩]⟩ k = R := by
  induction h with
  | fin i l h =>
    intro hg hi changed hx
    have e : i = l.length := by omega
    subst e
    simp at hx
    rw [denK_loop]
    simp [Tryd.f28, hx]
  | step i l l1 l2 b1 b2 h h1 h2 ih =>
    intro hg hi changed hx
    obtain ⟨g1, e1⟩ := thrI_good h1 hg
    have hl := hg.len
    have hin := fun k R => thr_inner i k R l l1 b1 h1 changed h (by omega) (fun j x hx hj => hg.tgt hx hj)
    have ih := ih g1 (by omega) (changed || b1) (by rw [e1, Bool.or_assoc]; exact hx)
    rw [e1] at ih
    have w1 : IntKind.i64.wrap ((i : Int) + 1) = (i : Int) + 1 := wrap_id (by unfold I64; omega)
    rw [denK_loop]
    simp [Tryd.f28] at ih hin ⊢
    simp [h]
    rw [hin]
    simp [w1, ih]
theorem threaded_run {pins cells r st} (l l2 : List Ins) (b : Bool) (h : ThrL 0 l l2 b) (hg : Good pins cells l r st) :
    callT ctx 28 [.vec 0 0 0 l.length] [.vec 5 (l.map insD)] = some (.ret (.d (.bool b)), [(0, .vec 5 (l2.map insD))]) := by
  have hout := fun k R => thr_outer k R 0 l l2 b h hg (by omega) false
  rw [run28 (by simp)]
  simp [Tryd.f28] at hout
  simp [Tryd.f28]
  rw [hout]
  simp
end Go.Am
end
section
namespace Go.Am
open Go Go.Proofs
set_option maxRecDepth 20000
theorem tL_succ (l : List Ins) (k : Nat) : tL l (k + 1) = if isP l k = true ∧ nAt l k = 0 then (tL l k).set k ⟨9, aAt l (k + 1), 0, 0, 0⟩ else tL l k := by
  apply List.ext_getElem?
  intro i
  have hk : k < l.length ↔ k < (tL l k).length := by rw [tL_len]
  by_cases e : i = k
  · subst e
    cases hx : l[i]? with
    | none =>
      have : l.length ≤ i := by simpa using hx
      split
      · rw [List.getElem?_set, if_pos rfl, tL_get, hx, if_neg (by rw [tL_len]; omega)]; rfl
      · rw [tL_get, tL_get, hx]; rfl
    | some x =>
      have hi := (List.getElem?_eq_some_iff.1 hx).1
      have hn : nAt l i = x.n := by unfold nAt; rw [hx]; rfl
      rw [tL_get, hx, hn]
      by_cases hp : isP l i = true ∧ x.n = 0
      · rw [if_pos hp, List.getElem?_set, if_pos rfl, if_pos (by rw [tL_len]; exact hi)]
        simp [hp.1, hp.2]
      · rw [if_neg hp, tL_get, hx]
        simp
        intro h1 h2
        exact absurd ⟨h1, h2⟩ hp
  · have e1 : (decide (i < k + 1)) = decide (i < k) := by simp; omega
    have e2 : (tL l (k + 1))[i]? = (tL l k)[i]? := by rw [tL_get, tL_get, e1]
    rw [e2]
    split
    · rw [List.getElem?_set, if_neg (fun h => e h.symm)]
    · rfl
theorem tO_succ (l : List Ins) (k : Nat) : tO l (k + 1) = if isP l k = true then (if nAt l k = 1 then ((tO l k).set (k + 1) true).set k true else (tO l k).set (k + 1) true) else tO l k := by
  apply List.ext_getElem?
  intro i
  by_cases hi : i < l.length
  · rw [tO_get hi]
    have hg := tO_get (k := k) hi
    have hlen := tO_len (l := l) k
    by_cases hp : isP l k = true
    · rw [if_pos hp]
      by_cases hn : nAt l k = 1
      · rw [if_pos hn, List.getElem?_set, List.getElem?_set]
        by_cases e : k = i
        · subst e
          simp [hlen, hi, hp, hn]
        · rw [if_neg e]
          by_cases e2 : k + 1 = i
          · subst e2
            simp [hlen, hi, hp]
          · rw [if_neg e2, hg]
            have a1 : decide (i < k + 1) = decide (i < k) := by simp; omega
            have a2 : (decide (1 ≤ i) && decide (i - 1 < k + 1)) = (decide (1 ≤ i) && decide (i - 1 < k)) := by
              by_cases e3 : 1 ≤ i
              · simp [e3]; omega
              · simp [e3]
            rw [a1, a2]
      · rw [if_neg hn, List.getElem?_set]
        by_cases e2 : k + 1 = i
        · subst e2
          simp [hlen, hi, hp]
        · rw [if_neg e2, hg]
          have a2 : (decide (1 ≤ i) && decide (i - 1 < k + 1)) = (decide (1 ≤ i) && decide (i - 1 < k)) := by
            by_cases e3 : 1 ≤ i
            · simp [e3]; omega
            · simp [e3]
          rw [a2]
          by_cases e : k = i
          · subst e
            simp [hn]
          · have a1 : decide (i < k + 1) = decide (i < k) := by simp; omega
            rw [a1]
    · rw [if_neg hp, hg]
      have hp : isP l k = false := by simpa using hp
      have b1 : (decide (i < k + 1) && isP l i) = (decide (i < k) && isP l i) := by
        by_cases e : i = k
        · subst e; simp [hp]
        · have a1 : decide (i < k + 1) = decide (i < k) := by simp; omega
          rw [a1]
      have b2 : (decide (1 ≤ i) && decide (i - 1 < k + 1) && isP l (i - 1)) = (decide (1 ≤ i) && decide (i - 1 < k) && isP l (i - 1)) := by
        by_cases e : i - 1 = k
        · rw [e]; simp [hp]
        · have a1 : decide (i - 1 < k + 1) = decide (i - 1 < k) := by simp; omega
          rw [a1]
      rw [b1, b2]
  · have h1 : (tO l (k + 1))[i]? = none := by rw [List.getElem?_eq_none_iff, tO_len]; omega
    rw [h1, eq_comm, List.getElem?_eq_none_iff]
    split
    · split <;> simp [tO_len] <;> omega
    · rw [tO_len]; omega
theorem isP_last (l : List Ins) (k : Nat) (h : l.length ≤ k + 1) : isP l k = false := by
  cases hp : isP l k with
  | false => rfl
  | true =>
    obtain ⟨_, y, _, hy, _⟩ := isP_iff.1 hp
    have := (List.getElem?_eq_some_iff.1 hy).1
    omega
theorem tst_loop (l : List Ins) (hl : l.length ≤ 5000) (k : Kt) (R : Ans)
    (hx : k (.exit 0) ⟨66, gl0, [(0, true, .vec 0 0 0 l.length), (1, true, .vec 1 0 0 l.length), (4, true, .d (.int .i64 ((l.length : Int) - 1))), (9, true, .d (.bool false))], [⟨0, 0, .vec 5 ((tL l l.length).map insD)⟩, ⟨1, 0, .vec 1 (bD (tO l l.length))⟩]⟩ = R) :
    ∀ (m i : Nat), i + 1 + m = l.length → denK ctx 29 (.loop (Code.at (codeOf Tryd.f29) [1, 0, 0])) ⟨66, gl0, [(0, true, .vec 0 0 0 l.length), (1, true, .vec 1 0 0 l.length), (4, true, .d (.int .i64 i))], [⟨0, 0, .vec 5 ((tL l i).map insD)⟩, ⟨1, 0, .vec 1 (bD (tO l i))⟩]⟩ k = R
  | 0, i, hi => by
    have e1 : tL l l.length = tL l i := by rw [show l.length = i + 1 by omega, tL_succ, if_neg]; rw [isP_last l i (by omega)]; simp
    have e2 : tO l l.length = tO l i := by rw [show l.length = i + 1 by omega, tO_succ, if_neg]; rw [isP_last l i (by omega)]; simp
    rw [e1, e2, show (l.length : Int) - 1 = i by omega] at hx
    have w1 : IntKind.i64.wrap ((i : Int) + 1) = (i : Int) + 1 := wrap_id (by unfold I64; omega)
    have h1 : ¬ ((i : Int) + 1 < l.length) := by omega
    rw [denK_loop]
    simp at hx
    simp [Tryd.f29, w1, h1, hx]
  | m + 1, i, hi => by
    have ih := tst_loop l hl k R hx m (i + 1) (by omega)
    have w1 : IntKind.i64.wrap ((i : Int) + 1) = (i : Int) + 1 := wrap_id (by unfold I64; omega)
    have h1 : ((i : Int) + 1 < l.length) := by omega
    have hi0 : i < l.length := by omega
    have hi1 : i + 1 < l.length := by omega
    have hL := tL_len (l := l) i
    have hO := tO_len (l := l) i
    have hxi : l[i]? = some l[i] := by simp [hi0]
    have hyi : l[i + 1]? = some l[i + 1] := by simp [hi1]
    have gx : (tL l i)[i]? = some l[i] := by rw [tL_get, hxi]; simp
    have gy : (tL l i)[i + 1]? = some l[i + 1] := by rw [tL_get, hyi]; simp; intro h; omega
    have hn : nAt l i = l[i].n := by unfold nAt; rw [hxi]; rfl
    have ha : aAt l (i + 1) = l[i + 1].a := by unfold aAt; rw [hyi]; rfl
    rw [tL_succ, tO_succ, hn, ha] at ih
    have hp : isP l i = (decide (l[i].op = 1) && decide (l[i + 1].op = 10) && (decide (l[i].n = 0) || decide (l[i].n = 1))) := by unfold isP; rw [hxi, hyi]
    rw [hp] at ih
    generalize tL l i = L at *
    generalize tO l i = O at *
    have hLi : i < L.length := by omega
    have hLi1 : i + 1 < L.length := by omega
    have hOi : i < O.length := by omega
    have hOi1 : i + 1 < O.length := by omega
    have gx : L[i] = l[i] := by simpa [hLi] using gx
    have gy : L[i + 1] = l[i + 1] := by simpa [hLi1] using gy
    generalize l[i] = x at *
    generalize l[i + 1] = y at *
    have hset := set_insD L i ⟨9, y.a, 0, 0, 0⟩
    have hs1 : (bD O).set (i + 1) (.bool true) = bD (O.set (i + 1) true) := bD_set O (i + 1) true
    have hs2 : (bD (O.set (i + 1) true)).set i (.bool true) = bD ((O.set (i + 1) true).set i true) := bD_set _ i true
    have h2 : 0 ≤ (i : Int) + 1 := by omega
    have h3 : ¬ ((i : Int) + 1 < 0) := by omega
    rw [denK_loop]
    simp at hset hs1 hs2
    by_cases c1 : x.op = 1
    · by_cases c2 : y.op = 10
      · by_cases c3 : x.n = 0
        · simp [Tryd.f29, c1, c2, c3] at ih ⊢
          simp [hi0, hi1, h1, h2, h3, w1, c1, c2, c3, gx, gy, hL, hO, hs1, hset, ih]
        · by_cases c4 : x.n = 1
          · simp [Tryd.f29, c1, c2, c3, c4] at ih ⊢
            simp [hi0, hi1, h1, h2, h3, w1, c1, c2, c3, c4, gx, gy, hL, hO, hs1, hs2, ih]
          · simp [Tryd.f29, c1, c2, c3, c4] at ih ⊢
            simp [hi0, hi1, h1, h2, h3, w1, c1, c2, c3, c4, gx, gy, hL, hO, ih]
      · simp [Tryd.f29, c1, c2] at ih ⊢
        simp [hi0, hi1, h1, h2, h3, w1, c1, c2, gx, gy, hL, hO, ih]
    · simp [Tryd.f29, c1] at ih ⊢
      simp [hi0, hi1, h1, h2, h3, w1, c1, gx, gy, hL, hO, ih]
theorem tL_zero (l : List Ins) : tL l 0 = l := by
  apply List.ext_getElem?
  intro i
  rw [tL_get]
  simp
theorem tO_zero (l : List Ins) : tO l 0 = List.replicate l.length false := by
  apply List.ext_getElem?
  intro i
  by_cases hi : i < l.length
  · rw [tO_get hi, List.getElem?_replicate, if_pos hi]; simp
  · rw [List.getElem?_eq_none (by rw [tO_len]; omega), List.getElem?_eq_none (by simp; omega)]
theorem tested_run (l : List Ins) (h1 : 1 ≤ l.length) (hl : l.length ≤ 5000) : callT ctx 29 [.vec 0 0 0 l.length, .vec 1 0 0 l.length] [.vec 5 (l.map insD), .vec 1 (bD (List.replicate l.length false))] = some (.ret (.tup []), [(0, .vec 5 ((tL l l.length).map insD)), (0, .vec 1 (bD (tO l l.length)))]) := by
  have h := fun k R hR => tst_loop l hl k R hR (l.length - 1) 0 (by omega)
  rw [tL_zero, tO_zero] at h
  rw [run29 (by simp)]
  simp [Tryd.f29] at h
  simp [Tryd.f29]
  rw [h]
  simp
end Go.Am
end
section
namespace Go.Am
open Go Go.Proofs
set_option maxRecDepth 20000
open Classical in
noncomputable def rSeen (l : List Ins) : List Bool := (List.range l.length).map fun i => decide (Reach l i)
@[simp] def wD (n : Nat) : D := .int .i64 (n : Int)
structure RInv (l : List Ins) (S : List Bool) (work : List Nat) : Prop where
  len : S.length = l.length
  wr : ∀ w ∈ work, Reach l w
  sr : ∀ i, S[i]? = some true → Reach l i
  cl : ∀ i, S[i]? = some true → ∀ j ∈ nextI l i, S[j]? = some true ∨ j ∈ work
  z : S[0]? = some true ∨ 0 ∈ work
theorem RInv.fin {l S} (h : RInv l S []) : S = rSeen l := by
  classical
  have hr : ∀ i, Reach l i → S[i]? = some true := by
    intro i hi
    induction hi with
    | zero => rcases h.z with h | h; exact h; simp at h
    | step _ hj ih => rcases h.cl _ ih _ hj with h | h; exact h; simp at h
  apply List.ext_getElem?
  intro i
  unfold rSeen
  by_cases hi : i < l.length
  · rw [get_map_range _ _ _ hi]
    have hs : i < S.length := by rw [h.len]; exact hi
    by_cases hrr : Reach l i
    · rw [hr i hrr]; simp [hrr]
    · rw [List.getElem?_eq_getElem hs]
      cases hq : S[i] with
      | false => simp [hrr]
      | true => exact absurd (h.sr i (by rw [List.getElem?_eq_getElem hs, hq])) hrr
  · rw [List.getElem?_eq_none (by rw [h.len]; omega), List.getElem?_eq_none (by simp; omega)]
theorem RInv.pop {l S w a} (h : RInv l S (w ++ [a])) (hs : S[a]? = some true) : RInv l S w := by
  refine ⟨h.len, fun x hx => h.wr x (by simp [hx]), h.sr, fun i hi j hj => ?_, ?_⟩
  · rcases h.cl i hi j hj with h | h
    · exact .inl h
    · rcases List.mem_append.1 h with h | h
      · exact .inr h
      · simp at h; subst h; exact .inl hs
  · rcases h.z with h | h
    · exact .inl h
    · rcases List.mem_append.1 h with h | h
      · exact .inr h
      · simp at h; subst h; exact .inl hs
theorem RInv.push {l S w a} (h : RInv l S (w ++ [a])) (ha : a < l.length) (w2 : List Nat) (h2 : ∀ j, j ∈ w2 ↔ j ∈ nextI l a) : RInv l (S.set a true) (w ++ w2) := by
  have hra := h.wr a (by simp)
  have hget : ∀ i, (S.set a true)[i]? = if a = i then some true else S[i]? := by
    intro i
    rw [List.getElem?_set]
    by_cases e : a = i
    · simp [e, h.len]; omega
    · simp [e]
  refine ⟨by simpa using h.len, fun x hx => ?_, fun i hi => ?_, fun i hi j hj => ?_, ?_⟩
  · rcases List.mem_append.1 hx with hx | hx
    · exact h.wr x (by simp [hx])
    · exact .step hra ((h2 x).1 hx)
  · rw [hget] at hi
    split at hi
    · rename_i e; subst e; exact hra
    · exact h.sr i hi
  · rw [hget] at hi
    rw [hget]
    split at hi
    · rename_i e
      subst e
      exact .inr (by simp [(h2 j).2 hj])
    · by_cases e : a = j
      · simp [e]
      · rw [if_neg e]
        rcases h.cl i hi j hj with h | h
        · exact .inl h
        · rcases List.mem_append.1 h with h | h
          · exact .inr (by simp [h])
          · simp at h; exact absurd h.symm e
  · rw [hget]
    by_cases e : a = 0
    · simp [e]
    · rw [if_neg e]
      rcases h.z with h | h
      · exact .inl h
      · rcases List.mem_append.1 h with h | h
        · exact .inr (by simp [h])
        · simp at h; exact absurd h.symm e
def leftN (S : List Bool) : Nat := S.countP (!·)
theorem leftN_set : ∀ (S : List Bool) (a : Nat), S[a]? = some false → leftN (S.set a true) + 1 = leftN S
  | [], a, h => by simp at h
  | b :: S, 0, h => by simp at h; subst h; simp [leftN]
  | b :: S, a + 1, h => by
    have := leftN_set S a (by simpa using h)
    unfold leftN at *
    cases b <;> simp <;> omega
end Go.Am
end
section
namespace Go.Am
open Go Go.Proofs
set_option maxRecDepth 20000
set_option maxHeartbeats 4000000 in
theorem rea_loop {pins cells r st} (l : List Ins) (hg : Good pins cells l r st) (k : Kt) (R : Ans)
    (hx : ∀ v rows, k (.exit 0) ⟨64, gl0, [(0, true, .vec 0 0 0 l.length), (3, true, .vec 500 1 0 l.length), (4, true, .vec 550 v 0 0), (12, true, .d (.bool false))], [⟨0, 0, .vec 5 (l.map insD)⟩, ⟨500, 1, .vec 1 (bD (rSeen l))⟩, ⟨550, v, .vec 1 rows⟩]⟩ = R) :
    ∀ (m : Nat) (S : List Bool) (work : List Nat), 2 * leftN S + work.length ≤ m → m ≤ 20000 → RInv l S work → ∀ (v : Nat) (rows : List D) (X : Env), X = [] ∨ (∃ a, X = [(5, true, .d (.int .i64 a)), (27, true, .d (.bool true))]) ∨ (∃ a, X = [(5, true, .d (.int .i64 a)), (57, true, .d (.bool false))]) →
      rows.take work.length = work.map wD → work.length ≤ rows.length →
    denK ctx 32 (.loop (Code.at (codeOf Tryd.f32) [1, 1, 1, 0, 0, 0])) ⟨64, gl0, (0, true, .vec 0 0 0 l.length) :: (3, true, .vec 500 1 0 l.length) :: (4, true, .vec 550 v 0 work.length) :: X, [⟨0, 0, .vec 5 (l.map insD)⟩, ⟨500, 1, .vec 1 (bD S)⟩, ⟨550, v, .vec 1 rows⟩]⟩ k = R := by
  intro m
  induction m with
  | zero =>
    intro S work hm _ hI v rows X hX hr hlen
    have : work = [] := List.eq_nil_of_length_eq_zero (by omega)
    subst this
    rw [← hI.fin] at hx
    have hx := hx v rows
    rw [denK_loop]
    simp at hx
    rcases hX with rfl | ⟨a, rfl⟩ | ⟨a, rfl⟩ <;> simp [Tryd.f32, hx]
  | succ m ih =>
    intro S work hm hm2 hI v rows X hX hr hlen
    rcases List.eq_nil_or_concat work with rfl | ⟨w, a, rfl⟩
    · rw [← hI.fin] at hx
      have hx := hx v rows
      rw [denK_loop]
      simp at hx
      rcases hX with rfl | ⟨a, rfl⟩ | ⟨a, rfl⟩ <;> simp [Tryd.f32, hx]
    · rw [List.concat_eq_append] at *
      have hl := hg.len
      have ha : a < l.length := reach_in hg (hI.wr a (by simp))
      have hSl := hI.len
      have haS : a < S.length := by omega
      have hxa : l[a]? = some l[a] := by simp [ha]
      have hlr : w.length < rows.length := by simp at hlen; omega
      have hra : rows[w.length] = wD a := by
        have := congrArg (·[w.length]?) hr
        simp [List.getElem?_take] at this
        simpa [hlr] using this
      have hrw : rows.take w.length = w.map wD := by
        have := congrArg (·.take w.length) hr
        simpa [List.take_take, List.take_append_of_le_length] using this
      have hwl : w.length ≤ 20000 := by simp at hm; omega
      have wl : IntKind.i64.wrap (w.length : Int) = w.length := wrap_id (by unfold I64; omega)
      have wl1 : IntKind.i64.wrap ((w.length : Int) + 1 - 1) = w.length := by rw [show (w.length : Int) + 1 - 1 = w.length by omega]; exact wl
      have wa : IntKind.i64.wrap ((a : Int) + 1) = (a : Int) + 1 := wrap_id (by unfold I64; omega)
      have hp : (0 : Int) < (w.length : Int) + 1 := by omega
      cases hq : S[a]
      rotate_left
      · have hI2 := hI.pop (by rw [List.getElem?_eq_getElem haS, hq])
        have ih := ih S w (by simp at hm; omega) (by omega) hI2 v rows [(5, true, .d (.int .i64 a)), (27, true, .d (.bool true))] (.inr (.inl ⟨a, rfl⟩)) hrw (by omega)
        rw [denK_loop]
        simp [Tryd.f32] at ih
        rcases hX with rfl | ⟨a, rfl⟩ | ⟨a, rfl⟩ <;> simp [Tryd.f32, wl, wl1, hp, hlr, hra, haS, hSl, ha, hq, ih]
      · have hsf : S[a]? = some false := by rw [List.getElem?_eq_getElem haS, hq]
        have hls := leftN_set S a hsf
        have hset : (bD S).set a (.bool true) = bD (S.set a true) := bD_set S a true
        have hnx : nextI l a = if l[a].op = 9 then [l[a].a.toNat] else if l[a].op = 10 then [a + 1, l[a].a.toNat] else if l[a].op = 15 then [] else [a + 1] := by unfold nextI; rw [hxa]
        have hj := jumps_run l[a]
        have g1 : w.length ≤ rows.length := by omega
        have g2 : (w.length + 1) * 8 ≤ 140737488355328 ∧ w.length ≤ 4611686018427387903 := by omega
        have g3 : (w.length + 1 + 1) * 8 ≤ 140737488355328 ∧ w.length ≤ 4611686018427387902 := by omega
        simp at hset hj
        by_cases e9 : l[a].op = 9
        · obtain ⟨a1, a2⟩ := hg.tgt hxa (.inl e9)
          have hI2 := hI.push ha [l[a].a.toNat] (by rw [hnx, if_pos e9]; simp)
          have hD : D.int .i64 l[a].a = wD l[a].a.toNat := by simp; omega
          have ih := ih _ _ (by simp at hm ⊢; omega) (by omega) hI2 (v + 1) (w.map wD ++ [.int .i64 l[a].a]) [(5, true, .d (.int .i64 a)), (57, true, .d (.bool false))] (.inr (.inr ⟨a, rfl⟩)) (by rw [hD]; simp) (by simp)
          have hjb : jB l[a] = true := by simp [jB, e9]
          rw [denK_loop]
          rw [hjb] at hj
          simp [Tryd.f32] at ih
          simp [e9] at hj
          rcases hX with rfl | ⟨a, rfl⟩ | ⟨a, rfl⟩ <;> simp [Tryd.f32, wl, wl1, hp, hlr, hra, hrw, haS, hSl, ha, hq, hset, hj, g1, g2, g3, drwK_end, e9, ih]
        · by_cases e10 : l[a].op = 10
          · obtain ⟨a1, a2⟩ := hg.tgt hxa (.inr e10)
            have hI2 := hI.push ha [l[a].a.toNat, a + 1] (by intro j; rw [hnx, if_neg e9, if_pos e10]; simp; exact or_comm)
            have hD : D.int .i64 l[a].a = wD l[a].a.toNat := by simp; omega
            have ih := ih _ _ (by simp at hm ⊢; omega) (by omega) hI2 (v + 2) (w.map wD ++ [.int .i64 l[a].a, .int .i64 ((a : Int) + 1)]) [] (.inl rfl) (by rw [hD]; simp) (by simp)
            have hjb : jB l[a] = true := by simp [jB, e10]
            rw [denK_loop]
            rw [hjb] at hj
            simp [Tryd.f32] at ih
            simp [e10] at hj
            rcases hX with rfl | ⟨a, rfl⟩ | ⟨a, rfl⟩ <;> simp [Tryd.f32, wl, wl1, wa, hp, hlr, hra, hrw, haS, hSl, ha, hq, hset, hj, g1, g2, g3, drwK_end, e10, ih]
          · have hjb : jB l[a] = false := by simp [jB, e9, e10]
            by_cases e15 : l[a].op = 15
            · have hI2 := hI.push ha [] (by rw [hnx, if_neg e9, if_neg e10, if_pos e15]; simp)
              have ih := ih _ _ (by simp at hm ⊢; omega) (by omega) hI2 v rows [(5, true, .d (.int .i64 a)), (57, true, .d (.bool false))] (.inr (.inr ⟨a, rfl⟩)) (by simpa using hrw) (by simp; omega)
              rw [denK_loop]
              rw [hjb] at hj
              simp [Tryd.f32] at ih
              simp [e15] at hj
              rcases hX with rfl | ⟨a, rfl⟩ | ⟨a, rfl⟩ <;> simp [Tryd.f32, wl, wl1, wa, hp, hlr, hra, hrw, haS, hSl, ha, hq, hset, hj, g1, g2, g3, drwK_end, e15, ih]
            · have hI2 := hI.push ha [a + 1] (by rw [hnx, if_neg e9, if_neg e10, if_neg e15]; simp)
              have ih := ih _ _ (by simp at hm ⊢; omega) (by omega) hI2 (v + 1) (w.map wD ++ [.int .i64 ((a : Int) + 1)]) [] (.inl rfl) (by simp) (by simp)
              rw [denK_loop]
              rw [hjb] at hj
              simp [Tryd.f32] at ih
              rcases hX with rfl | ⟨a, rfl⟩ | ⟨a, rfl⟩ <;> simp [Tryd.f32, wl, wl1, wa, hp, hlr, hra, hrw, haS, hSl, ha, hq, hset, hj, g1, g2, g3, drwK_end, e9, e10, e15, ih]
end Go.Am
end
section
namespace Go.Am
open Go Go.Proofs
set_option maxRecDepth 20000
theorem reached_run {pins cells r st} (l : List Ins) (hg : Good pins cells l r st) : callT ctx 32 [.vec 0 0 0 l.length] [.vec 5 (l.map insD)] = some (.ret (.d (.list (bD (rSeen l)))), [(0, .vec 5 (l.map insD))]) := by
  have hl := hg.len
  have hI : RInv l (List.replicate l.length false) [0] := by
    refine ⟨by simp, fun w hw => by simp at hw; subst hw; exact .zero, fun i hi => ?_, fun i hi => ?_, .inr (by simp)⟩
    · rw [List.getElem?_replicate] at hi; split at hi <;> simp at hi
    · rw [List.getElem?_replicate] at hi; split at hi <;> simp at hi
  have hlf : leftN (List.replicate l.length false) = l.length := by simp [leftN, List.countP_replicate]
  have h := fun k R hx => rea_loop l hg k R hx 10000 _ [0] (by rw [hlf]; simp; omega) (by omega) hI 1 [wD 0] [] (.inl rfl) (by simp) (by simp)
  have g1 : l.length ≤ 140737488355328 ∧ l.length ≤ 4611686018427387904 := by omega
  have g2 : (l.length : Int) ≤ 140737488355328 ∧ (l.length : Int) ≤ 4611686018427387904 := by omega
  have g3 : (rSeen l).length = l.length := by simp [rSeen]
  rw [run32 (by simp)]
  simp [Tryd.f32] at h
  simp [Tryd.f32, g1, g2]
  rw [h _ (some (.ret (.d (.list (bD (rSeen l)))), [(0, .vec 5 (l.map insD))]))]
  · simp
  · simp [g3]
end Go.Am
end
section
namespace Go.Am
open Go Go.Proofs
set_option maxRecDepth 20000
def toA (out : List Bool) (n i : Nat) : List D := (List.range (n + 1)).map fun j => if j < i then D.int .i64 (tos out j) else .int .i64 0
theorem toA_succ (out : List Bool) (n i : Nat) : (toA out n i).set i (.int .i64 (tos out i)) = toA out n (i + 1) := by
  apply List.ext_getElem?
  intro j
  rw [List.getElem?_set]
  by_cases hj : j < n + 1
  · unfold toA
    rw [get_map_range _ _ _ hj, get_map_range _ _ _ hj]
    by_cases e : i = j
    · subst e; simp [hj]
    · rw [if_neg e]
      have : (j < i) ↔ (j < i + 1) := by omega
      simp [this]
  · have h1 : (toA out n i)[j]? = none := by unfold toA; simp; omega
    have h2 : (toA out n (i + 1))[j]? = none := by unfold toA; simp; omega
    rw [h1, h2]
    split
    · split
      · rename_i h3 h4; unfold toA at h4; simp at h4; omega
      · rfl
    · rfl
theorem toA_len (out : List Bool) (n i : Nat) : (toA out n i).length = n + 1 := by simp [toA]
theorem toA_zero (out : List Bool) (n : Nat) : toA out n 0 = List.replicate (n + 1) (.int .i64 0) := by
  unfold toA
  simp [List.map_const']
theorem wo_loop1 (l : List Ins) (out : List Bool) (hlo : l.length = out.length) (hl : l.length ≤ 5000) (e1 e2 e3 : Ent) (h1 : e1.key = 300) (h2 : e2.key = 500) (h3 : e3.key = 600) (k : Kt) (R : Ans)
    (hx : k (.exit 0) ⟨62, gl0, [(0, true, .d (.list (l.map insD))), (1, true, .d (.list (bD out))), (5, true, .vec 800 1 0 (l.length + 1)), (6, true, .d (.int .i64 (tos out l.length))), (16, true, .d (.int .i64 l.length)), (17, true, .d (.int .i64 l.length)), (18, true, .d (.bool false))], [e1, e2, e3, ⟨800, 1, .vec 1 (toA out l.length l.length)⟩]⟩ = R) :
    ∀ (m i : Nat), i + m = l.length → denK ctx 31 (.loop (Code.at (codeOf Tryd.f31) [1, 1, 1, 0, 1, 0, 0])) ⟨62, gl0, [(0, true, .d (.list (l.map insD))), (1, true, .d (.list (bD out))), (5, true, .vec 800 1 0 (l.length + 1)), (6, true, .d (.int .i64 (tos out i))), (16, true, .d (.int .i64 l.length)), (17, true, .d (.int .i64 i))], [e1, e2, e3, ⟨800, 1, .vec 1 (toA out l.length i)⟩]⟩ k = R
  | 0, i, hi => by
    have : i = l.length := by omega
    subst this
    rw [denK_loop]
    simp at hx
    simp [Tryd.f31, hx]
  | m + 1, i, hi => by
    have ih := wo_loop1 l out hlo hl e1 e2 e3 h1 h2 h3 k R hx m (i + 1) (by omega)
    have hi0 : i < l.length := by omega
    have hio : i < out.length := by omega
    have hit : i < l.length + 1 := by omega
    have w1 : IntKind.i64.wrap ((i : Int) + 1) = (i : Int) + 1 := wrap_id (by unfold I64; omega)
    have hts := tos_succ (out := out) (j := i) (b := out[i]) (by simp [hio])
    have htl : tos out i ≤ out.length := by unfold tos; exact Nat.le_trans List.countP_le_length (by simp; omega)
    have w2 : IntKind.i64.wrap ((tos out i : Int) + 1) = (tos out i : Int) + 1 := wrap_id (by unfold I64; omega)
    have hset := toA_succ out l.length i
    have htA := toA_len out l.length i
    rw [hts] at ih
    rw [denK_loop]
    generalize tos out i = t at *
    cases hq : out[i]
    · rw [hq] at ih
      simp [Tryd.f31] at ih ⊢
      simp [hi0, hio, hit, w1, w2, hset, htA, h1, h2, h3, hq, ih]
    · rw [hq] at ih
      simp [Tryd.f31] at ih ⊢
      simp [hi0, hio, hit, w1, w2, hset, htA, h1, h2, h3, hq, ih]
end Go.Am
end
section
namespace Go.Am
open Go Go.Proofs
set_option maxRecDepth 20000
def PlnC (c : Cont) : Prop := c = .dead ∨ ∃ ds : List D, c = .box (ds.map .d)
theorem pln5 (a b c d e : D) : PlnC (.box [.d a, .d b, .d c, .d d, .d e]) := .inr ⟨[a, b, c, d, e], rfl⟩
set_option maxHeartbeats 1000000 in
theorem wo_loop2 (l : List Ins) (out : List Bool) (hlo : l.length = out.length) (hl : l.length ≤ 5000) (ht : ∀ (i : Nat) (x : Ins), l[i]? = some x → isJ x → 0 ≤ x.a ∧ x.a.toNat < l.length) (e1 : Ent) (h1 : e1.key = 300) (k : Kt) (R : Ans)
    (hx : ∀ v v2 c2, PlnC c2 → k (.exit 2) ⟨62, gl0, [(1, true, .d (.list (bD out))), (5, true, .vec 800 1 0 (l.length + 1)), (8, true, .vec 500 v 0 (wo l out).length), (37, true, .d (.list (l.map insD))), (38, true, .d (.int .i64 l.length)), (39, true, .d (.int .i64 l.length)), (40, true, .d (.bool false))], [e1, ⟨500, v, .vec 5 ((wo l out).map insD)⟩, ⟨600, v2, c2⟩, ⟨800, 1, .vec 1 (toA out l.length (l.length + 1))⟩]⟩ = R) :
    ∀ (rest : List Ins) (ro : List Bool) (i : Nat) (K : List Ins) (v v2 : Nat) (c2 : Cont), PlnC c2 → l.drop i = rest → out.drop i = ro → i + rest.length = l.length → K ++ woF (mvI out) rest ro = wo l out → K.length ≤ i →
      denK ctx 31 (.loop (Code.at (codeOf Tryd.f31) [1, 1, 1, 1, 1, 1, 0, 1, 0, 0])) ⟨62, gl0, [(1, true, .d (.list (bD out))), (5, true, .vec 800 1 0 (l.length + 1)), (8, true, .vec 500 v 0 K.length), (37, true, .d (.list (l.map insD))), (38, true, .d (.int .i64 l.length)), (39, true, .d (.int .i64 i))], [e1, ⟨500, v, .vec 5 (K.map insD)⟩, ⟨600, v2, c2⟩, ⟨800, 1, .vec 1 (toA out l.length (l.length + 1))⟩]⟩ k = R
  | [], ro, i, K, v, v2, c2, hc, hr, hro, hi, hK, hKi => by
    have : i = l.length := by simpa using hi
    subst this
    have e : ro = [] := by rw [← hro, hlo]; simp
    subst e
    simp [woF] at hK
    subst hK
    have hx := hx v v2 c2 hc
    rw [denK_loop]
    simp at hx
    simp [Tryd.f31, hx]
  | x :: rest, ro, i, K, v, v2, c2, hc, hr, hro, hi, hK, hKi => by
    have hi0 : i < l.length := by simp at hi; omega
    have hio : i < out.length := by omega
    have hro2 : ro = out[i] :: out.drop (i + 1) := by rw [← hro]; exact List.drop_eq_getElem_cons hio
    subst hro2
    have hxi : l[i]? = some x := by rw [← List.head?_drop, hr]; rfl
    have hxe : l[i] = x := by simpa [hi0] using hxi
    have w1 : IntKind.i64.wrap ((i : Int) + 1) = (i : Int) + 1 := wrap_id (by unfold I64; omega)
    have hdr : l.drop (i + 1) = rest := by rw [← List.tail_drop, hr]; rfl
    have hj := jumps_run x
    have g1 : (K.length + 1) * 8 ≤ 140737488355328 ∧ K.length ≤ 4611686018427387903 := by omega
    have g2 : (K.length + 1) * 40 ≤ 140737488355328 ∧ K.length ≤ 4611686018427387903 := by omega
    have htA := toA_len out l.length (l.length + 1)
    cases hq : out[i]
    rotate_left
    · rw [hq] at hK
      have ih := fun v2 c2 hc => wo_loop2 l out hlo hl ht e1 h1 k R hx rest (out.drop (i + 1)) (i + 1) K v v2 c2 hc hdr rfl (by simp at hi; omega) (by simpa [woF] using hK) (by omega)
      rw [denK_loop]
      simp [Tryd.f31] at ih ⊢
      simp [hi0, hio, w1, h1, hq, hxe, pln5, ih]
    · rw [hq] at hK
      have ih := fun v2 c2 hc => wo_loop2 l out hlo hl ht e1 h1 k R hx rest (out.drop (i + 1)) (i + 1) (K ++ [mvI out x]) (v + 1) v2 c2 hc hdr rfl (by simp at hi; omega) (by simpa [woF] using hK) (by simp; omega)
      by_cases hJ : isJ x
      · obtain ⟨a1, a2⟩ := ht i x hxi hJ
        have hjb := jB_iff.2 hJ
        have a3 : x.a.toNat < (toA out l.length (l.length + 1)).length := by omega
        have hT : (toA out l.length (l.length + 1))[x.a.toNat] = .int .i64 (tos out x.a.toNat) := by
          have : (toA out l.length (l.length + 1))[x.a.toNat]? = some (.int .i64 (tos out x.a.toNat)) := by
            unfold toA; rw [get_map_range _ _ _ (by omega), if_pos (by omega)]
          simpa [a3] using this
        have hm : mvI out x = { x with a := tos out x.a.toNat } := by unfold mvI; rw [if_pos hJ]
        have a4 : x.a.toNat < l.length + 1 := by omega
        rw [hm] at ih
        rw [hjb] at hj
        rw [denK_loop]
        simp [Tryd.f31] at ih hj ⊢
        simp [hi0, hio, w1, h1, hq, hxe, pln5, hj, a1, a2, a3, a4, hT, htA, g1, g2, ih]
      · have hjb : jB x = false := by rw [← Bool.not_eq_true]; exact fun hc => hJ (jB_iff.1 hc)
        have hm : mvI out x = x := by unfold mvI; rw [if_neg hJ]
        rw [hm] at ih
        rw [hjb] at hj
        rw [denK_loop]
        simp [Tryd.f31] at ih hj ⊢
        simp [hi0, hio, w1, h1, hq, hxe, pln5, hj, htA, g1, g2, ih]
theorem without_run (l : List Ins) (out : List Bool) (hlo : l.length = out.length) (hl : l.length ≤ 5000) (ht : ∀ (i : Nat) (x : Ins), l[i]? = some x → isJ x → 0 ≤ x.a ∧ x.a.toNat < l.length) :
    callT ctx 31 [.d (.list (l.map insD)), .d (.list (bD out))] [] = some (.ret (.vec 0 0 0 (wo l out).length), [(0, .vec 5 ((wo l out).map insD))]) := by
  have h := fun e1 e2 e3 h1 h2 h3 k R hx => wo_loop1 l out hlo hl e1 e2 e3 h1 h2 h3 k R hx l.length 0 (by omega)
  have h2 := fun e1 h1 k R hx => wo_loop2 l out hlo hl ht e1 h1 k R hx l out 0 [] 1 0 .dead (.inl rfl) rfl rfl (by simp) rfl (by simp)
  rw [toA_zero, show tos out 0 = 0 by simp [tos]] at h
  rw [← toA_succ] at h2
  have g0 : (0 : Int) ≤ (l.length : Int) + 1 := by omega
  have g1 : l.length + 1 ≤ 140737488355328 ∧ l.length + 1 ≤ 4611686018427387904 := by omega
  have g2 : (l.length : Int) + 1 ≤ 140737488355328 ∧ (l.length : Int) + 1 ≤ 4611686018427387904 := by omega
  have g3 : ((l.length : Int) + 1) * 8 ≤ 140737488355328 := by omega
  have w1 : IntKind.i64.wrap ((l.length : Int) + 1) = (l.length : Int) + 1 := wrap_id (by unfold I64; omega)
  rw [run31 (by simp)]
  simp [Tryd.f31] at h h2
  simp [Tryd.f31, g1, g2, w1]
  rw [h _ _ _ rfl rfl rfl]
  have htl := toA_len out l.length l.length
  simp [htl, g0, g3]
  rw [h2 _ rfl]
  intro v v2 c2 hc
  rcases hc with rfl | ⟨ds, rfl⟩ <;> simp
end Go.Am
end
section
namespace Go.Am
open Go Go.Proofs
set_option maxRecDepth 20000
def idxT : Nat → List Bool → Int
  | _, [] => -1
  | i, x :: r => if x = true then (i : Int) else idxT (i + 1) r
theorem idxT_mem : ∀ (l : List Bool) (i : Nat), decide (0 ≤ idxT i l) = decide (true ∈ l)
  | [], i => by simp [idxT]
  | x :: r, i => by
    have := idxT_mem r (i + 1)
    unfold idxT
    cases x with
    | true => simp
    | false => simp [this]
theorem boolIdx_loop (l : List Bool) (hl : l.length ≤ 5000) (k : Kt) (R : Ans) : ∀ (rest : List Bool) (i : Nat), l.drop i = rest → i + rest.length = l.length →
    ((if 0 ≤ idxT i rest then k .ret ⟨19, gl0, [(4, true, .d (.int .i64 (idxT i rest)))], []⟩ else k (.exit 0) ⟨19, gl0, [(0, true, .d (.list (bD l))), (1, true, .d (.bool true)), (7, true, .d (.int .i64 l.length)), (8, true, .d (.int .i64 l.length)), (9, true, .d (.bool false))], []⟩) = R) →
    denK ctx 53 (.loop (Code.at (codeOf Tryd.f53) [1, 0, 1, 0, 0])) ⟨19, gl0, [(0, true, .d (.list (bD l))), (1, true, .d (.bool true)), (7, true, .d (.int .i64 l.length)), (8, true, .d (.int .i64 i))], []⟩ k = R
  | [], i, hd, hi, h => by
    have hi : i = l.length := by simpa using hi
    subst hi
    rw [denK_loop]
    simp [idxT] at h
    simp [Tryd.f53, h]
  | x :: rest, i, hd, hi, h => by
    have hlt : i < l.length := by simp at hi; omega
    have hx : l[i] = x := by
      have := congrArg (·[0]?) hd
      simp at this
      simpa [hlt] using this
    have w1 : IntKind.i64.wrap ((i : Int) + 1) = (i : Int) + 1 := wrap_id (by unfold I64; omega)
    unfold idxT at h
    rw [denK_loop]
    cases x with
    | true =>
      simp at h
      simp [Tryd.f53]
      simp [hlt, hx, h]
    | false =>
      replace h : (if 0 ≤ idxT (i + 1) rest then k .ret ⟨19, gl0, [(4, true, .d (.int .i64 (idxT (i + 1) rest)))], []⟩ else k (.exit 0) ⟨19, gl0, [(0, true, .d (.list (bD l))), (1, true, .d (.bool true)), (7, true, .d (.int .i64 l.length)), (8, true, .d (.int .i64 l.length)), (9, true, .d (.bool false))], []⟩) = R := h
      have ih := boolIdx_loop l hl k R rest (i + 1) (by rw [← List.tail_drop, hd]; rfl) (by simp at hi; omega) h
      simp [Tryd.f53] at ih ⊢
      simp [hlt, hx, w1, ih]
theorem idxT_neg : ∀ (l : List Bool) (i : Nat), ¬ 0 ≤ idxT i l → idxT i l = -1
  | [], i, _ => rfl
  | x :: r, i, h => by
    unfold idxT at h ⊢
    split
    · rename_i hs; rw [if_pos hs] at h; omega
    · rename_i hs; rw [if_neg hs] at h; exact idxT_neg r (i + 1) h
theorem boolIdx_run (l : List Bool) (hl : l.length ≤ 5000) : callT ctx 53 [.d (.list (bD l)), .d (.bool true)] [] = some (.ret (.d (.int .i64 (idxT 0 l))), []) := by
  have hlo := fun k R h => boolIdx_loop l hl k R l 0 rfl (by simp) h
  rw [run53 (by simp)]
  simp [Tryd.f53] at hlo ⊢
  rw [hlo]
  split
  · simp
  · rename_i h; simp [idxT_neg l 0 h]
theorem containsT_run (l : List Bool) (hl : l.length ≤ 5000) : callT ctx 30 [.d (.list (bD l)), .d (.bool true)] [] = some (.ret (.d (.bool (decide (true ∈ l)))), []) := by
  have h := boolIdx_run l hl
  rw [run30 (by simp)]
  simp at h
  simp [Tryd.f30, h, ← idxT_mem l 0]
theorem cloneI_run (l : List Ins) (h1 : 1 ≤ l.length) (hl : l.length ≤ 5000) : callT ctx 15 [.d (.list (l.map insD))] [] = some (.ret (.vec 0 0 0 l.length), [(0, .vec 5 (l.map insD))]) := by
  have g1 : l.length * 40 ≤ 140737488355328 ∧ l.length ≤ 4611686018427387904 := by omega
  have g2 : l.length * 8 ≤ 140737488355328 ∧ l.length ≤ 4611686018427387904 := by omega
  cases l with
  | nil => simp at h1
  | cons x r =>
    rw [run15 (by simp)]
    simp at g1 g2
    simp [Tryd.f15, g1, g2]
end Go.Am
end
section
namespace Go.Am
open Go Go.Proofs
set_option maxRecDepth 20000
def mixB (A B : List Bool) (i : Nat) : List Bool := A.take i ++ B.drop i
theorem mixB_len (A B : List Bool) (i : Nat) (h : A.length = B.length) : (mixB A B i).length = A.length := by
  unfold mixB; simp; omega
theorem mixB_get {A B : List Bool} {i : Nat} (h : A.length = B.length) (j : Nat) : (mixB A B i)[j]? = if j < i then A[j]? else B[j]? := by
  unfold mixB
  rw [List.getElem?_append]
  simp only [List.length_take, List.getElem?_take, List.getElem?_drop]
  by_cases e : j < i
  · by_cases e2 : j < A.length
    · rw [if_pos (by omega), if_pos e, if_pos e]
    · rw [if_neg (by omega), if_pos e, List.getElem?_eq_none (by omega), List.getElem?_eq_none (by omega)]
  · rw [if_neg (by omega), if_neg e]
    by_cases e2 : i ≤ A.length
    · rw [show i + (j - min i A.length) = j by omega]
    · rw [List.getElem?_eq_none (by omega), List.getElem?_eq_none (by omega)]
theorem mixB_set {A B : List Bool} {i : Nat} (h : A.length = B.length) (hi : i < A.length) : (mixB A B i).set i A[i] = mixB A B (i + 1) := by
  apply List.ext_getElem?
  intro j
  rw [List.getElem?_set, mixB_get h, mixB_get h, mixB_len _ _ _ h]
  by_cases e : i = j
  · subst e
    simp [hi]
  · rw [if_neg e]
    have : j < i + 1 ↔ j < i := by omega
    simp [this]
theorem mixB_all (A B : List Bool) (h : A.length = B.length) : mixB A B A.length = A := by unfold mixB; simp [h]
theorem mixB_zero (A B : List Bool) : mixB A B 0 = B := by simp [mixB]
theorem bD_mix {A B : List Bool} {i : Nat} (h : A.length = B.length) (hi : i < A.length) (b : Bool) (hb : A[i] = b) : (bD (mixB A B i)).set i (.bool b) = bD (mixB A B (i + 1)) := by
  rw [← hb, ← mixB_set h hi]
  exact bD_set _ _ _
section
variable (l : List Ins) (e1 e2 e4 e5 e6 : Ent) (h1 : e1.key = 200) (h2 : e2.key = 550) (h4 : e4.key = 1201) (h5 : e5.key = 2501) (h6 : e6.key = 3801) (hl : l.length ≤ 5000)
include h1 h2 h4 h5 h6 hl
theorem rnd_loopA (A B S : List Bool) (bc : Bool) (hA : A.length = l.length) (hB : B.length = l.length) (hS : S.length = l.length) (hAS : ∀ i (h : i < A.length) (h2 : i < S.length), A[i] = (!S[i] && decide (i + 1 < l.length))) (k : Kt) (R : Ans)
    (hx : k (.exit 0) ⟨77, gl0, [(0, true, .vec 0 0 0 l.length), (4, true, .d (.bool bc)), (5, true, .vec 800 1 0 l.length), (24, true, .d (.list (bD S))), (25, true, .d (.int .i64 l.length)), (26, true, .d (.int .i64 l.length)), (27, true, .d (.bool false))], [⟨0, 0, .vec 5 (l.map insD)⟩, e1, e2, ⟨800, 1, .vec 1 (bD A)⟩, e4, e5, e6]⟩ = R) :
    ∀ (m i : Nat), i + m = l.length → denK ctx 16 (.loop (Code.at (codeOf Tryd.f16) [1, 1, 1, 1, 1, 0, 1, 0, 0])) ⟨77, gl0, [(0, true, .vec 0 0 0 l.length), (4, true, .d (.bool bc)), (5, true, .vec 800 1 0 l.length), (24, true, .d (.list (bD S))), (25, true, .d (.int .i64 l.length)), (26, true, .d (.int .i64 i))], [⟨0, 0, .vec 5 (l.map insD)⟩, e1, e2, ⟨800, 1, .vec 1 (bD (mixB A B i))⟩, e4, e5, e6]⟩ k = R
  | 0, i, hi => by
    have : i = l.length := by omega
    subst this
    rw [← hA, mixB_all A B (by omega), hA]
    rw [denK_loop]
    simp at hx
    simp [Tryd.f16, hx]
  | m + 1, i, hi => by
    have ih := rnd_loopA A B S bc hA hB hS hAS k R hx m (i + 1) (by omega)
    have hi0 : i < l.length := by omega
    have hiS : i < S.length := by omega
    have hiM : i < (mixB A B i).length := by rw [mixB_len _ _ _ (by omega)]; omega
    have w1 : IntKind.i64.wrap ((i : Int) + 1) = (i : Int) + 1 := wrap_id (by unfold I64; omega)
    have w2 : IntKind.i64.wrap ((l.length : Int) - 1) = (l.length : Int) - 1 := wrap_id (by unfold I64; omega)
    have hsp := hAS i (by omega) hiS
    have hset := bD_mix (A := A) (B := B) (i := i) (by omega) (by omega) _ hsp
    have hdec : ((i : Int) < (l.length : Int) - 1) ↔ i + 1 < l.length := by omega
    rw [denK_loop]
    have hML := mixB_len A B i (by omega)
    cases hq : S[i]
    · rw [hq] at hset
      simp [Tryd.f16] at ih hset ⊢
      simp [hi0, hiS, hiM, hS, hML, hA, w1, w2, hq, h1, h2, h4, h5, h6, hdec, hset, ih]
    · rw [hq] at hset
      simp [Tryd.f16] at ih hset ⊢
      simp [hi0, hiS, hiM, hS, hML, hA, w1, w2, hq, h1, h2, h4, h5, h6, hdec, hset, ih]
omit h2 in
theorem rnd_loopB (A B : List Bool) (bc : Bool) (hA : A.length = l.length) (hB : B.length = l.length) (hAS : ∀ i (h : i < A.length) (h2 : i < l.length), A[i] = (decide (l[i].op = 9) && decide (l[i].a = (i : Int) + 1))) (k : Kt) (R : Ans)
    (hx : ∀ v2 c2, PlnC c2 → k (.exit 2) ⟨77, gl0, [(0, true, .vec 0 0 0 l.length), (4, true, .d (.bool bc)), (5, true, .vec 800 1 0 l.length), (49, true, .vec 0 0 0 l.length), (50, true, .d (.int .i64 l.length)), (51, true, .d (.int .i64 l.length)), (52, true, .d (.bool false))], [⟨0, 0, .vec 5 (l.map insD)⟩, e1, ⟨550, v2, c2⟩, ⟨800, 1, .vec 1 (bD A)⟩, e4, e5, e6]⟩ = R) :
    ∀ (m i v2 : Nat) (c2 : Cont), PlnC c2 → i + m = l.length → denK ctx 16 (.loop (Code.at (codeOf Tryd.f16) [1, 1, 1, 1, 1, 1, 1, 0, 1, 0, 0])) ⟨77, gl0, [(0, true, .vec 0 0 0 l.length), (4, true, .d (.bool bc)), (5, true, .vec 800 1 0 l.length), (49, true, .vec 0 0 0 l.length), (50, true, .d (.int .i64 l.length)), (51, true, .d (.int .i64 i))], [⟨0, 0, .vec 5 (l.map insD)⟩, e1, ⟨550, v2, c2⟩, ⟨800, 1, .vec 1 (bD (mixB A B i))⟩, e4, e5, e6]⟩ k = R
  | 0, i, v2, c2, hc, hi => by
    have : i = l.length := by omega
    subst this
    rw [← hA, mixB_all A B (by omega), hA]
    rw [denK_loop]
    have hx := hx v2 c2 hc
    simp at hx
    simp [Tryd.f16, hx]
  | m + 1, i, v2, c2, hc, hi => by
    have ih := fun v2 c2 hc => rnd_loopB A B bc hA hB hAS k R hx m (i + 1) v2 c2 hc (by omega)
    have hi0 : i < l.length := by omega
    have hiM : i < (mixB A B i).length := by rw [mixB_len _ _ _ (by omega)]; omega
    have w1 : IntKind.i64.wrap ((i : Int) + 1) = (i : Int) + 1 := wrap_id (by unfold I64; omega)
    have hsp := hAS i (by omega) hi0
    have hset := bD_mix (A := A) (B := B) (i := i) (by omega) (by omega) _ hsp
    rw [denK_loop]
    have hML := mixB_len A B i (by omega)
    generalize hxx : l[i] = x at *
    by_cases e9 : x.op = 9
    · by_cases ea : x.a = (i : Int) + 1
      · simp [e9, ea] at hset
        simp [Tryd.f16] at ih ⊢
        simp [hxx, hi0, hiM, hML, hA, w1, h1, h4, h5, h6, e9, ea, hset, pln5, ih]
      · simp [e9, ea] at hset
        simp [Tryd.f16] at ih ⊢
        simp [hxx, hi0, hiM, hML, hA, w1, h1, h4, h5, h6, e9, ea, hset, pln5, ih]
    · simp [e9] at hset
      simp [Tryd.f16] at ih ⊢
      simp [hxx, hi0, hiM, hML, hA, w1, h1, h4, h5, h6, e9, hset, pln5, ih]
end
end Go.Am
end
section
namespace Go.Am
open Go Go.Proofs
set_option maxRecDepth 20000
theorem plain_ins : ∀ l : List Ins, plainDs (l.map insD) = true
  | [] => rfl
  | x :: l => by simp [plain_ins l, plainD]
theorem tL_tgt {pins cells l r st} (hg : Good pins cells l r st) (k : Nat) : ∀ (i : Nat) (x : Ins), (tL l k)[i]? = some x → isJ x → 0 ≤ x.a ∧ x.a.toNat < (tL l k).length := by
  intro i x hx hj
  rw [tL_len]
  rw [tL_get] at hx
  cases hy : l[i]? with
  | none => rw [hy] at hx; cases hx
  | some y =>
    rw [hy] at hx
    simp only [Option.map_some, Option.some.injEq] at hx
    split at hx
    · rename_i hc
      simp only [Bool.and_eq_true, decide_eq_true_eq] at hc
      obtain ⟨x2, z, _, hz, _, hz2, _⟩ := isP_iff.1 hc.1.2
      have := hg.tgt hz (.inr hz2)
      have e : aAt l (i + 1) = z.a := by unfold aAt; rw [hz]; rfl
      subst hx
      simp only [e]
      exact this
    · subst hx
      exact hg.tgt hy hj
theorem round_run1 {pins cells r st} (l l1 : List Ins) (b : Bool) (h : ThrL 0 l l1 b) (hg : Good pins cells l r st) (ht : true ∈ tO l1 l1.length) :
    callT ctx 16 [.vec 0 0 0 l.length] [.vec 5 (l.map insD)] = some (.ret (.tup [.vec 1 0 0 (wo (tL l1 l1.length) (tO l1 l1.length)).length, .d (.bool true)]), [(0, .vec 5 ((tL l1 l1.length).map insD)), (0, .vec 5 ((wo (tL l1 l1.length) (tO l1 l1.length)).map insD))]) := by
  obtain ⟨hg1, hle⟩ := thrL_good h hg
  have hlen := hg1.len
  have hth := threaded_run l l1 b h hg
  have hts := tested_run l1 (by omega) (by omega)
  have hct := containsT_run (tO l1 l1.length) (by rw [tO_len]; omega)
  have hwo := without_run (tL l1 l1.length) (tO l1 l1.length) (by rw [tL_len, tO_len]) (by rw [tL_len]; omega) (tL_tgt hg1 _)
  have hLl := tL_len (l := l1) l1.length
  have hOl := tO_len (l := l1) l1.length
  generalize tL l1 l1.length = L at *
  generalize tO l1 l1.length = O at *
  generalize wo L O = W at *
  rw [← hle] at *
  have g1 : (l1.length : Int) ≤ 140737488355328 ∧ (l1.length : Int) ≤ 4611686018427387904 := by omega
  have g2 : l1.length ≤ 140737488355328 ∧ l1.length ≤ 4611686018427387904 := by omega
  simp [ht] at hth hts hct hwo
  rw [run16 (by simp)]
  have hpl := plain_ins W

  simp [Tryd.f16, hth, hts, g1, g2, hct, hwo, hLl, hOl, hpl]
theorem tO_none {l : List Ins} {k : Nat} (h : true ∉ tO l k) : tO l k = List.replicate l.length false := by
  rw [List.eq_replicate_iff]
  refine ⟨tO_len k, fun b hb => ?_⟩
  cases b with
  | false => rfl
  | true => exact absurd hb h
theorem round_run2 {pins cells r st} (l l1 : List Ins) (b : Bool) (h : ThrL 0 l l1 b) (hg : Good pins cells l r st) (ht : true ∉ tO l1 l1.length) (hr : true ∈ rO l1) :
    callT ctx 16 [.vec 0 0 0 l.length] [.vec 5 (l.map insD)] = some (.ret (.tup [.vec 1 0 0 (wo l1 (rO l1)).length, .d (.bool true)]), [(0, .vec 5 (l1.map insD)), (0, .vec 5 ((wo l1 (rO l1)).map insD))]) := by
  classical
  obtain ⟨hg1, hle⟩ := thrL_good h hg
  have hlen := hg1.len
  have hth := threaded_run l l1 b h hg
  have hts := tested_run l1 (by omega) (by omega)
  have hct := containsT_run (tO l1 l1.length) (by rw [tO_len]; omega)
  have hct2 := containsT_run (rO l1) (by rw [rO_len]; omega)
  have hre := reached_run l1 hg1
  have hSl : (rSeen l1).length = l1.length := by simp [rSeen]
  have hloop := fun e1 e2 e4 e5 e6 h1 h2 h4 h5 h6 k R hx => rnd_loopA l1 e1 e2 e4 e5 e6 h1 h2 h4 h5 h6 (by omega) (rO l1) (tO l1 l1.length) (rSeen l1) b (by rw [rO_len]) (by rw [tO_len]) hSl (fun i h h2 => by
    have a1 := rO_get (l := l1) (i := i) (by omega)
    have a2 : (rSeen l1)[i]? = some (decide (Reach l1 i)) := get_map_range _ _ _ (by omega)
    rw [List.getElem?_eq_getElem h] at a1
    rw [List.getElem?_eq_getElem h2] at a2
    rw [Option.some.inj a1, Option.some.inj a2]) k R hx l1.length 0 (by omega)
  have hwo := without_run l1 (rO l1) (by rw [rO_len]) (by omega) (fun i x hx hj => hg1.tgt hx hj)
  rw [mixB_zero] at hloop
  rw [tL_none ht] at hts
  rw [tO_none ht] at hct hts hloop
  have hOl := rO_len (l := l1)
  have hdn : decide (true ∈ List.replicate l1.length false) = false := by rw [decide_eq_false_iff_not, ← tO_none ht]; exact ht
  rw [hdn] at hct
  generalize rO l1 = O at *
  generalize wo l1 O = W at *
  generalize rSeen l1 = S at *
  rw [← hle] at *
  have g1 : (l1.length : Int) ≤ 140737488355328 ∧ (l1.length : Int) ≤ 4611686018427387904 := by omega
  have g2 : l1.length ≤ 140737488355328 ∧ l1.length ≤ 4611686018427387904 := by omega
  have hpl := plain_ins W
  simp [hr] at hth hts hct2 hwo hpl hre hct
  simp [Tryd.f16] at hloop
  rw [run16 (by simp)]
  simp [Tryd.f16, hth, hts, g1, g2, hct, hre, hSl]
  rw [hloop _ _ _ _ _ rfl rfl rfl rfl rfl]
  simp [hct2, hwo, hOl, hpl]
theorem jO_spec {l : List Ins} (i : Nat) (h : i < (jO l).length) (h2 : i < l.length) : (jO l)[i] = (decide (l[i].op = 9) && decide (l[i].a = (i : Int) + 1)) := by
  have := jO_get (l := l) i
  rw [List.getElem?_eq_getElem h, List.getElem?_eq_getElem h2] at this
  simpa using this
theorem round_run3 {pins cells r st} (l l1 : List Ins) (b : Bool) (h : ThrL 0 l l1 b) (hg : Good pins cells l r st) (ht : true ∉ tO l1 l1.length) (hr : true ∉ rO l1) :
    callT ctx 16 [.vec 0 0 0 l.length] [.vec 5 (l.map insD)] = if true ∈ jO l1 then some (.ret (.tup [.vec 1 0 0 (wo l1 (jO l1)).length, .d (.bool true)]), [(0, .vec 5 (l1.map insD)), (0, .vec 5 ((wo l1 (jO l1)).map insD))])
      else some (.ret (.tup [.vec 0 0 0 l1.length, .d (.bool b)]), [(0, .vec 5 (l1.map insD))]) := by
  classical
  obtain ⟨hg1, hle⟩ := thrL_good h hg
  have hlen := hg1.len
  have hth := threaded_run l l1 b h hg
  have hts := tested_run l1 (by omega) (by omega)
  have hct := containsT_run (tO l1 l1.length) (by rw [tO_len]; omega)
  have hct2 := containsT_run (rO l1) (by rw [rO_len]; omega)
  have hct3 := containsT_run (jO l1) (by rw [jO_len]; omega)
  have hre := reached_run l1 hg1
  have hSl : (rSeen l1).length = l1.length := by simp [rSeen]
  have hloop := fun e1 e2 e4 e5 e6 h1 h2 h4 h5 h6 k R hx => rnd_loopA l1 e1 e2 e4 e5 e6 h1 h2 h4 h5 h6 (by omega) (rO l1) (tO l1 l1.length) (rSeen l1) b (by rw [rO_len]) (by rw [tO_len]) hSl (fun i h h2 => by
    have a1 := rO_get (l := l1) (i := i) (by omega)
    have a2 : (rSeen l1)[i]? = some (decide (Reach l1 i)) := get_map_range _ _ _ (by omega)
    rw [List.getElem?_eq_getElem h] at a1
    rw [List.getElem?_eq_getElem h2] at a2
    rw [Option.some.inj a1, Option.some.inj a2]) k R hx l1.length 0 (by omega)
  have hloopB := fun e1 e4 e5 e6 h1 h4 h5 h6 k R hx v2 c2 hc => rnd_loopB l1 e1 e4 e5 e6 h1 h4 h5 h6 (by omega) (jO l1) (rO l1) b (by rw [jO_len]) (by rw [rO_len]) jO_spec k R hx l1.length 0 v2 c2 hc (by omega)
  have hwo := without_run l1 (jO l1) (by rw [jO_len]) (by omega) (fun i x hx hj => hg1.tgt hx hj)
  rw [mixB_zero] at hloop hloopB
  rw [tL_none ht] at hts
  rw [tO_none ht] at hct hts hloop
  have hOl := rO_len (l := l1)
  have hJl := jO_len (l := l1)
  have hdn : decide (true ∈ List.replicate l1.length false) = false := by rw [decide_eq_false_iff_not, ← tO_none ht]; exact ht
  have hdr : decide (true ∈ rO l1) = false := by rw [decide_eq_false_iff_not]; exact hr
  rw [hdn] at hct
  rw [hdr] at hct2
  generalize rO l1 = O at *
  generalize jO l1 = J at *
  generalize wo l1 J = W at *
  generalize rSeen l1 = S at *
  rw [← hle] at *
  have g1 : (l1.length : Int) ≤ 140737488355328 ∧ (l1.length : Int) ≤ 4611686018427387904 := by omega
  have g2 : l1.length ≤ 140737488355328 ∧ l1.length ≤ 4611686018427387904 := by omega
  have hpl := plain_ins W
  have hpl2 := plain_ins l1
  simp at hth hts hct hct2 hct3 hwo hpl hre hpl2
  simp [Tryd.f16] at hloop hloopB
  rw [run16 (by simp)]
  simp [Tryd.f16, hth, hts, g1, g2, hct, hre, hSl]
  rw [hloop _ _ _ _ _ rfl rfl rfl rfl rfl]
  simp [hct2, hOl]
  rw [hloopB _ _ _ _ rfl rfl rfl rfl _ (if true ∈ J then some (.ret (.tup [.vec 1 0 0 W.length, .d (.bool true)]), [(0, .vec 5 (l1.map insD)), (0, .vec 5 (W.map insD))])
      else some (.ret (.tup [.vec 0 0 0 l1.length, .d (.bool b)]), [(0, .vec 5 (l1.map insD))])) _ _ _ (.inl rfl)]
  · intro v2 c2 hc
    by_cases hj : true ∈ J
    · rcases hc with rfl | ⟨ds, rfl⟩ <;> simp [hct3, hwo, hJl, hpl, hj]
    · rcases hc with rfl | ⟨ds, rfl⟩ <;> simp [hct3, hJl, hpl2, hj]
end Go.Am
end
section
namespace Go.Am
open Go Go.Proofs
set_option maxRecDepth 20000
@[simp] def mkE (ins : List Ins) (vars cells : Int) (v v9 : Nat) (l : List Ins) : Mem := [⟨150, 1, .box [.d (.list (ins.map insD)), .d (.int .i64 vars), .d (.int .i64 cells)]⟩, ⟨200, 1, .box [.lit (.slice none 0 0), .d (.int .i64 0), .d (.int .i64 0)]⟩, ⟨701, v, .vec 5 (l.map insD)⟩, ⟨901, v9, .dead⟩]
theorem make_loop (ins : List Ins) (vars cells : Int) (k : Kt) (R : Ans) (l d : List Ins) (h : Made l d) : ∀ {pins : Int → Nat} {cl : Int} {r st}, Good pins cl l r st →
    (∀ v v9, k (.exit 0) ⟨25, gl0, [(1, true, .ptr 150 1 0), (2, true, .ptr 200 1 0), (4, true, .vec 701 v 0 d.length), (13, true, .d (.bool false))], mkE ins vars cells v v9 d⟩ = R) → ∀ v v9,
    denK ctx 7 (.loop (Code.at (codeOf Tryd.f7) [1, 1, 1, 0, 1, 0, 0])) ⟨25, gl0, [(1, true, .ptr 150 1 0), (2, true, .ptr 200 1 0), (4, true, .vec 701 v 0 l.length), (5, true, .d (.bool true))], mkE ins vars cells v v9 l⟩ k = R := by
  induction h with
  | last l l1 b d h h2 =>
    intro pins cl r st hg hx v v9
    obtain ⟨hg1, hle⟩ := thrL_good h hg
    have hd : d = l1 ∧ b = false ∧ true ∉ tO l1 l1.length ∧ true ∉ rO l1 ∧ true ∉ jO l1 := by
      rcases round_good hg1 b with ⟨l2, r', st', e, _, _⟩ | ⟨e, a1, a2, a3⟩
      · rw [e] at h2; cases h2
      · rw [e] at h2; cases h2; exact ⟨rfl, rfl, a1, a2, a3⟩
    obtain ⟨rfl, rfl, a1, a2, a3⟩ := hd
    have hr := round_run3 l d false h hg a1 a2
    rw [if_neg a3] at hr
    have hlen := hg1.len
    rw [← hle] at *
    rw [denK_loop]
    simp at hx hr
    simp [Tryd.f7, hr]
    rw [denK_loop]
    simp [hx]
  | more l l1 b l2 d h h2 h3 ih =>
    intro pins cl r st hg hx v v9
    obtain ⟨hg1, hle⟩ := thrL_good h hg
    have hlen := hg1.len
    have hw1 := round_run1 l l1 b h hg
    have hw2 := round_run2 l l1 b h hg
    have hw3 := round_run3 l l1 b h hg
    have hr : (∃ L, callT ctx 16 [.vec 0 0 0 l.length] [.vec 5 (l.map insD)] = some (.ret (.tup [.vec 1 0 0 l2.length, .d (.bool true)]), [(0, .vec 5 (L : List D)), (0, .vec 5 (l2.map insD))])) ∨ (callT ctx 16 [.vec 0 0 0 l.length] [.vec 5 (l.map insD)] = some (.ret (.tup [.vec 0 0 0 l1.length, .d (.bool true)]), [(0, .vec 5 (l1.map insD))]) ∧ l2 = l1) := by
      unfold roundF at h2
      by_cases a1 : true ∈ tO l1 l1.length
      · rw [if_pos a1] at h2
        cases h2
        exact .inl ⟨_, hw1 a1⟩
      · rw [if_neg a1] at h2
        by_cases a2 : true ∈ rO l1
        · rw [if_pos a2] at h2
          cases h2
          exact .inl ⟨_, hw2 a1 a2⟩
        · rw [if_neg a2] at h2
          have hw3 := hw3 a1 a2
          by_cases a3 : true ∈ jO l1
          · rw [if_pos a3] at h2 hw3
            cases h2
            exact .inl ⟨_, hw3⟩
          · rw [if_neg a3] at h2 hw3
            cases h2
            exact .inr ⟨hw3, rfl⟩
    have hg2 : ∃ r' st', Good pins cl l2 r' st' := by
      rcases round_good hg1 b with ⟨l3, r', st', e, g3, _⟩ | ⟨e, _, _, _⟩
      · rw [e] at h2; cases h2; exact ⟨_, _, g3⟩
      · rw [e] at h2; cases h2; exact ⟨_, _, hg1⟩
    obtain ⟨r', st', hg2⟩ := hg2
    have ih := ih hg2 hx
    clear hx hw1 hw2 hw3
    rw [denK_loop]
    rcases hr with ⟨L, hr⟩ | ⟨hr, rfl⟩
    · try simp at hr
      simp [Tryd.f7] at ih ⊢
      simp [hr, ih]
    · try simp at hr
      simp [Tryd.f7] at ih ⊢
      simp [hr, ih]
theorem make_run (pins : Int → Nat) (hp : PinsOk 38 pins) (ins d : List Ins) (vars cells : Int) (hok : okCode pins ins vars cells = true) (hm : Made ins d) : callT ctx 7 [.d (codeD ins vars cells)] [] = some (.ret (.tup [.d (codeD d vars cells), .d (.int .i64 0)]), []) := by
  obtain ⟨_, r, st, hg⟩ := good_of hok
  have hlen := hg.len
  have hc := checkCode_run pins hp ins vars cells (by omega)
  have hcl := cloneI_run ins (by omega) (by omega)
  have hloop := fun k R hx => make_loop ins vars cells k R ins d hm hg hx
  rw [run7 (by simp)]
  rw [hok] at hc
  simp at hc hcl
  simp [Tryd.f7] at hloop
  simp [Tryd.f7, hc, hcl]
  rw [hloop]
  intro v v9
  simp
theorem make_bad (pins : Int → Nat) (hp : PinsOk 38 pins) (ins : List Ins) (vars cells : Int) (hl : ins.length ≤ 5000) (hok : okCode pins ins vars cells = false) : callT ctx 7 [.d (codeD ins vars cells)] [] = some (.ret (.tup [.d (codeD [] 0 0), .d (.int .i64 1)]), []) := by
  have hc := checkCode_run pins hp ins vars cells hl
  rw [run7 (by simp)]
  rw [hok] at hc
  simp at hc
  simp [Tryd.f7, hc]
end Go.Am
end
section
namespace Go.Am
open Go Go.Proofs
def ledS (l : List Ins) (p : List Bool × Bool) (i : Nat) : List Bool × Bool :=
  match l[i]? with
  | none => p
  | some x => if p.1.getD i false = true then
      let p1 := if jB x = true ∧ p.1.getD x.a.toNat false = false then (p.1.set x.a.toNat true, true) else p
      if x.op ≠ 9 ∧ x.op ≠ 15 ∧ p1.1.getD (i + 1) false = false then (p1.1.set (i + 1) true, true) else p1
    else p
def ledP (l : List Ins) : List Nat → List Bool × Bool → List Bool × Bool
  | [], p => p
  | i :: r, p => ledP l r (ledS l p i)
theorem left_get {S : List Bool} {a : Nat} (h : a < S.length) (h2 : S.getD a false = false) : leftN (S.set a true) + 1 = leftN S := leftN_set S a (by
  rw [List.getD_eq_getElem?_getD, List.getElem?_eq_getElem h] at h2
  rw [List.getElem?_eq_getElem h]
  simpa using h2)
theorem ledS_len (l : List Ins) (p : List Bool × Bool) (i : Nat) : (ledS l p i).1.length = p.1.length := by
  unfold ledS
  split
  · rfl
  · split
    · simp only
      split
      · split <;> simp
      · split <;> simp
    · rfl
theorem ledS_left {pins cells l r st} (hg : Good pins cells l r st) (p : List Bool × Bool) (i : Nat) (hp : p.1.length = l.length + 1) : (ledS l p i).1 = p.1 ∧ (ledS l p i).2 = p.2 ∨ (leftN (ledS l p i).1 < leftN p.1 ∧ (ledS l p i).2 = true) := by
  unfold ledS
  split
  · exact .inl ⟨rfl, rfl⟩
  · rename_i x hx
    have hi := (List.getElem?_eq_some_iff.1 hx).1
    split
    · simp only
      by_cases c1 : jB x = true ∧ p.1.getD x.a.toNat false = false
      · have ht := hg.tgt hx (jB_iff.1 c1.1)
        have h1 := left_get (S := p.1) (a := x.a.toNat) (by omega) c1.2
        rw [if_pos c1]
        split
        · rename_i c2
          have h2 := left_get (S := p.1.set x.a.toNat true) (a := i + 1) (by simp; omega) c2.2.2
          right
          refine ⟨?_, rfl⟩
          simp only
          omega
        · right
          refine ⟨?_, rfl⟩
          simp only
          omega
      · rw [if_neg c1]
        split
        · rename_i c2
          have h2 := left_get (S := p.1) (a := i + 1) (by omega) c2.2.2
          right
          refine ⟨?_, rfl⟩
          simp only
          omega
        · exact .inl ⟨rfl, rfl⟩
    · exact .inl ⟨rfl, rfl⟩
theorem ledP_len (l : List Ins) : ∀ (is : List Nat) (p : List Bool × Bool), (ledP l is p).1.length = p.1.length
  | [], p => rfl
  | i :: r, p => by rw [ledP, ledP_len l r, ledS_len]
theorem ledP_left {pins cells l r st} (hg : Good pins cells l r st) : ∀ (is : List Nat) (p : List Bool × Bool), p.1.length = l.length + 1 → ((ledP l is p).1 = p.1 ∧ (ledP l is p).2 = p.2 ∧ ∀ i ∈ is, (ledS l p i).1 = p.1 ∧ (ledS l p i).2 = p.2) ∨ (leftN (ledP l is p).1 < leftN p.1 ∧ (ledP l is p).2 = true)
  | [], p, _ => .inl ⟨rfl, rfl, fun i h => by simp at h⟩
  | i :: r, p, hp => by
    rw [ledP]
    rcases ledS_left hg p i hp with ⟨h1, h2⟩ | ⟨h1, h2⟩
    · have e : ledS l p i = p := Prod.ext h1 h2
      rw [e]
      rcases ledP_left hg r p hp with ⟨k1, k2, k3⟩ | ⟨k1, k2⟩
      · refine .inl ⟨k1, k2, fun j hj => ?_⟩
        rcases List.mem_cons.1 hj with rfl | hj
        · rw [e]; exact ⟨rfl, rfl⟩
        · exact k3 j hj
      · exact .inr ⟨k1, k2⟩
    · rcases ledP_left hg r (ledS l p i) (by rw [ledS_len]; exact hp) with ⟨k1, k2, k3⟩ | ⟨k1, k2⟩
      · right; exact ⟨by rw [k1]; exact h1, by rw [k2]; exact h2⟩
      · right; exact ⟨by omega, k2⟩
/-- A pass that changes nothing: what is led is closed. -/
theorem led_closed {pins cells l r st} (hg : Good pins cells l r st) {S : List Bool} (hS : S.length = l.length + 1) (h0 : S[0]? = some true) (h : (ledP l (List.range l.length) (S, false)).2 = false) : ∀ i, Reach l i → S[i]? = some true := by
  have hst : ∀ i < l.length, (ledS l (S, false) i).2 = false := by
    intro i hi
    rcases ledP_left hg (List.range l.length) (S, false) hS with ⟨_, _, k⟩ | ⟨_, k⟩
    · exact (k i (by simpa using hi)).2
    · rw [h] at k; cases k
  intro i hi
  induction hi with
  | zero => exact h0
  | @step i j hi hj ih =>
    have hil := reach_in hg hi
    have hjl := nextI_in hg hil hj
    have hx : l[i]? = some l[i] := by simp [hil]
    have hs := hst i hil
    have hgi : S.getD i false = true := by rw [List.getD_eq_getElem?_getD, ih]; rfl
    have fin : S.getD j false = true → S[j]? = some true := by
      intro hh
      rw [List.getD_eq_getElem?_getD, List.getElem?_eq_getElem (by omega)] at hh
      rw [List.getElem?_eq_getElem (by omega)]
      simpa using hh
    apply fin
    cases hq : S.getD j false with
    | true => rfl
    | false =>
      exfalso
      unfold ledS at hs
      rw [hx] at hs
      simp only [hgi, if_true] at hs
      by_cases c1 : jB l[i] = true ∧ S.getD l[i].a.toNat false = false
      · rw [if_pos c1] at hs
        simp only at hs
        split at hs <;> cases hs
      · rw [if_neg c1] at hs
        simp only at hs
        by_cases c2 : l[i].op ≠ 9 ∧ l[i].op ≠ 15 ∧ S.getD (i + 1) false = false
        · rw [if_pos c2] at hs; cases hs
        · unfold nextI at hj
          rw [hx] at hj
          simp only at hj
          by_cases e9 : l[i].op = 9
          · simp [e9] at hj
            subst hj
            exact c1 ⟨by simp [jB, e9], hq⟩
          · by_cases e15 : l[i].op = 15
            · simp [e15] at hj
            · by_cases e10 : l[i].op = 10
              · simp [e10] at hj
                rcases hj with rfl | rfl
                · exact c2 ⟨e9, e15, hq⟩
                · exact c1 ⟨by simp [jB, e10], hq⟩
              · simp [e9, e10, e15] at hj
                subst hj
                exact c2 ⟨e9, e15, hq⟩
end Go.Am
end
section
namespace Go.Am
open Go Go.Proofs
set_option maxRecDepth 20000
theorem getD_of {S : List Bool} {i : Nat} (h : i < S.length) : S.getD i false = S[i] := by
  rw [List.getD_eq_getElem?_getD, List.getElem?_eq_getElem h]; rfl
section
variable (l : List Ins) (vars cells : Int) (e1 e4 e5 : Ent) (h1 : e1.key = 150) (h4 : e4.key = 650) (h5 : e5.key = 700)
@[simp] def ldM (v5 : Nat) (c5 : Cont) (S : List Bool) : Mem := [e1, ⟨250, 1, .box [.d (.list (l.map insD)), .d (.int .i64 vars), .d (.int .i64 cells)]⟩, ⟨550, v5, c5⟩, e4, e5, ⟨1700, 1, .vec 1 (bD S)⟩]
include h1 h4 h5
set_option maxHeartbeats 4000000 in
theorem led_inner {pins cl r st} (hg : Good pins cl l r st) (k : Kt) (R : Ans) : ∀ (m i : Nat) (S : List Bool) (more : Bool), i + m = l.length → S.length = l.length + 1 →
    (∀ v5 c5, PlnC c5 → k (.exit 2) ⟨185, gl0, [(3, true, .ptr 250 1 0), (5, true, .d (.int .i64 l.length)), (6, true, .vec 1700 1 0 (l.length + 1)), (7, true, .d (.bool (ledP l (List.range' i m) (S, more)).2)), (8, true, .d (.int .i64 l.length)), (38, true, .d (.bool false))], ldM l vars cells e1 e4 e5 v5 c5 (ledP l (List.range' i m) (S, more)).1⟩ = R) →
    ∀ v5 c5, PlnC c5 → denK ctx 3 (.loop (Code.at (codeOf Tryd.f3) [1, 1, 1, 1, 1, 1, 1, 1, 0, 1, 0, 0, 1, 0, 1, 1, 0, 0])) ⟨185, gl0, [(3, true, .ptr 250 1 0), (5, true, .d (.int .i64 l.length)), (6, true, .vec 1700 1 0 (l.length + 1)), (7, true, .d (.bool more)), (8, true, .d (.int .i64 i))], ldM l vars cells e1 e4 e5 v5 c5 S⟩ k = R
  | 0, i, S, more, hi, hS, hx, v5, c5, hc => by
    have : i = l.length := by omega
    subst this
    have hx := hx v5 c5 hc
    rw [denK_loop]
    simp [ledP] at hx
    simp [Tryd.f3, hx]
  | m + 1, i, S, more, hi, hS, hx, v5, c5, hc => by
    have hlen := hg.len
    have hi0 : i < l.length := by omega
    have hiS : i < S.length := by omega
    have hi1 : i < l.length + 1 := by omega
    have hxi : l[i]? = some l[i] := by simp [hi0]
    have w1 : IntKind.i64.wrap ((i : Int) + 1) = (i : Int) + 1 := wrap_id (by unfold I64; omega)
    have b3 : ¬ ((i : Int) + 1 < 0) := by omega
    have b4 : 0 ≤ (i : Int) + 1 := by omega
    rw [List.range'_succ, ledP] at hx
    have ih := fun (S2 : List Bool) (m2 : Bool) (hs : ledS l (S, more) i = (S2, m2)) => led_inner hg k R m (i + 1) S2 m2 (by omega) (by have := ledS_len l (S, more) i; rw [hs] at this; rw [this]; exact hS) (by rw [hs] at hx; exact hx)
    clear hx
    have hgi := getD_of hiS
    have hunf : ledS l (S, more) i = if S[i] = true then
      let p1 := if jB l[i] = true ∧ S.getD l[i].a.toNat false = false then (S.set l[i].a.toNat true, true) else (S, more)
      if l[i].op ≠ 9 ∧ l[i].op ≠ 15 ∧ p1.1.getD (i + 1) false = false then (p1.1.set (i + 1) true, true) else p1
      else (S, more) := by unfold ledS; rw [hxi]; simp only [hgi]
    have htg := fun hj => hg.tgt hxi hj
    have h15 : l[i].op ≠ 15 → i + 1 < l.length := fun h => by
      have : ¬ i + 1 = l.length := fun e => h ((hg.fifteen hxi).2 e)
      omega
    cases hq : S[i]
    · have ih := ih S more (by rw [hunf, hq]; simp)
      rw [denK_loop]
      simp [Tryd.f3] at ih ⊢
      simp [hi0, hiS, hi1, hS, hq, w1, h1, h4, h5, pln5, ih]
    rw [hq, if_pos rfl] at hunf
    obtain ⟨x, hxe⟩ : ∃ x, l[i] = x := ⟨_, rfl⟩
    rw [hxe] at hunf htg h15
    by_cases e9 : x.op = 9
    · obtain ⟨a1, a2⟩ := htg (.inl e9)
      have a3 : x.a.toNat < S.length := by omega
      have a4 : x.a.toNat < l.length + 1 := by omega
      have a5 : x.a < (l.length : Int) + 1 := by omega
      have hjb : jB x = true := by simp [jB, e9]
      rw [getD_of a3] at hunf
      cases hq2 : S[x.a.toNat]
      · have ih := ih (S.set x.a.toNat true) true (by rw [hunf]; simp [hjb, hq2, e9])
        rw [denK_loop]
        simp [Tryd.f3, e9] at ih ⊢
        simp [hi0, hiS, hi1, hS, hq, hq2, a1, a2, a3, a4, a5, hxe, w1, h1, h4, h5, pln5, e9, drwK_end, ih]
      · have ih := ih S more (by rw [hunf]; simp [hjb, hq2, e9])
        rw [denK_loop]
        simp [Tryd.f3, e9] at ih ⊢
        simp [hi0, hiS, hi1, hS, hq, hq2, a1, a2, a3, a4, a5, hxe, w1, h1, h4, h5, pln5, e9, drwK_end, ih]
    by_cases e10 : x.op = 10
    · obtain ⟨a1, a2⟩ := htg (.inr e10)
      have a3 : x.a.toNat < S.length := by omega
      have a4 : x.a.toNat < l.length + 1 := by omega
      have a5 : x.a < (l.length : Int) + 1 := by omega
      have b1 : i + 1 < l.length := h15 (by omega)
      have b2 : i + 1 < l.length + 1 := by omega
      have b5 : (i : Int) + 1 < (l.length : Int) + 1 := by omega
      have hjb : jB x = true := by simp [jB, e10]
      rw [getD_of a3] at hunf
      have hS1 : (S.set x.a.toNat true).length = l.length + 1 := by simpa using hS
      have hs1 : (S.map D.bool).set x.a.toNat (.bool true) = (S.set x.a.toNat true).map D.bool := by simp
      cases hq2 : S[x.a.toNat]
      · rw [hq2] at hunf
        simp only [hjb, true_and, if_true] at hunf
        have b6 : i + 1 < (S.set x.a.toNat true).length := by omega
        rw [getD_of b6] at hunf
        generalize S.set x.a.toNat true = S1 at *
        cases hq3 : S1[i + 1]
        · have ih := ih (S1.set (i + 1) true) true (by rw [hunf]; simp [hq3, e10])
          rw [denK_loop]
          simp [Tryd.f3, e10] at ih ⊢
          simp [hi0, hiS, hi1, hS, hq, hq2, hq3, a1, a2, a3, a4, a5, b1, b2, b3, b4, b5, b6, hxe, w1, h1, h4, h5, hs1, hS1, pln5, e10, drwK_end, ih]
        · have ih := ih S1 true (by rw [hunf]; simp [hq3, e10])
          rw [denK_loop]
          simp [Tryd.f3, e10] at ih ⊢
          simp [hi0, hiS, hi1, hS, hq, hq2, hq3, a1, a2, a3, a4, a5, b1, b2, b3, b4, b5, b6, hxe, w1, h1, h4, h5, hs1, hS1, pln5, e10, drwK_end, ih]
      · rw [hq2] at hunf
        have b6 : i + 1 < S.length := by omega
        have hunf2 : ledS l (S, more) i = if S[i + 1] = false then (S.set (i + 1) true, true) else (S, more) := by
          rw [hunf, ← getD_of b6]; simp [e10]
        cases hq3 : S[i + 1]
        · have ih := ih (S.set (i + 1) true) true (by rw [hunf2]; simp [hq3])
          rw [denK_loop]
          simp [Tryd.f3, e10] at ih ⊢
          simp [hi0, hiS, hi1, hS, hq, hq2, hq3, a1, a2, a3, a4, a5, b1, b2, b3, b4, b5, b6, hxe, w1, h1, h4, h5, pln5, e10, drwK_end, ih]
        · have ih := ih S more (by rw [hunf2]; simp [hq3])
          rw [denK_loop]
          simp [Tryd.f3, e10] at ih ⊢
          simp [hi0, hiS, hi1, hS, hq, hq2, hq3, a1, a2, a3, a4, a5, b1, b2, b3, b4, b5, b6, hxe, w1, h1, h4, h5, pln5, e10, drwK_end, ih]
    have hjb : jB x = false := by simp [jB, e9, e10]
    by_cases e15 : x.op = 15
    · have ih := ih S more (by rw [hunf]; simp [hjb, e15])
      rw [denK_loop]
      simp [Tryd.f3, e15] at ih ⊢
      simp [hi0, hiS, hi1, hS, hq, b3, b4, hxe, w1, h1, h4, h5, pln5, e15, drwK_end, ih]
    · have b1 : i + 1 < l.length := h15 e15
      have b2 : i + 1 < l.length + 1 := by omega
      have b5 : (i : Int) + 1 < (l.length : Int) + 1 := by omega
      have b6 : i + 1 < S.length := by omega
      have hunf2 : ledS l (S, more) i = if S[i + 1] = false then (S.set (i + 1) true, true) else (S, more) := by
        rw [hunf, ← getD_of b6]; simp [hjb, e9, e15]
      cases hq3 : S[i + 1]
      · have ih := ih (S.set (i + 1) true) true (by rw [hunf2]; simp [hq3])
        rw [denK_loop]
        simp [Tryd.f3] at ih ⊢
        simp [hi0, hiS, hi1, hS, hq, hq3, b1, b2, b3, b4, b5, b6, hxe, w1, h1, h4, h5, pln5, e9, e10, e15, drwK_end, ih]
      · have ih := ih S more (by rw [hunf2]; simp [hq3])
        rw [denK_loop]
        simp [Tryd.f3] at ih ⊢
        simp [hi0, hiS, hi1, hS, hq, hq3, b1, b2, b3, b4, b5, b6, hxe, w1, h1, h4, h5, pln5, e9, e10, e15, drwK_end, ih]
end
end Go.Am
end
section
namespace Go.Am
open Go Go.Proofs
set_option maxRecDepth 20000
theorem set_keep {S : List Bool} {a b : Nat} (h : S[a]? = some true) : (S.set b true)[a]? = some true := by
  rw [List.getElem?_set]
  split
  · rename_i e
    subst e
    rw [if_pos (List.getElem?_eq_some_iff.1 h).1]
  · exact h
theorem ledS_keep (l : List Ins) (p : List Bool × Bool) (i a : Nat) (h : p.1[a]? = some true) : (ledS l p i).1[a]? = some true := by
  unfold ledS
  split
  · exact h
  · split
    · simp only
      split
      · split
        · exact set_keep (set_keep h)
        · exact set_keep h
      · split
        · exact set_keep h
        · exact h
    · exact h
theorem ledP_keep (l : List Ins) (a : Nat) : ∀ (is : List Nat) (p : List Bool × Bool), p.1[a]? = some true → (ledP l is p).1[a]? = some true
  | [], p, h => h
  | i :: r, p, h => by rw [ledP]; exact ledP_keep l a r _ (ledS_keep l p i a h)
section
variable (l : List Ins) (vars cells : Int) (e1 e4 e5 : Ent) (h1 : e1.key = 150) (h4 : e4.key = 650) (h5 : e5.key = 700)
include h1 h4 h5
theorem led_outer {pins cl r st} (hg : Good pins cl l r st) (k : Kt) (R : Ans)
    (hx : ∀ S v5 c5, PlnC c5 → S.length = l.length + 1 → (∀ i, Reach l i → S[i]? = some true) → k (.exit 0) ⟨185, gl0, [(3, true, .ptr 250 1 0), (5, true, .d (.int .i64 l.length)), (6, true, .vec 1700 1 0 (l.length + 1)), (35, true, .d (.bool false))], ldM l vars cells e1 e4 e5 v5 c5 S⟩ = R) :
    ∀ (m : Nat) (S : List Bool), leftN S < m → S.length = l.length + 1 → S[0]? = some true → ∀ v5 c5 (X : Env), PlnC c5 → X = [] ∨ X = [(8, true, .d (.int .i64 l.length)), (38, true, .d (.bool false))] →
    denK ctx 3 (.loop (Code.at (codeOf Tryd.f3) [1, 1, 1, 1, 1, 1, 1, 1, 0, 1, 0, 0])) ⟨185, gl0, (3, true, .ptr 250 1 0) :: (5, true, .d (.int .i64 l.length)) :: (6, true, .vec 1700 1 0 (l.length + 1)) :: (7, true, .d (.bool true)) :: X, ldM l vars cells e1 e4 e5 v5 c5 S⟩ k = R := by
  intro m
  induction m with
  | zero => intro S h; omega
  | succ m ih =>
    intro S hm hS h0 v5 c5 X hc hX
    have hin := fun k hx => led_inner l vars cells e1 e4 e5 h1 h4 h5 hg k R l.length 0 S false (by omega) hS hx v5 c5 hc
    rw [← List.range_eq_range'] at hin
    have hpl := ledP_len l (List.range l.length) (S, false)
    rcases ledP_left hg (List.range l.length) (S, false) hS with ⟨k1, k2, _⟩ | ⟨k1, k2⟩
    · have hcl := led_closed hg hS h0 k2
      rw [k1, k2] at hin
      have hx := fun v5 c5 hc => hx S v5 c5 hc hS hcl
      rw [denK_loop]
      simp [Tryd.f3] at hin hx
      rcases hX with rfl | rfl
      all_goals
        simp [Tryd.f3]
        rw [hin]
        intro v5 c5 hc
        simp
        rw [denK_loop]
        simp [hx v5 c5 hc]
    · rw [k2] at hin
      have ih := fun v5 c5 hc => ih (ledP l (List.range l.length) (S, false)).1 (by simp only at k1; omega) (by rw [hpl]; exact hS) (by
        have hcl : (ledP l (List.range l.length) (S, false)).1[0]? = some true := by
          exact ledP_keep l 0 _ _ h0
        exact hcl) v5 c5 [(8, true, .d (.int .i64 l.length)), (38, true, .d (.bool false))] hc (.inr rfl)
      generalize (ledP l (List.range l.length) (S, false)).1 = S2 at *
      rw [denK_loop]
      simp [Tryd.f3] at hin ih
      rcases hX with rfl | rfl
      all_goals
        simp [Tryd.f3]
        rw [hin]
        intro v5 c5 hc
        simp
        exact ih v5 c5 hc
omit h4 in
set_option maxHeartbeats 2000000 in
theorem chk_loop {pins cl r st} (hg : Good pins cl l r st) (hcl : Clean l) (S : List Bool) (hS : S.length = l.length + 1) (hre : ∀ i, Reach l i → S[i]? = some true) (e3 : Ent) (h3 : e3.key = 550) (k : Kt) (R : Ans)
    (hx : ∀ v4 c4, PlnC c4 → k (.exit 4) ⟨185, gl0, [(3, true, .ptr 250 1 0), (5, true, .d (.int .i64 l.length)), (6, true, .vec 1700 1 0 (l.length + 1)), (10, true, .d (.int .i64 l.length)), (93, true, .d (.bool false))], [e1, ⟨250, 1, .box [.d (.list (l.map insD)), .d (.int .i64 vars), .d (.int .i64 cells)]⟩, e3, ⟨650, v4, c4⟩, e5, ⟨1700, 1, .vec 1 (bD S)⟩]⟩ = R) :
    ∀ (m i v4 : Nat) (c4 : Cont), PlnC c4 → i + m = l.length → denK ctx 3 (.loop (Code.at (codeOf Tryd.f3) [1, 1, 1, 1, 1, 1, 1, 1, 1, 0, 1, 0, 0])) ⟨185, gl0, [(3, true, .ptr 250 1 0), (5, true, .d (.int .i64 l.length)), (6, true, .vec 1700 1 0 (l.length + 1)), (10, true, .d (.int .i64 i))], [e1, ⟨250, 1, .box [.d (.list (l.map insD)), .d (.int .i64 vars), .d (.int .i64 cells)]⟩, e3, ⟨650, v4, c4⟩, e5, ⟨1700, 1, .vec 1 (bD S)⟩]⟩ k = R
  | 0, i, v4, c4, hc, hi => by
    have : i = l.length := by omega
    subst this
    have hx := hx v4 c4 hc
    rw [denK_loop]
    simp at hx
    simp [Tryd.f3, hx]
  | m + 1, i, v4, c4, hc, hi => by
    have ih := fun v4 c4 hc => chk_loop hg hcl S hS hre e3 h3 k R hx m (i + 1) v4 c4 hc (by omega)
    clear hx
    have hlen := hg.len
    have hi0 : i < l.length := by omega
    have hiS : i < S.length := by omega
    have hi1 : i < l.length + 1 := by omega
    have hxi : l[i]? = some l[i] := by simp [hi0]
    have w1 : IntKind.i64.wrap ((i : Int) + 1) = (i : Int) + 1 := wrap_id (by unfold I64; omega)
    have w2 : IntKind.i64.wrap ((l.length : Int) - 1) = (l.length : Int) - 1 := wrap_id (by unfold I64; omega)
    have b3 : ¬ ((i : Int) + 1 < 0) := by omega
    have b4 : 0 ≤ (i : Int) + 1 := by omega
    have hrd : (i : Int) < (l.length : Int) - 1 → S[i] = true := by
      intro h
      have := hre i (hcl.reach (by omega))
      simpa [hiS] using this
    have hnx := hcl.next hxi
    have hthr := hcl.thr i
    have htg := fun hj => hg.tgt hxi hj
    have hnp := hcl.noP i
    have h15 := hg.fifteen hxi
    obtain ⟨x, hxe⟩ : ∃ x, l[i] = x := ⟨_, rfl⟩
    rw [hxe] at hnx htg h15 hxi
    have hb : ∀ {P : Prop}, ((i : Int) < (l.length : Int) - 1 → S[i] = true) → ((i : Int) < (l.length : Int) - 1 ∧ S[i] = false → P) := fun h ⟨h1, h2⟩ => by rw [h h1] at h2; cases h2
    have hfin : ∀ (y : Nat), IntKind.i64.wrap ((i : Int) + 1) = (i : Int) + 1 := fun _ => w1
    by_cases hl : i + 1 < l.length
    · have c1 : (i : Int) + 1 < l.length := by omega
      have c2 : (i : Int) < (l.length : Int) - 1 := by omega
      have hsi := hrd c2
      have hyi : l[i + 1]? = some l[i + 1] := by simp [hl]
      obtain ⟨y, hye⟩ : ∃ y, l[i + 1] = y := ⟨_, rfl⟩
      rw [hye] at hyi
      have hp : ¬ (x.op = 1 ∧ y.op = 10 ∧ (x.n = 0 ∨ x.n = 1)) := fun hp => by
        rw [isP_iff.2 ⟨x, y, hxi, hyi, hp⟩] at hnp; cases hnp
      by_cases e9 : x.op = 9
      · obtain ⟨a1, a2⟩ := htg (.inl e9)
        have hz := hthr x l[x.a.toNat] hxi (.inl e9) (by simp [a2])
        have a3 : x.a < (l.length : Int) := by omega
        have hna : ¬ x.a = (i : Int) + 1 := fun h => hnx ⟨e9, h⟩
        rw [denK_loop]
        simp [Tryd.f3, e9] at ih ⊢
        simp [hi0, hiS, hi1, hS, hsi, hxe, hye, hl, a1, a2, a3, hz, hna, c1, c2, w1, w2, b3, b4, h1, h3, h5, pln5, e9, drwK_end, ih]
      · by_cases e10 : x.op = 10
        · obtain ⟨a1, a2⟩ := htg (.inr e10)
          have hz := hthr x l[x.a.toNat] hxi (.inr e10) (by simp [a2])
          have a3 : x.a < (l.length : Int) := by omega
          rw [denK_loop]
          simp [Tryd.f3, e10] at ih ⊢
          simp [hi0, hiS, hi1, hS, hsi, hxe, hye, hl, a1, a2, a3, hz, c1, c2, w1, w2, b3, b4, h1, h3, h5, pln5, e10, drwK_end, ih]
        · by_cases e1' : x.op = 1
          · by_cases n0 : x.n = 0
            · have hy10 : ¬ y.op = 10 := fun h => hp ⟨e1', h, .inl n0⟩
              rw [denK_loop]
              simp [Tryd.f3] at ih ⊢
              simp [hi0, hiS, hi1, hS, hsi, hxe, hye, hl, e1', n0, hy10, c1, c2, w1, w2, b3, b4, h1, h3, h5, pln5, drwK_end, ih]
            · by_cases n1 : x.n = 1
              · have hy10 : ¬ y.op = 10 := fun h => hp ⟨e1', h, .inr n1⟩
                rw [denK_loop]
                simp [Tryd.f3] at ih ⊢
                simp [hi0, hiS, hi1, hS, hsi, hxe, hye, hl, e1', n0, n1, hy10, c1, c2, w1, w2, b3, b4, h1, h3, h5, pln5, drwK_end, ih]
              · rw [denK_loop]
                simp [Tryd.f3] at ih ⊢
                simp [hi0, hiS, hi1, hS, hsi, hxe, hye, hl, e1', n0, n1, c1, c2, w1, w2, b3, b4, h1, h3, h5, pln5, drwK_end, ih]
          · rw [denK_loop]
            simp [Tryd.f3] at ih ⊢
            simp [hi0, hiS, hi1, hS, hsi, hxe, hye, hl, e1', e9, e10, c1, c2, w1, w2, b3, b4, h1, h3, h5, pln5, drwK_end, ih]
    · have e15 : x.op = 15 := h15.2 (by omega)
      have c1 : ¬ (i : Int) + 1 < l.length := by omega
      have c2 : ¬ (i : Int) < (l.length : Int) - 1 := by omega
      rw [denK_loop]
      simp [Tryd.f3, e15] at ih ⊢
      simp [hi0, hiS, hi1, hS, hxe, c1, c2, w1, w2, b3, b4, h1, h3, h5, pln5, e15, drwK_end, ih]
end
end Go.Am
end
section
namespace Go.Am
open Go Go.Proofs
set_option maxRecDepth 20000
theorem awake32_run : callT ctx 6 [] [] = some (.ret (.d (.bool true)), []) := callT_of 300 (by kernel_rfl)
end Go.Am
end
section
namespace Go.Am
open Go Go.Proofs
set_option maxRecDepth 20000
theorem ins_ext (x y : Ins) : x = y ↔ x.op = y.op ∧ x.a = y.a ∧ x.b = y.b ∧ x.n = y.n ∧ x.m = y.m := by
  constructor
  · rintro rfl; simp
  · intro h; cases x; cases y; simp_all
instance : DecidableEq Ins := fun x y => decidable_of_iff _ (ins_ext x y).symm
theorem csame_loop (a b : List Ins) (va ca vb cb : Int) (ha : a.length ≤ 1000000) (hl : a.length = b.length) (k : Kt) (R1 R2 : Ans)
    (h1 : ∀ M, k .ret ⟨45, gl0, [(4, true, .d (.bool false))], M⟩ = R1) (h2 : ∀ (Y : Env) M, k (.exit 0) ⟨45, gl0, Y, M⟩ = R2) : ∀ (ra rb : List Ins) (i : Nat), a.drop i = ra → b.drop i = rb → i + ra.length = a.length →
    denK ctx 8 (.loop (Code.at (codeOf Tryd.f8) [1, 1, 0, 1, 0, 0])) ⟨45, gl0, [(2, true, .ptr 200 1 0), (3, true, .ptr 250 1 0), (5, true, .d (.int .i64 i))],
      [⟨200, 1, .box [.d (.list (a.map insD)), .d (.int .i64 va), .d (.int .i64 ca)]⟩, ⟨250, 1, .box [.d (.list (b.map insD)), .d (.int .i64 vb), .d (.int .i64 cb)]⟩]⟩ k = if ra = rb then R2 else R1
  | [], rb, i, hra, hrb, hi => by
    have hi : i = a.length := by simpa using hi
    subst hi
    have : rb = [] := by rw [← hrb, hl]; simp
    subst this
    rw [denK_loop]
    simp [Tryd.f8, h2]
  | x :: ra, rb, i, hra, hrb, hi => by
    have hlt : i < a.length := by simp at hi; omega
    have hltI : (i : Int) < a.length := by omega
    have hlt2 : i < b.length := by omega
    have hlt2I : (i : Int) < b.length := by omega
    have hx : a[i] = x := by
      have := congrArg (·[0]?) hra
      simp at this
      simpa [hlt] using this
    obtain ⟨y, hy⟩ : ∃ y, y = b[i] := ⟨_, rfl⟩
    have hrb2 : rb = y :: b.drop (i + 1) := by rw [← hrb, hy]; exact List.drop_eq_getElem_cons hlt2
    have ih := csame_loop a b va ca vb cb ha hl k R1 R2 h1 h2 ra (b.drop (i + 1)) (i + 1) (by rw [← List.tail_drop, hra]; rfl) rfl (by simp at hi; omega)
    have w1 : IntKind.i64.wrap ((i : Int) + 1) = (i : Int) + 1 := wrap_id (by unfold I64; omega)
    rw [hrb2, denK_loop]
    simp [Tryd.f8] at ih
    simp [Tryd.f8]
    simp [hlt, hltI, hlt2, hlt2I, hx, ← hy, w1, ih, h1, drwK_end]
    have he := ins_ext x y
    clear ih h1 h2
    by_cases q0 : x.op = y.op <;> by_cases q1 : x.a = y.a <;> by_cases q2 : x.b = y.b <;> by_cases q3 : x.n = y.n <;> by_cases q4 : x.m = y.m <;> simp [q0, q1, q2, q3, q4] at he ⊢ <;> simp [he]
theorem csame_run (a b : List Ins) (va ca vb cb : Int) (ha : a.length ≤ 1000000) : callT ctx 8 [.d (codeD a va ca), .d (codeD b vb cb)] [] = some (.ret (.d (.bool (decide (a = b) && decide (va = vb) && decide (ca = cb)))), []) := by
  rw [run8 (by simp)]
  by_cases hl : a.length = b.length
  · have h := fun k R1 R2 h1 h2 => csame_loop a b va ca vb cb ha hl k R1 R2 h1 h2 a b 0 rfl rfl (by simp)
    simp [Tryd.f8] at h
    by_cases hv : va = vb
    · by_cases hc : ca = cb
      · simp [Tryd.f8, hl, hv, hc]
        rw [hv, hc] at h
        rw [h _ (some (.ret (.d (.bool false)), [])) (some (.ret (.d (.bool true)), [])) (by simp) (by simp)]
        by_cases e : a = b <;> simp [e]
      · simp [Tryd.f8, hl, hv, hc]
    · simp [Tryd.f8, hl, hv]
  · have hI : ¬ ((a.length : Int) = b.length) := by omega
    have hne : a ≠ b := fun h => hl (by rw [h])
    simp [Tryd.f8, hI, hne, hl]
end Go.Am
end
section
namespace Go.Am
open Go Go.Proofs
set_option maxRecDepth 20000
theorem peepDone_run (pins : Int → Nat) (hp : PinsOk 38 pins) (ins : List Ins) (vars cells : Int) : callT ctx 3 [.d (codeD ins vars cells)] [] = some (.ret (.d (.bool true)), []) := by
  have haw := awake32_run
  rw [run3 (by simp)]
  by_cases hl : ins.length ≤ 300
  · have hlI : ¬ (300 < (ins.length : Int)) := by omega
    cases hok : okCode pins ins vars cells
    · have hm := make_bad pins hp ins vars cells (by omega) hok
      simp at haw hm
      simp [Tryd.f3, haw, hlI, hm]
    · obtain ⟨hv, r, st, hg⟩ := good_of hok
      obtain ⟨d, r2, st2, hmade, hg2, hcl, hle⟩ := made_ex (2 * ins.length + 2) ins r st hg (by split <;> omega)
      have hm := make_run pins hp ins d vars cells hok hmade
      have hm2 := make_run pins hp d d vars cells (ok_of hv hg2) hcl.made
      have hsm := csame_run d d vars cells vars cells (by omega)
      have hlen := hg2.len
      have hout := fun e1 e4 e5 h1 h4 h5 k R hx => led_outer d vars cells e1 e4 e5 h1 h4 h5 hg2 k R hx (d.length + 2) ((List.replicate (d.length + 1) false).set 0 true) (by have : leftN ((List.replicate (d.length + 1) false).set 0 true) ≤ ((List.replicate (d.length + 1) false).set 0 true).length := List.countP_le_length; simp at this; omega) (by simp) (by simp) 0 .dead [] (.inl rfl) (.inl rfl)
      have hchk := fun e1 e5 h1 h5 S hS hre e3 h3 k R hx => chk_loop d vars cells e1 e5 h1 h5 hg2 hcl S hS hre e3 h3 k R hx d.length 0 0 .dead (.inl rfl) (by omega)
      have g0 : (0 : Int) ≤ (d.length : Int) + 1 := by omega
      have g1 : d.length + 1 ≤ 140737488355328 ∧ d.length + 1 ≤ 4611686018427387904 := by omega
      have g2 : (d.length : Int) + 1 ≤ 140737488355328 ∧ (d.length : Int) + 1 ≤ 4611686018427387904 := by omega
      have w1 : IntKind.i64.wrap ((d.length : Int) + 1) = (d.length : Int) + 1 := wrap_id (by unfold I64; omega)
      simp at haw hm hm2 hsm
      simp [Tryd.f3] at hout hchk
      simp [Tryd.f3, haw, hlI, hm, g0, g1, g2, w1]
      rw [hout _ _ _ rfl rfl rfl _ (some (.ret (.d (.bool true)), []))]
      intro S v5 c5 hc hS hre
      simp
      rw [hchk _ _ rfl rfl S hS hre ⟨550, v5, c5⟩ rfl _ (some (.ret (.d (.bool true)), []))]
      intro v4 c4 hc4
      rcases hc with rfl | ⟨ds, rfl⟩ <;> rcases hc4 with rfl | ⟨ds, rfl⟩ <;> simp [hm2, hsm, drwK_end]
  · have hlI : 300 < (ins.length : Int) := by omega
    simp [Tryd.f3, haw, hlI]
end Go.Am
end
section
namespace Go.Am
open Go Go.Proofs
set_option maxRecDepth 20000
def retLen : Option (Out × List (Nat × Cont)) → Option Nat
  | some (.ret (.d (.list l)), []) => some l.length
  | _ => none
theorem retLen_some {r : Option (Out × List (Nat × Cont))} {n : Nat} (h : retLen r = some n) : ∃ l, r = some (.ret (.d (.list l)), []) ∧ l.length = n := by
  unfold retLen at h
  split at h
  · rename_i l; exact ⟨l, rfl, by simpa using h⟩
  · cases h
theorem pins_of {f : FuncId} {b : Int} {n : Nat} (h : retLen (callN ctx 120 f [.d (.int .i64 b)] []) = some n) : ∃ l : List D, callT ctx f [.d (.int .i64 b)] [] = some (.ret (.d (.list l)), []) ∧ l.length = n := by
  obtain ⟨l, h1, h2⟩ := retLen_some h
  exact ⟨l, callT_of 120 h1, h2⟩
theorem pins10 : retLen (callN ctx 120 38 [.d (.int .i64 10)] []) = some 4 := by kernel_rfl
theorem pins11 : retLen (callN ctx 120 38 [.d (.int .i64 11)] []) = some 4 := by kernel_rfl
theorem pins12 : retLen (callN ctx 120 38 [.d (.int .i64 12)] []) = some 6 := by kernel_rfl
theorem pins13 : retLen (callN ctx 120 38 [.d (.int .i64 13)] []) = some 6 := by kernel_rfl
theorem pins14 : retLen (callN ctx 120 38 [.d (.int .i64 14)] []) = some 6 := by kernel_rfl
theorem pins15 : retLen (callN ctx 120 38 [.d (.int .i64 15)] []) = some 3 := by kernel_rfl
theorem pins16 : retLen (callN ctx 120 38 [.d (.int .i64 16)] []) = some 3 := by kernel_rfl
theorem pins17 : retLen (callN ctx 120 38 [.d (.int .i64 17)] []) = some 3 := by kernel_rfl
theorem pins18 : retLen (callN ctx 120 38 [.d (.int .i64 18)] []) = some 3 := by kernel_rfl
theorem pins20 : retLen (callN ctx 120 38 [.d (.int .i64 20)] []) = some 4 := by kernel_rfl
theorem pins21 : retLen (callN ctx 120 38 [.d (.int .i64 21)] []) = some 9 := by kernel_rfl
theorem pins22 : retLen (callN ctx 120 38 [.d (.int .i64 22)] []) = some 9 := by kernel_rfl
theorem pins23 : retLen (callN ctx 120 38 [.d (.int .i64 23)] []) = some 9 := by kernel_rfl
theorem pins24 : retLen (callN ctx 120 38 [.d (.int .i64 24)] []) = some 12 := by kernel_rfl
theorem pins25 : retLen (callN ctx 120 38 [.d (.int .i64 25)] []) = some 12 := by kernel_rfl
theorem pins26 : retLen (callN ctx 120 38 [.d (.int .i64 26)] []) = some 12 := by kernel_rfl
theorem pins27 : retLen (callN ctx 120 38 [.d (.int .i64 27)] []) = some 10 := by kernel_rfl
theorem pins28 : retLen (callN ctx 120 38 [.d (.int .i64 28)] []) = some 12 := by kernel_rfl
theorem pins29 : retLen (callN ctx 120 38 [.d (.int .i64 29)] []) = some 5 := by kernel_rfl
theorem pins30 : retLen (callN ctx 120 38 [.d (.int .i64 30)] []) = some 6 := by kernel_rfl
theorem pins31 : retLen (callN ctx 120 38 [.d (.int .i64 31)] []) = some 4 := by kernel_rfl
def kindsL : List Int := [10, 11, 12, 13, 14, 15, 16, 17, 18, 20, 21, 22, 23, 24, 25, 26, 27, 28, 29, 30, 31]
def pinsN (b : Int) : Nat :=
  if b = 10 then 4 else if b = 11 then 4 else if b = 12 then 6 else if b = 13 then 6 else if b = 14 then 6 else if b = 15 then 3 else if b = 16 then 3 else if b = 17 then 3 else if b = 18 then 3 else if b = 20 then 4 else if b = 21 then 9 else if b = 22 then 9 else if b = 23 then 9 else if b = 24 then 12 else if b = 25 then 12 else if b = 26 then 12 else if b = 27 then 10 else if b = 28 then 12 else if b = 29 then 5 else if b = 30 then 6 else if b = 31 then 4 else 0
def sheetOf : D → Option Int
  | .agg [.int .i64 k, .str _, .str _, .str _, .int .i64 _] => some k
  | _ => none
theorem sheetOf_some {d : D} {k : Int} (h : sheetOf d = some k) : ∃ a b c n, d = .agg [.int .i64 k, .str a, .str b, .str c, .int .i64 n] := by
  unfold sheetOf at h
  split at h
  · rename_i k' a b c n
    cases h
    exact ⟨a, b, c, n, rfl⟩
  · cases h
def sheetsOf : Option (Out × List (Nat × Cont)) → Option (List (Option Int))
  | some (.ret (.d (.list l)), []) => some (l.map sheetOf)
  | _ => none
theorem sheets_n : sheetsOf (callN ctx 120 79 [] []) = some (kindsL.map some) := by kernel_rfl
theorem sheets_run : ∃ l : List D, callT ctx 79 [] [] = some (.ret (.d (.list l)), []) ∧ l.map sheetOf = kindsL.map some := by
  have h := sheets_n
  generalize hr : callN ctx 120 79 [] [] = r at h
  unfold sheetsOf at h
  split at h
  · rename_i l
    exact ⟨l, callT_of 120 hr, by simpa using h⟩
  · cases h
theorem sheet1_run (d : D) (k b : Int) (hd : sheetOf d = some k) : callT ctx 81 [.d d, .ptr 0 0 0] [.box [.d (.int .i64 b)]] = some (.ret (.d (.bool (decide (k = b)))), [(0, .box [.d (.int .i64 b)])]) := by
  obtain ⟨a, e, c, n, rfl⟩ := sheetOf_some hd
  rw [run81 (by simp)]
  simp [Tryd.f81]
theorem sheetIdx_loop (b : Int) : ∀ (rest pre : List D), (∀ d ∈ rest, ∃ k, sheetOf d = some k ∧ k ≠ b) → (pre ++ rest).length < 1000 → ∀ k : Kt,
    denK ctx 80 (.loop (Code.at (codeOf Tryd.f80) [1, 0, 1, 0, 0])) ⟨19, gl0, [(0, true, .d (.list (pre ++ rest))), (1, true, .fn 81 [.ptr 0 0 0]), (7, true, .d (.int .i64 (pre ++ rest).length)), (8, true, .d (.int .i64 pre.length))], [⟨0, 0, .box [.d (.int .i64 b)]⟩]⟩ k =
      k (.exit 0) ⟨19, gl0, [(0, true, .d (.list (pre ++ rest))), (1, true, .fn 81 [.ptr 0 0 0]), (7, true, .d (.int .i64 (pre ++ rest).length)), (8, true, .d (.int .i64 (pre ++ rest).length)), (9, true, .d (.bool false))], [⟨0, 0, .box [.d (.int .i64 b)]⟩]⟩
  | [], pre, h, hl, k => by
    rw [denK_loop]
    simp [Tryd.f80]
  | d :: rest, pre, h, hl, k => by
    obtain ⟨kd, hk, hne⟩ := h d (by simp)
    have hs := sheet1_run d kd b hk
    obtain ⟨a1, a2, a3, a4, rfl⟩ := sheetOf_some hk
    have ih := sheetIdx_loop b rest (pre ++ [.agg [.int .i64 kd, .str a1, .str a2, .str a3, .int .i64 a4]]) (fun d hd => h d (by simp [hd])) (by simpa using hl) k
    have h1 : (pre.length : Int) < pre.length + (rest.length + 1) := by omega
    have h2 : IntKind.i64.wrap ((pre.length : Int) + 1) = pre.length + 1 := wrap_id (by unfold I64; simp at hl; omega)
    simp [hne] at hs
    rw [denK_loop]
    simp [Tryd.f80] at ih ⊢
    simp [h1, h2, hs, ih]
theorem pins_none (b : Int) (hb : b ∉ kindsL) : callT ctx 38 [.d (.int .i64 b)] [] = some (.ret (.d (.list [])), []) := by
  obtain ⟨l, hl, hm⟩ := sheets_run
  have hlen : l.length = 21 := by have := congrArg List.length hm; simpa [kindsL] using this
  have hall : ∀ d ∈ l, ∃ k, sheetOf d = some k ∧ k ≠ b := by
    intro d hd
    have h1 : sheetOf d ∈ l.map sheetOf := List.mem_map_of_mem hd
    rw [hm] at h1
    obtain ⟨k, hk, he⟩ := List.mem_map.1 h1
    exact ⟨k, he.symm, fun h => hb (h ▸ hk)⟩
  have hloop := sheetIdx_loop b l [] hall (by simp; omega)
  have hidx : callT ctx 80 [.d (.list l), .fn 81 [.ptr 0 0 0]] [.box [.d (.int .i64 b)]] = some (.ret (.d (.int .i64 (-1))), [(0, .box [.d (.int .i64 b)])]) := by
    rw [run80 (by simp)]
    simp [Tryd.f80] at hloop ⊢
    simp [hloop]
  have hof : callT ctx 55 [.d (.int .i64 b)] [] = some (.ret (.tup [.d (.agg [.int .i64 0, .str [], .str [], .str [], .int .i64 0]), .d (.bool false)]), []) := by
    rw [run55 (by simp)]
    simp [Tryd.f55, hl, hidx]
  rw [run38 (by simp)]
  simp [Tryd.f38, hof]
theorem pins_ok : PinsOk 38 pinsN := by
  intro b
  by_cases hb : b ∈ kindsL
  · simp only [kindsL, List.mem_cons, List.not_mem_nil, or_false] at hb
    rcases hb with rfl | rfl | rfl | rfl | rfl | rfl | rfl | rfl | rfl | rfl | rfl | rfl | rfl | rfl | rfl | rfl | rfl | rfl | rfl | rfl | rfl
    · obtain ⟨l, h1, h2⟩ := pins_of pins10; exact ⟨l, h1, by rw [h2]; rfl, by decide⟩
    · obtain ⟨l, h1, h2⟩ := pins_of pins11; exact ⟨l, h1, by rw [h2]; rfl, by decide⟩
    · obtain ⟨l, h1, h2⟩ := pins_of pins12; exact ⟨l, h1, by rw [h2]; rfl, by decide⟩
    · obtain ⟨l, h1, h2⟩ := pins_of pins13; exact ⟨l, h1, by rw [h2]; rfl, by decide⟩
    · obtain ⟨l, h1, h2⟩ := pins_of pins14; exact ⟨l, h1, by rw [h2]; rfl, by decide⟩
    · obtain ⟨l, h1, h2⟩ := pins_of pins15; exact ⟨l, h1, by rw [h2]; rfl, by decide⟩
    · obtain ⟨l, h1, h2⟩ := pins_of pins16; exact ⟨l, h1, by rw [h2]; rfl, by decide⟩
    · obtain ⟨l, h1, h2⟩ := pins_of pins17; exact ⟨l, h1, by rw [h2]; rfl, by decide⟩
    · obtain ⟨l, h1, h2⟩ := pins_of pins18; exact ⟨l, h1, by rw [h2]; rfl, by decide⟩
    · obtain ⟨l, h1, h2⟩ := pins_of pins20; exact ⟨l, h1, by rw [h2]; rfl, by decide⟩
    · obtain ⟨l, h1, h2⟩ := pins_of pins21; exact ⟨l, h1, by rw [h2]; rfl, by decide⟩
    · obtain ⟨l, h1, h2⟩ := pins_of pins22; exact ⟨l, h1, by rw [h2]; rfl, by decide⟩
    · obtain ⟨l, h1, h2⟩ := pins_of pins23; exact ⟨l, h1, by rw [h2]; rfl, by decide⟩
    · obtain ⟨l, h1, h2⟩ := pins_of pins24; exact ⟨l, h1, by rw [h2]; rfl, by decide⟩
    · obtain ⟨l, h1, h2⟩ := pins_of pins25; exact ⟨l, h1, by rw [h2]; rfl, by decide⟩
    · obtain ⟨l, h1, h2⟩ := pins_of pins26; exact ⟨l, h1, by rw [h2]; rfl, by decide⟩
    · obtain ⟨l, h1, h2⟩ := pins_of pins27; exact ⟨l, h1, by rw [h2]; rfl, by decide⟩
    · obtain ⟨l, h1, h2⟩ := pins_of pins28; exact ⟨l, h1, by rw [h2]; rfl, by decide⟩
    · obtain ⟨l, h1, h2⟩ := pins_of pins29; exact ⟨l, h1, by rw [h2]; rfl, by decide⟩
    · obtain ⟨l, h1, h2⟩ := pins_of pins30; exact ⟨l, h1, by rw [h2]; rfl, by decide⟩
    · obtain ⟨l, h1, h2⟩ := pins_of pins31; exact ⟨l, h1, by rw [h2]; rfl, by decide⟩
  · refine ⟨[], pins_none b hb, ?_, ?_⟩
    · simp only [kindsL, List.mem_cons, List.not_mem_nil, or_false, not_or] at hb
      simp [pinsN, hb]
    · simp only [kindsL, List.mem_cons, List.not_mem_nil, or_false, not_or] at hb
      simp [pinsN, hb]
end Go.Am
end
section
namespace Go.Am
open Go Go.ChangeShapes Go.WideShapes Go.RowKit

def tiles (P : Program) (ok : TypeId → Bool) : List Field → Nat → Nat → Bool
  | [], o, tot => o == tot
  | f :: r, o, tot => f.offset == o && ok f.type && tiles P ok r (o + P.cellsOf f.type) tot
/-- Types whose readings are data: no pointer in them. -/
def plainT (P : Program) : Nat → TypeId → Bool
  | 0, _ => false
  | n + 1, t => match P.underlying t with
    | some .bool | some (.int _) | some .string => P.cellsOf t == 1
    | some (.slice e) => P.cellsOf t == 1 && plainT P n e && decide (1 ≤ P.cellsOf e)
    | some (.struct fs) => tiles P (plainT P n) fs.toList 0 (P.cellsOf t)
    | _ => false
def typed (P : Program) : Nat → TypeId → D → Prop
  | 0, _, _ => False
  | n + 1, t, d => match P.underlying t with
    | some .bool => ∃ b, d = .bool b
    | some (.int k) => ∃ z, d = .int k z ∧ (Lit.int k z).wf = true
    | some .string => ∃ s, d = .str s ∧ s.length ≤ maxLen
    | some (.slice e) => ∃ xs, d = .list xs ∧ xs.length ≤ maxLen ∧ ∀ x ∈ xs, typed P n e x
    | some (.struct fs) => ∃ ys : List D, d = .agg (ys.flatMap D.cells) ∧ ys.length = fs.size ∧ ∀ (i : Nat) (f : Field) (y : D), fs[i]? = some f → ys[i]? = some y → typed P n f.type y
    | _ => False

def Reads (w : World) (F : Nat → Prop) (d : D) (cs : List Value) : Prop :=
  d.cells.length = cs.length ∧ (∀ u ∈ cs, cell1 u = true) ∧ ∀ (i : Nat) c u, d.cells[i]? = some c → cs[i]? = some u → DRel w F c u ∧ c.flat = true

theorem Reads.one {w F d v} (h : DRel w F d v) (hf : d.flat = true) (hc : d.cells = [d]) : Reads w F d [v] := by
  refine ⟨by rw [hc]; rfl, fun u hu => ?_, fun i c u h1 h2 => ?_⟩
  · simp at hu; subst hu; exact h.one hf
  · rw [hc] at h1
    cases i with
    | zero => simp at h1 h2; subst h1; subst h2; exact ⟨h, hf⟩
    | succ i => simp at h1
/-- A value with these cells, and what it is. -/
def shaped (d : D) (cs : List Value) : Value :=
  match d with
  | .agg _ => .agg cs.toArray
  | _ => cs.headD undef
theorem Reads.rel {w F d cs} (h : Reads w F d cs) : DRel w F d (shaped d cs) := by
  obtain ⟨h1, h2, h3⟩ := h
  have key : d.flat = true → d.cells = [d] → DRel w F d (cs.headD undef) := by
    intro hf hc
    rw [hc] at h1 h3
    match cs, h1 with
    | [u], _ => exact (h3 0 d u rfl rfl).1
  cases d with
  | agg ds => exact DRel.ofCells h1 h2 (fun i c v hc hv => (h3 i c v hc hv).1)
  | _ => exact key rfl rfl
theorem Reads.shaped_cells {w F d cs} (h : Reads w F d cs) : (shaped d cs).cells.toList = cs := by
  obtain ⟨h1, h2, h3⟩ := h
  have key : d.cells = [d] → (cs.headD undef).cells.toList = cs := by
    intro hc
    rw [hc] at h1
    match cs, h1, h2 with
    | [u], _, h2 => simp only [List.headD]; rw [cells_of_cell1 (h2 u (by simp))]
  cases d with
  | agg ds => simp [shaped, Value.cells]
  | _ => exact key rfl

theorem cells?_get {w : World} {base : Nat} {a : Addr} {n : Nat} {cs : List Value} (h : w.cells? base a n = some cs) : cs.length = n ∧ ∀ j, j < n → w.cell? (a.add j) = cs[j]? := by
  unfold World.cells? at h
  split at h
  · exact ⟨by simpa using mapM_some_length h, fun j hj => mapM_some_get h j j (by simp [hj])⟩
  · cases h
theorem add_add {b off n j : Nat} : (Addr.add (Addr.add ⟨b, off, none⟩ n) j) = ⟨b, off + n + j, none⟩ := by
  unfold Addr.add
  split <;> split <;> simp_all
theorem cell?_lt {w : World} {a : Addr} {c : Value} (h : w.cell? a = some c) : a.block < w.heap.size ∧ a.spot = none := by
  unfold World.cell? at h
  split at h
  · rename_i hh
    refine ⟨(Array.getElem?_eq_some_iff.1 hh).1, ?_⟩
    split at h
    · cases h
    · rename_i hs; simpa using hs
  · cases h

/-- The fields of a struct, laid end to end. -/
theorem reads_fields {P : Program} {w : World} {F : Nat → Prop} {n : Nat} {cs : List Value} {ok : TypeId → Bool} : ∀ (fs : List Field) (o : Nat), tiles P ok fs o cs.length = true →
    (∀ f ∈ fs, ok f.type = true → ∃ d, typed P n f.type d ∧ Reads w F d ((cs.drop f.offset).take (P.cellsOf f.type)) ∧ d.cells.length = P.cellsOf f.type) →
    ∃ ys : List D, ys.length = fs.length ∧ (∀ (i : Nat) (f : Field) (y : D), fs[i]? = some f → ys[i]? = some y → typed P n f.type y) ∧ o ≤ cs.length ∧ Reads w F (.agg (ys.flatMap D.cells)) (cs.drop o)
  | [], o, ht, _ => by
    simp only [tiles, beq_iff_eq] at ht
    subst ht
    exact ⟨[], rfl, fun i f y hf => by simp at hf, Nat.le_refl _, by simp [D.cells], by simp, fun i c u h1 => by simp [D.cells] at h1⟩
  | f :: r, o, ht, hf => by
    simp only [tiles, Bool.and_eq_true, beq_iff_eq] at ht
    obtain ⟨⟨rfl, hok⟩, hr⟩ := ht
    obtain ⟨ys, h1, h2, h3, h4⟩ := reads_fields r _ hr (fun f' h' => hf f' (by simp [h']))
    obtain ⟨d, hd, hR, hl⟩ := hf f (by simp) hok
    refine ⟨d :: ys, by simp [h1], fun i f' y hi hy => ?_, by omega, ?_⟩
    · cases i with
      | zero => simp at hi hy; subst hi; subst hy; exact hd
      | succ i => simp at hi hy; exact h2 i f' y hi hy
    · have hsplit : cs.drop f.offset = (cs.drop f.offset).take (P.cellsOf f.type) ++ cs.drop (f.offset + P.cellsOf f.type) := by
        rw [← List.drop_drop, List.take_append_drop]
      obtain ⟨a1, a2, a3⟩ := hR
      obtain ⟨b1, b2, b3⟩ := h4
      have hcells : (D.agg ((d :: ys).flatMap D.cells)).cells = d.cells ++ (D.agg (ys.flatMap D.cells)).cells := by simp [D.cells]
      rw [hsplit]
      unfold Reads
      rw [hcells]
      refine ⟨by simp only [List.length_append, a1, b1], fun u hu => ?_, fun i c u hc hu => ?_⟩
      · rcases List.mem_append.1 hu with hu | hu
        · exact a2 u hu
        · exact b2 u hu
      · by_cases hi : i < d.cells.length
        · rw [List.getElem?_append_left hi] at hc
          rw [List.getElem?_append_left (by omega)] at hu
          exact a3 i c u hc hu
        · rw [List.getElem?_append_right (by omega)] at hc
          rw [List.getElem?_append_right (by omega)] at hu
          rw [← a1] at hu
          exact b3 _ c u hc hu

section
variable {H : Type} {enc : TypeId × Value → H} {P : Program} {w : World} {base : Nat} {sp : Nat → Bool} {held : Bool}

theorem read_data : ∀ (n : Nat) (m : Nat) (t : TypeId) (cs : List Value) (x : DataW H × List MemPlace), plainT P n t = true → DataW.trod enc P w base sp held m t cs = some x →
    ∃ d, typed P n t d ∧ Reads w (fun _ => False) d cs ∧ d.cells.length = P.cellsOf t
  | 0, _, _, _, _, hp, _ => by cases hp
  | n + 1, m, t, cs, x, hp, hx => by
    simp only [plainT] at hp
    simp only [typed]
    cases ht : P.underlying t with
    | none => rw [ht] at hp; cases hp
    | some u =>
      rw [ht] at hp
      cases u with
      | bool =>
        obtain ⟨b, rfl, _⟩ := DataW.trod_bool ht hx
        exact ⟨.bool b, ⟨b, rfl⟩, Reads.one (.bool b) rfl rfl, by simp at hp; simp [D.cells, hp]⟩
      | int k =>
        obtain ⟨z, rfl, _, hw⟩ := DataW.trod_int ht hx
        exact ⟨.int k z, ⟨z, rfl, hw⟩, Reads.one (.int k z) rfl rfl, by simp at hp; simp [D.cells, hp]⟩
      | string =>
        obtain ⟨s, rfl, _, hw⟩ := DataW.trod_string ht hx
        exact ⟨.str s.data.toList, ⟨_, rfl, by simpa using hw⟩, Reads.one (.str s _ rfl) rfl rfl, by simp at hp; simp [D.cells, hp]⟩
      | slice e =>
        simp only [Bool.and_eq_true, beq_iff_eq, decide_eq_true_eq] at hp
        obtain ⟨⟨h1, h2⟩, h3⟩ := hp
        rcases DataW.trod_slice ht hx with ⟨rfl, _⟩ | ⟨a, len, cap, elems, rest, m', rfl, rfl, _, hb, hlc, hcm, hel, hget, _⟩
        · exact ⟨.list [], ⟨[], rfl, by simp, by simp⟩, Reads.one (.nil none 0 (fun _ => rfl)) rfl rfl, by simp [D.cells, h1]⟩
        · have hq : ∀ i, ∃ p : D × Value, i < len → typed P n e p.1 ∧ DRel w (fun _ => False) p.1 p.2 ∧ p.1.size = P.cellsOf e ∧ a.block < w.heap.size ∧ a.spot = none ∧
              ∀ j c, p.2.cells[j]? = some c → w.cell? ⟨a.block, a.off + i * P.cellsOf e + j, none⟩ = some c := by
            intro i
            by_cases hi : i < len
            · have h4 := hget i hi
              have h5 : ∃ y, elems[i]? = some y := ⟨elems[i]'(by omega), by simp [show i < elems.length by omega]⟩
              obtain ⟨y, hy⟩ := h5
              rw [hy] at h4
              simp only [Option.bind_eq_some_iff] at h4
              obtain ⟨cs', hcs, hy'⟩ := h4
              obtain ⟨d, hd, hR, hl⟩ := read_data n m' e cs' y h2 hy'
              obtain ⟨g1, g2⟩ := cells?_get hcs
              have g3 : a.block < w.heap.size ∧ a.spot = none := by
                have h0 : ∃ i0, i0 < len ∧ i0 = 0 := ⟨0, by omega, rfl⟩
                have h40 := hget 0 (by omega)
                have h50 : ∃ y, elems[0]? = some y := ⟨elems[0]'(by omega), by simp [show 0 < elems.length by omega]⟩
                obtain ⟨y0, hy0⟩ := h50
                rw [hy0] at h40
                simp only [Option.bind_eq_some_iff] at h40
                obtain ⟨cs0, hcs0, _⟩ := h40
                obtain ⟨g01, g02⟩ := cells?_get hcs0
                have h6 := g02 0 (by omega)
                have h7 : ∃ c, cs0[0]? = some c := ⟨cs0[0]'(by omega), by simp [show 0 < cs0.length by omega]⟩
                obtain ⟨c, hc⟩ := h7
                rw [hc] at h6
                have h8 := cell?_lt h6
                simpa [Addr.add] using h8
              refine ⟨⟨d, shaped d cs'⟩, fun _ => ⟨hd, hR.rel, by rw [← D.cells_length]; exact hl, g3.1, g3.2, fun j c hj => ?_⟩⟩
              have h6 := hR.shaped_cells
              have h7 : cs'[j]? = some c := by rw [← h6]; simpa using hj
              have hjl : j < P.cellsOf e := by
                have := (List.getElem?_eq_some_iff.1 h7).1
                omega
              have h8 := g2 j hjl
              obtain ⟨ab, ao, ae⟩ := a
              obtain rfl : ae = none := g3.2
              rw [add_add] at h8
              rw [h8]; exact h7
            · exact ⟨⟨.bool false, undef⟩, fun h => absurd h hi⟩
          obtain ⟨f, hf⟩ := Classical.axiomOfChoice hq
          refine ⟨.list ((List.range len).map fun i => (f i).1), ⟨_, rfl, by simp; omega, fun x hx => ?_⟩, Reads.one ?_ rfl rfl, by simp [D.cells, h1]⟩
          · simp only [List.mem_map, List.mem_range] at hx
            obtain ⟨i, hi, rfl⟩ := hx
            exact (hf i hi).1
          · by_cases hl : len = 0
            · subst hl
              exact .nil (some a) cap (fun h => by cases h)
            · have h0 := hf 0 (by omega)
              obtain ⟨ab, ao, ae⟩ := a
              obtain rfl : ae = none := h0.2.2.2.2.1
              have hlen : ((List.range len).map fun i => (f i).1).length = len := by simp
              have := DRel.list (w := w) (F := fun _ => False) ((List.range len).map fun i => (f i).1) ab ao cap (P.cellsOf e) (fun i => (f i).2) (by rw [hlen]; exact hlc) h0.2.2.2.1 (fun h => h)
                (fun d hd => by
                  simp only [List.mem_map, List.mem_range] at hd
                  obtain ⟨i, hi, rfl⟩ := hd
                  exact (hf i hi).2.2.1)
                (fun i d hd => by
                  simp only [List.getElem?_map, Option.map_eq_some_iff] at hd
                  obtain ⟨i', hi', rfl⟩ := hd
                  have := List.getElem?_eq_some_iff.1 hi'
                  obtain ⟨hi2, hi3⟩ := this
                  simp at hi2 hi3
                  subst hi3
                  exact (hf _ hi2).2.1)
                (fun i j c hi hj => by
                  rw [hlen] at hi
                  exact (hf i hi).2.2.2.2.2 j c hj)
              rw [hlen] at this
              exact this
      | struct fs =>
        obtain ⟨xs, m', rfl, _, hl, hxs, hget⟩ := DataW.trod_struct ht hx
        simp only at hp
        rw [← hl] at hp
        obtain ⟨ys, h1, h2, _, h4⟩ := reads_fields (n := n) (w := w) (F := fun _ => False) fs.toList 0 hp (fun f hf hok => by
          obtain ⟨i, hi, he⟩ := List.mem_iff_getElem.1 hf
          have h5 := hget i f (by simp at hi he; simp [hi, he])
          have h6 : ∃ y, xs[i]? = some y := ⟨xs[i]'(by simp at hi; omega), by simp [show i < xs.length by simp at hi; omega]⟩
          obtain ⟨y, hy⟩ := h6
          rw [hy] at h5
          exact read_data n m' f.type _ y hok h5)
        refine ⟨.agg (ys.flatMap D.cells), ⟨ys, rfl, by simpa using h1, fun i f y hi hy => h2 i f y (by simpa using hi) hy⟩, by simpa using h4, ?_⟩
        have := h4.1
        rw [this]; simpa using hl
      | _ => cases hp
end
end Go.Am
end
section
namespace Go.Am
open Go Go.ChangeShapes Go.WideShapes Go.RowKit

section
variable {H : Type} {enc : TypeId × Value → H} {P : Program} {w : World} {base : Nat} {sp : Nat → Bool} {held : Bool}

theorem arg_rel {n : Nat} {t : TypeId} {v : Value} {d : DataW H} {ps : List MemPlace} {b0 : Nat} (hp : plainT P n t = true) (hv : Value.okWide P w .any b0 t v) (h : DataW.Trod enc P w base sp held t v d ps) :
    ∃ x, typed P n t x ∧ DRel w (fun _ => False) x v := by
  obtain ⟨m, hm⟩ := h
  obtain ⟨x, hx, hR, _⟩ := read_data n m t _ _ hp hm
  refine ⟨x, hx, ?_⟩
  have h1 := hR.rel
  cases n with
  | zero => cases hp
  | succ n =>
    simp only [plainT] at hp
    simp only [typed] at hx
    cases ht : P.underlying t with
    | none => rw [ht] at hp; cases hp
    | some u =>
      rw [ht] at hp hx
      cases u with
      | bool => obtain ⟨b, rfl⟩ := okWide_bool ht hv; obtain ⟨y, rfl⟩ := hx; exact h1
      | int k => obtain ⟨b, rfl⟩ := okWide_int ht hv; obtain ⟨y, rfl, _⟩ := hx; exact h1
      | string => obtain ⟨b, rfl⟩ := okWide_string ht hv; obtain ⟨y, rfl, _⟩ := hx; exact h1
      | slice e => obtain ⟨a, len, cap, rfl⟩ := okWide_slice ht hv; obtain ⟨y, rfl, _⟩ := hx; exact h1
      | struct fs =>
        simp only [Value.okWide, ht] at hv
        obtain ⟨cs, rfl, _⟩ := hv
        obtain ⟨ys, rfl, _⟩ := hx
        simpa [shaped, Value.cells] using h1
      | _ => cases hp

theorem args_rel {n b0 : Nat} : ∀ {ts : List TypeId} {vs : List Value} {ds : List (DataW H)} {ps : List MemPlace}, DataW.TrodAll enc P w base sp held ts vs ds ps → (∀ t ∈ ts, plainT P n t = true) →
    (∀ (j : Nat) t v, ts[j]? = some t → vs[j]? = some v → Value.okWide P w .any b0 t v) →
    ∃ xs : List D, xs.length = vs.length ∧ xs.length = ts.length ∧ (∀ (i : Nat) t x, ts[i]? = some t → xs[i]? = some x → typed P n t x) ∧ ∀ (i : Nat) x v, xs[i]? = some x → vs[i]? = some v → DRel w (fun _ => False) x v
  | [], [], [], _, _, _, _ => ⟨[], rfl, rfl, fun i t x h => by simp at h, fun i x v h => by simp at h⟩
  | t :: ts, v :: vs, d :: ds, ps, h, hp, hv => by
    obtain ⟨p, q, h1, h2, _⟩ := h
    obtain ⟨x, hx, hr⟩ := arg_rel (hp t (by simp)) (hv 0 t v rfl rfl) h1
    obtain ⟨xs, g1, g2, g3, g4⟩ := args_rel h2 (fun t ht => hp t (by simp [ht])) (fun j t v h3 h4 => hv (j + 1) t v (by simpa using h3) (by simpa using h4))
    refine ⟨x :: xs, by simp [g1], by simp [g2], fun i t' x' h3 h4 => ?_, fun i x' v' h3 h4 => ?_⟩
    · cases i with
      | zero => simp at h3 h4; subst h3; subst h4; exact hx
      | succ i => simp at h3 h4; exact g3 i t' x' h3 h4
    · cases i with
      | zero => simp at h3 h4; subst h3; subst h4; exact hr
      | succ i => simp at h3 h4; exact g4 i x' v' h3 h4
  | [], _ :: _, _, _, h, _, _ => by cases h
  | [], [], _ :: _, _, h, _, _ => by cases h
  | _ :: _, [], _, _, h, _, _ => by cases h
  | _ :: _, _ :: _, [], _, h, _, _ => by cases h

theorem trodAll_stays (hl : laidOutB P = true) {W W' : World} (hb : Below W.heap.size W W') : ∀ {ts : List TypeId} {vs : List Value} {ds : List (DataW H)} {ps : List MemPlace}, DataW.TrodAll enc P W 0 (fun _ => true) true ts vs ds ps →
    (∀ t ∈ ts, P.readableRec t = true ∧ t < P.types.size) → (∀ x ∈ ps, x.block < W.heap.size) → DataW.TrodAll enc P W' 0 (fun b => decide (b < W.heap.size)) true ts vs ds ps
  | [], [], [], _, h, _, _ => h
  | t :: ts, v :: vs, d :: ds, ps, h, hp, hlt => by
    obtain ⟨p, q, h1, h2, rfl⟩ := h
    exact ⟨p, q, Below.trod hl (hp t (by simp)).1 (hp t (by simp)).2 h1 hb (fun x hx => hlt x (by simp [hx])), trodAll_stays hl hb h2 (fun t ht => hp t (by simp [ht])) (fun x hx => hlt x (by simp [hx])), rfl⟩
  | [], _ :: _, _, _, h, _, _ => by cases h
  | [], [], _ :: _, _, h, _, _ => by cases h
  | _ :: _, [], _, _, h, _, _ => by cases h
  | _ :: _, _ :: _, [], _, h, _, _ => by cases h
end

section
variable {P : Program} {n : Nat} {t : TypeId} {d : D}
def fieldsT (P : Program) (n : Nat) : List Field → List D → Prop
  | [], ds => ds = []
  | f :: r, ds => ∃ y ds', typed P n f.type y ∧ fieldsT P n r ds' ∧ ds = y.cells ++ ds'
theorem fieldsT_of : ∀ {fs : List Field} {ys : List D}, ys.length = fs.length → (∀ (i : Nat) (f : Field) (y : D), fs[i]? = some f → ys[i]? = some y → typed P n f.type y) → fieldsT P n fs (ys.flatMap D.cells)
  | [], [], _, _ => rfl
  | f :: fs, y :: ys, h, hf => ⟨y, ys.flatMap D.cells, hf 0 f y rfl rfl, fieldsT_of (by simpa using h) (fun i f y h1 h2 => hf (i + 1) f y (by simpa using h1) (by simpa using h2)), by simp⟩
theorem typed_int {k : IntKind} (ht : P.underlying t = some (.int k)) (h : typed P (n + 1) t d) : ∃ z, d = .int k z ∧ (Lit.int k z).wf = true := by simpa only [typed, ht] using h
theorem typed_bool (ht : P.underlying t = some .bool) (h : typed P (n + 1) t d) : ∃ b, d = .bool b := by simpa only [typed, ht] using h
theorem typed_string (ht : P.underlying t = some .string) (h : typed P (n + 1) t d) : ∃ s, d = .str s ∧ s.length ≤ maxLen := by simpa only [typed, ht] using h
theorem typed_slice {e : TypeId} (ht : P.underlying t = some (.slice e)) (h : typed P (n + 1) t d) : ∃ xs, d = .list xs ∧ xs.length ≤ maxLen ∧ ∀ x ∈ xs, typed P n e x := by simpa only [typed, ht] using h
theorem typed_struct {fs : Array Field} (ht : P.underlying t = some (.struct fs)) (h : typed P (n + 1) t d) : ∃ ds, d = .agg ds ∧ fieldsT P n fs.toList ds := by
  simp only [typed, ht] at h
  obtain ⟨ys, rfl, h1, h2⟩ := h
  exact ⟨_, rfl, fieldsT_of (by simpa using h1) (fun i f y h3 h4 => h2 i f y (by simpa using h3) h4)⟩
end
def ctxB (X : Ctx) : Bool :=
  (List.range X.P.funcs.size).all (fun g => match X.P.funcs[g]? with | some fn => fn.name != "runtime.NumGoroutine" && (match fn.body with | some c => codeDst X g fn.ntmps c | none => true) | none => true) && X.P.follows .mixedOrders
def OrcOk (X : Ctx) (g : FuncId) (h : List D → Option D) : Prop := callable X.P g = true ∧ ∀ (ds : List D) (d : D), h ds = some d → ∀ (F : Nat → Prop) (w : World) (vs : Array Value), GlobRel w F X.gl → ds.length = vs.size →
    (∀ (i : Nat) x v, ds[i]? = some x → vs[i]? = some v → DRel w F x v) → Calls X.P g vs w fun e w' => ∃ v, e = .returned v ∧ Below w.heap.size w w' ∧ DRel w' F d v
theorem CtxOk.of {X : Ctx} (h : ctxB X = true) (ho : ∀ g h, X.orc g = some h → OrcOk X g h) : CtxOk X := by
  simp only [ctxB, Bool.and_eq_true, List.all_eq_true, List.mem_range] at h
  have key : ∀ (g : FuncId) (fn : Func), X.P.funcs[g]? = some fn → fn.name ≠ "runtime.NumGoroutine" ∧ (match fn.body with | some c => codeDst X g fn.ntmps c | none => true) = true := by
    intro g fn hg
    have h1 := h.1 g (Array.getElem?_eq_some_iff.1 hg).1
    rw [hg] at h1
    simpa using h1
  refine ⟨fun g fn hg => (key g fn hg).1, fun g fn c hg hb => ?_, h.2, ho⟩
  have := (key g fn hg).2
  rw [hb] at this
  exact this

theorem list_map_of {α : Type} {f : α → D} : ∀ {xs : List D}, (∀ x ∈ xs, ∃ r, x = f r) → ∃ rs : List α, xs = rs.map f
  | [], _ => ⟨[], rfl⟩
  | x :: xs, h => by
    obtain ⟨r, rfl⟩ := h x (by simp)
    obtain ⟨rs, rfl⟩ := list_map_of (xs := xs) (fun y hy => h y (by simp [hy]))
    exact ⟨r :: rs, rfl⟩

/-- A call at data alone: it ends as the evaluator says; nothing old has turned. -/
theorem law_calls {X : Ctx} (hX : CtxOk X) {f : FuncId} {b : Bool} {xs : List D} (hc : callT X f (xs.map .d) [] = some (.ret (.d (.bool b)), [])) {W : World} {args : Array Value} (hl : xs.length = args.size)
    (hr : ∀ (i : Nat) x v, xs[i]? = some x → args[i]? = some v → DRel W (fun _ => False) x v) (hg : GlobRel W (fun _ => False) X.gl) :
    Calls X.P f args W fun e W' => e = .returned (.bool b) ∧ Below W.heap.size W W' := by
  have h := (callT_ok hX f _ _ _ _ hc).2
  have hF : ∀ b, Fo (fun _ => False) (fun _ => none) (inM 0 []) b → False := by
    intro b hb
    rcases hb with hb | ⟨e, he, _⟩
    · exact hb
    · simp [inM] at he
  refine (h (fun _ => none) (fun _ => False) W args ⟨by simp [inM], fun k L hL => by simp at hL, fun e he => by simp [inM] at he, fun e he => by simp [inM] at he, fun b ⟨e, he, _⟩ => by simp [inM] at he, fun b hb => hb.elim⟩
    (hg.mono (fun _ _ _ => rfl) (Nat.le_refl _) (fun b _ hb => hF b hb)) (by simpa using hl) (fun i x v hx hv => ?_)).mono ?_
  · simp only [List.getElem?_map, Option.map_eq_some_iff] at hx
    obtain ⟨d, hd, rfl⟩ := hx
    exact .d d v ((hr i d v hd hv).mono (fun _ _ _ => rfl) (Nat.le_refl _) (fun b _ hb => hF b hb))
  · rintro e W' ⟨φ', m', out, ⟨rfl, rfl⟩, hm, hk, ho⟩
    refine ⟨?_, hk.os, hk.tape, hk.output, hk.size, fun k hk' => hk.old k hk' (fun ⟨e, he, _⟩ => by simp [inM] at he)⟩
    cases e with
    | returned v =>
      simp only [OutRel] at ho
      cases ho with
      | d x v h => cases h; rfl
    | _ => exact ho.elim

section
variable {H : Type} {enc : TypeId × Value → H}
/-- The contract of a law's row. -/
theorem law_contract {X : Ctx} (hX : CtxOk X) {f : FuncId} {fn : Func} {s : ChangeSpec} {apart fresh handsOn : Bool} {n : Nat} {tb : TypeId}
    (hlaid : laidOutB X.P = true) (hts : (fn.params.toList.all fun t => X.P.readableRec t && decide (t < X.P.types.size) && plainT X.P n t) = true)
    (hres : fn.resultTypes = #[tb]) (htb : X.P.underlying tb = some .bool) (hvars : s.vars = [])
    (hspec : ∀ ds : List (DataW H), ds.length = fn.params.size → s.fn H ds = { results := [.lit (.bool true)], args := ds })
    {W : World} {base : Nat} {args : Array Value} {ds gs : List (DataW H)} {before : List MemPlace}
    (hval : ∀ (j : Nat) t v, fn.params[j]? = some t → args[j]? = some v → Value.okWide X.P W .any base t v)
    (hW : DataW.Whole enc X.P fn.params.toList s.vars apart W args.toList ds gs before) (hg : GlobRel W (fun _ => False) X.gl)
    (hrun : ∀ xs : List D, xs.length = fn.params.size → (∀ (i : Nat) t x, fn.params[i]? = some t → xs[i]? = some x → typed X.P n t x) → callT X f (xs.map .d) [] = some (.ret (.d (.bool true)), [])) :
    Calls X.P f args W fun e W' => ∃ v, e = .returned v ∧ s.post enc X.P fn apart fresh handsOn false W args v W' := by
  have hW' := hW
  obtain ⟨p, q, hA, hV, rfl, hfz, hnd⟩ := hW
  rw [hvars] at hV
  obtain ⟨rfl, rfl⟩ : gs = [] ∧ q = [] := by
    cases gs with
    | nil => exact ⟨rfl, hV⟩
    | cons g r => exact absurd hV (by intro h; cases h)
  simp only [List.all_eq_true, Bool.and_eq_true, decide_eq_true_eq] at hts
  obtain ⟨xs, h1, h2, h3, h4⟩ := args_rel (n := n) (b0 := base) hA (fun t ht => (hts t ht).2) (fun j t v ht hv => hval j t v (by simpa using ht) (by simpa using hv))
  have hlen := trodAll_length hA
  refine (law_calls hX (hrun xs (by simpa using h2) (fun i t x ht hx => h3 i t x (by simpa using ht) hx)) (by simpa using h1) (fun i x v hx hv => h4 i x v hx (by simpa using hv)) hg).mono ?_
  rintro e W' ⟨rfl, hb⟩
  have hlt : ∀ x ∈ p, x.block < W.heap.size := fun x hx => by simpa using hW'.lt x (by simpa using hx)
  have hs : s.fn H (ds ++ []) = { results := [.lit (.bool true)], args := ds } := by
    rw [List.append_nil]; exact hspec ds (by simpa using hlen.2)
  refine ⟨_, rfl, ds, [], p ++ [], [], p, [], hW', ?_, ?_, ?_, hb.frame _, fun h => by cases h⟩
  · rw [hs, hres]
    exact trodAll_mk1 (shut_bool htb true)
  · rw [hs]
    exact trodAll_stays hlaid hb hA (fun t ht => (hts t ht).1) hlt
  · rw [hs, hvars]
    rfl
end
end Go.Am
end
section
namespace Go.Am
open Go Go.Proofs
theorem orcs_ok : ∀ g h, ctx.orc g = some h → OrcOk ctx g h := fun _ _ h => by cases h
end Go.Am
end
section
namespace Go.Am
open Go

theorem laid_mem {P : Program} {w : World} {n : String} {d : DataW Unit} : ∀ {l : List (String × DataW Unit)} {ps : List MemPlace}, DataW.LaidVars P w l ps → (n, d) ∈ l →
    ∃ g t cs fuel p, P.globalNamed n = some g ∧ (P.globals[g]?).map (·.type) = some t ∧ w.var? P n = some cs ∧ DataW.trod (fun _ => ()) P w 0 (fun _ => true) false fuel t cs.toList = some (d, p)
  | [], _, _, hm => by simp at hm
  | (n', d') :: r, ps, ⟨g, t, cs, fuel, p, q, h1, h2, h3, h4, h5, _⟩, hm => by
    rcases List.mem_cons.1 hm with hm | hm
    · cases hm
      exact ⟨g, t, cs, fuel, p, h1, h2, h3, h4⟩
    · exact laid_mem h5 hm

/-- An array of numbers, read. -/
theorem trod_ints {H : Type} {enc : TypeId × Value → H} {P : Program} {w : World} {base : Nat} {sp : Nat → Bool} {held : Bool} {fuel : Nat} {t e : TypeId} {n : Nat} {k : IntKind} {cs : List Value} {ds : List (DataW H)} {p : List MemPlace}
    (ha : P.underlying t = some (.array n e)) (he : P.underlying e = some (.int k)) (hc : P.cellsOf e = 1) (h : DataW.trod enc P w base sp held fuel t cs = some (.agg ds, p)) :
    ds.length = n ∧ ∀ i, i < n → ∃ z, cs[i]? = some (.int k z) ∧ ds[i]? = some (.lit (.int k z)) := by
  cases fuel with
  | zero => simp [DataW.trod] at h
  | succ m =>
    unfold DataW.trod at h
    rw [ha] at h
    simp only at h
    split at h
    · rename_i hl
      simp only [Option.map_eq_some_iff, Prod.mk.injEq, DataW.agg.injEq] at h
      obtain ⟨xs, hx, rfl, _⟩ := h
      have h1 : xs.length = n := by simpa using mapM_some_length hx
      refine ⟨by simpa using h1, fun i hi => ?_⟩
      have h2 := mapM_some_get hx i i (by simp [hi])
      have h3 : i < xs.length := by omega
      have h4 : xs[i]? = some xs[i] := by simp [h3]
      rw [h4, hc] at h2
      obtain ⟨z, h5, h6, _⟩ := DataW.trod_int he h2
      refine ⟨z, ?_, by simp [h4, h6]⟩
      have h7 := congrArg (·[0]?) h5
      simpa [List.getElem?_take, List.getElem?_drop] using h7
    · cases h

/-- A table of numbers that the row lists: its cells. -/
theorem glob_of_laid {P : Program} {W : World} {l : List (String × DataW Unit)} {name : String} {g : Nat} {t e : TypeId} {n : Nat} {k : IntKind} {zs : List Int}
    (hl : laidMet P l W) (hm : (name, DataW.agg (zs.map fun z => .lit (.int k z))) ∈ l) (hg : P.globalNamed name = some g) (ht : (P.globals[g]?).map (·.type) = some t)
    (ha : P.underlying t = some (.array n e)) (he : P.underlying e = some (.int k)) (hc : P.cellsOf e = 1) (hn : 0 < n) :
    g < W.heap.size ∧ ∃ x', DRel W (fun _ => False) (.agg (zs.map fun z => .int k z)) x' ∧ ∀ (i : Nat) (c : Value), x'.cells[i]? = some c → W.cell? ⟨g, i, none⟩ = some c := by
  obtain ⟨ps, hv, _⟩ := hl
  obtain ⟨g', t', cs, fuel, p, h1, h2, h3, h4⟩ := laid_mem hv hm
  obtain rfl := Option.some.inj (hg.symm.trans h1)
  obtain rfl := Option.some.inj (ht.symm.trans h2)
  obtain ⟨h5, h6⟩ := trod_ints ha he hc h4
  simp at h5
  have h7 : ∀ i z, zs[i]? = some z → W.cell? ⟨g, i, none⟩ = some (.int k z) := by
    intro i z hz
    have hi : i < n := by
      have := (List.getElem?_eq_some_iff.1 hz).1
      omega
    obtain ⟨z', h8, h9⟩ := h6 i hi
    simp [hz] at h9
    subst h9
    rw [World.var?_cell hg h3 i]
    simpa using h8
  refine ⟨?_, .agg (zs.map fun z => Value.int k z).toArray, ?_, ?_⟩
  · have hz : ∃ z, zs[0]? = some z := ⟨zs[0]'(by omega), by simp [show 0 < zs.length by omega]⟩
    obtain ⟨z, hz⟩ := hz
    exact (cell?_lt (h7 0 z hz)).1
  · refine DRel.ofCells (by simp) (fun v hv => ?_) (fun i c v hc' hv => ?_)
    · simp at hv
      obtain ⟨z, _, rfl⟩ := hv
      rfl
    · simp only [List.getElem?_map, Option.map_eq_some_iff] at hc' hv
      obtain ⟨z, hz, rfl⟩ := hc'
      obtain ⟨z', hz', rfl⟩ := hv
      rw [hz] at hz'
      cases hz'
      exact .int k z
  · intro i c hi
    simp [Value.cells] at hi
    obtain ⟨z, hz, rfl⟩ := hi
    exact h7 i z hz
end Go.Am
end
section
namespace Go.Am
open Go
variable {H : Type} {enc : TypeId × Value → H}
theorem handed_of {a : Assume} {C : Checked} {os : Os} {f : FuncId} {fn : Func} {s : ChangeSpec} {conds : List PathCond} {apart fresh handsOn again : Bool} {X : World → Array Value → Prop}
    (hX : ∀ (w w' : World) (args : Array Value), w.heap = w'.heap → X w args → X w' args)
    (own : ownKnob C.prog.godebug = none) (started : os.Started) (noInit : C.prog.inits.idxOf? f = none) (hfn : C.prog.funcs[f]? = some fn)
    (witness : ∃ (w : World) (tape : Tape) (i : Input), w.os = os ∧ (w.forCall tape i).Shaped C.prog ∧ i.vars = [] ∧ Input.okWide C.prog (w.forCall tape i) .any w.heap.size f i ∧
      ((s.pre enc C.prog fn conds apart (w.forCall tape i).memory i.args ∧ X (w.forCall tape i).memory i.args) ∧ sizedMet enc C.prog fn (OpenSpec.ofChange s) apart (w.forCall tape i).memory i.args) ∧ a.holds C.prog (lone (Frame.enter C.prog f i.args .normal) [] (w.forCall tape i)))
    (contract : ∀ (W : World) (base : Nat) (args : Array Value) (ds gs : List (DataW H)) (before : List MemPlace),
      (∀ (j : Nat) t v, fn.params[j]? = some t → args[j]? = some v → Value.okWide C.prog W .any base t v) →
      DataW.Whole enc C.prog fn.params.toList s.vars apart W args.toList ds gs before → X W args → W.ShapedOpen C.prog →
      Calls C.prog f args W fun e W' => ∃ v, e = .returned v ∧ s.post enc C.prog fn apart fresh handsOn again W args v W') :
    ReturnsInHanded a C os f .any (fun w args => (s.pre enc C.prog fn conds apart w args ∧ X w args) ∧ sizedMet enc C.prog fn (OpenSpec.ofChange s) apart w args) (s.post enc C.prog fn apart fresh handsOn again) := by
  refine returnsInHanded_of_calls own started noInit witness ?_
  intro w tape i _ hsh _ hok hpre _
  obtain ⟨_, _, _, fn', hfn', _, _, _, _, hval⟩ := hok
  have e : fn' = fn := Option.some.inj (hfn'.symm.trans hfn)
  subst e
  obtain ⟨⟨⟨ds, gs, before, hw, hc⟩, hx⟩, hz⟩ := hpre
  have hw' := DataW.Whole.of_heap (w' := w.forCall tape i) (by rfl) hw
  refine (contract (w.forCall tape i) w.heap.size i.args ds gs before hval hw' (hX _ _ _ (by rfl) hx) hsh).mono fun e W' ⟨v, he, hp⟩ => ?_
  subst he
  exact ChangeSpec.post_blind hp
end Go.Am
end

/-
  Texts of one proof, one behind the other.
-/
import Derived.WalkKit
import Derived.Laws.Rows
import Derived.Laws.CopyRow
set_option linter.all false
section
namespace Go.Am

/-- A node from which all ways end. -/
inductive Ends (succ : Nat → List Nat) : Nat → Prop
  | mk (i : Nat) (h : ∀ j ∈ succ i, Ends succ j) : Ends succ i
inductive Way (succ : Nat → List Nat) : Nat → Nat → Prop
  | one {i j} (h : j ∈ succ i) : Way succ i j
  | more {i j k} (h : Way succ i j) (h2 : k ∈ succ j) : Way succ i k
theorem Way.trans {succ : Nat → List Nat} {i j k : Nat} (h : Way succ i j) (h2 : Way succ j k) : Way succ i k := by
  induction h2 with
  | one h3 => exact .more h h3
  | more _ h3 ih => exact .more ih h3
theorem Ends.way {succ : Nat → List Nat} {i j : Nat} (h : Ends succ i) (w : Way succ i j) : Ends succ j := by
  induction w with
  | one h2 => cases h with | mk _ h => exact h _ h2
  | more _ h2 ih => cases ih with | mk _ h => exact h _ h2
theorem Ends.no_round {succ : Nat → List Nat} {i : Nat} (h : Ends succ i) : ¬ Way succ i i := by
  induction h with
  | mk i h ih =>
    intro w
    -- the first step of the way
    have first : ∀ {a b}, Way succ a b → ∃ c ∈ succ a, c = b ∨ Way succ c b := by
      intro a b w
      induction w with
      | one h => exact ⟨_, h, .inl rfl⟩
      | more _ h2 ih =>
        obtain ⟨c, hc, h3⟩ := ih
        rcases h3 with rfl | h3
        · exact ⟨_, hc, .inr (.one h2)⟩
        · exact ⟨_, hc, .inr (.more h3 h2)⟩
    obtain ⟨c, hc, h3⟩ := first w
    rcases h3 with rfl | h3
    · exact ih _ hc w
    · exact ih c hc (h3.trans (.one hc))

/- The search: 0 new, 1 open, 2 done. -/
mutual
def dfs (succ : Nat → List Nat) : Nat → Nat → List Nat → Bool × List Nat
  | 0, _, seen => (true, seen)
  | f + 1, at_, seen => if seen.getD at_ 0 ≠ 0 then (seen.getD at_ 0 == 1, seen) else
    match dfsL succ f (succ at_) (seen.set at_ 1) with
    | (true, s) => (true, s)
    | (false, s) => (false, s.set at_ 2)
def dfsL (succ : Nat → List Nat) : Nat → List Nat → List Nat → Bool × List Nat
  | _, [], seen => (false, seen)
  | f, n :: r, seen => match dfs succ f n seen with
    | (true, s) => (true, s)
    | (false, s) => dfsL succ f r s
end
def fresh (seen : List Nat) : Nat := seen.countP (· == 0)
structure DfsOk (succ : Nat → List Nat) (seen seen' : List Nat) : Prop where
  len : seen'.length = seen.length
  grey : ∀ i, seen'.getD i 0 = 1 ↔ seen.getD i 0 = 1
  black : ∀ i, seen.getD i 0 = 2 → seen'.getD i 0 = 2
  vals : (∀ i, seen.getD i 0 ≤ 2) → ∀ i, seen'.getD i 0 ≤ 2
  ends : (∀ i, seen.getD i 0 = 2 → Ends succ i) → ∀ i, seen'.getD i 0 = 2 → Ends succ i
  fresh : fresh seen' ≤ fresh seen
theorem DfsOk.refl (succ : Nat → List Nat) (s : List Nat) : DfsOk succ s s := ⟨rfl, fun _ => Iff.rfl, fun _ h => h, fun h => h, fun h => h, Nat.le_refl _⟩
theorem DfsOk.trans {succ : Nat → List Nat} {a b c : List Nat} (h : DfsOk succ a b) (k : DfsOk succ b c) : DfsOk succ a c :=
  ⟨by rw [k.len, h.len], fun i => (k.grey i).trans (h.grey i), fun i hi => k.black i (h.black i hi), fun hv => k.vals (h.vals hv), fun he => k.ends (h.ends he), Nat.le_trans k.fresh h.fresh⟩
theorem getD_set (l : List Nat) (i j v : Nat) : (l.set i v).getD j 0 = if i = j ∧ i < l.length then v else l.getD j 0 := by
  simp only [List.getD_eq_getElem?_getD, List.getElem?_set]
  by_cases h : i = j
  · subst h
    by_cases h2 : i < l.length
    · simp [h2]
    · simp [h2]
  · simp [h]
theorem fresh_set {l : List Nat} {i v : Nat} (h : l.getD i 0 = 0) (hi : i < l.length) (hv : v ≠ 0) : fresh (l.set i v) + 1 = fresh l := by
  induction l generalizing i with
  | nil => simp at hi
  | cons x r ih =>
    cases i with
    | zero =>
      simp at h
      subst h
      simp [fresh, hv]
    | succ i =>
      have h1 := ih (i := i) (by simpa using h) (by simpa using hi)
      unfold fresh at h1 ⊢
      simp only [List.set_cons_succ, List.countP_cons]
      omega
theorem fresh_set_le {l : List Nat} {i v : Nat} (hv : v ≠ 0) : fresh (l.set i v) ≤ fresh l := by
  induction l generalizing i with
  | nil => simp
  | cons x r ih =>
    cases i with
    | zero =>
      simp only [fresh, List.set_cons_zero, List.countP_cons]
      simp [hv]
    | succ i =>
      have h1 := ih (i := i)
      unfold fresh at h1 ⊢
      simp only [List.set_cons_succ, List.countP_cons]
      omega

/-- The open nodes all lead to a node. -/
def Lead (succ : Nat → List Nat) (seen : List Nat) (at_ : Nat) : Prop := ∀ i, seen.getD i 0 = 1 → Way succ i at_

theorem dfs_all (succ : Nat → List Nat) : ∀ f : Nat,
    (∀ at_ seen, fresh seen < f → at_ < seen.length → (∀ i < seen.length, ∀ j ∈ succ i, j < seen.length) → (∀ i, seen.getD i 0 ≤ 2) → Lead succ seen at_ →
      ((dfs succ f at_ seen).1 = true → ∃ i, i < seen.length ∧ Way succ i i) ∧ ((dfs succ f at_ seen).1 = false → DfsOk succ seen (dfs succ f at_ seen).2 ∧ (dfs succ f at_ seen).2.getD at_ 0 = 2)) ∧
    (∀ l at_ seen, fresh seen < f → (∀ n ∈ l, n ∈ succ at_) → (∀ n ∈ l, n < seen.length) → seen.getD at_ 0 = 1 → (∀ i < seen.length, ∀ j ∈ succ i, j < seen.length) → (∀ i, seen.getD i 0 ≤ 2) → (∀ i, seen.getD i 0 = 1 → i = at_ ∨ Way succ i at_) →
      ((dfsL succ f l seen).1 = true → ∃ i, i < seen.length ∧ Way succ i i) ∧ ((dfsL succ f l seen).1 = false → DfsOk succ seen (dfsL succ f l seen).2 ∧ ∀ n ∈ l, (dfsL succ f l seen).2.getD n 0 = 2))
  | 0 => ⟨fun _ _ h => by omega, fun _ _ _ h => by omega⟩
  | f + 1 => by
    have hd : ∀ at_ seen, fresh seen < f + 1 → at_ < seen.length → (∀ i < seen.length, ∀ j ∈ succ i, j < seen.length) → (∀ i, seen.getD i 0 ≤ 2) → Lead succ seen at_ →
      ((dfs succ (f + 1) at_ seen).1 = true → ∃ i, i < seen.length ∧ Way succ i i) ∧ ((dfs succ (f + 1) at_ seen).1 = false → DfsOk succ seen (dfs succ (f + 1) at_ seen).2 ∧ (dfs succ (f + 1) at_ seen).2.getD at_ 0 = 2) := by
      intro at_ seen hf hl hs hv hlead
      have ihL := (dfs_all succ f).2 (succ at_) at_ (seen.set at_ 1)
      unfold dfs
      by_cases h0 : seen.getD at_ 0 ≠ 0
      · rw [if_pos h0]
        refine ⟨fun h => ⟨at_, hl, hlead at_ (by simpa using h)⟩, fun h => ⟨DfsOk.refl _ _, ?_⟩⟩
        have := hv at_
        simp only [beq_eq_false_iff_ne] at h
        simp only
        omega
      · rw [if_neg h0]
        have h0' : seen.getD at_ 0 = 0 := by omega
        have hfr := fresh_set (v := 1) h0' hl (by decide)
        have hL := ihL (by omega) (fun n h => h) (fun n h => by simpa using hs at_ hl n h) (by rw [getD_set]; simp [hl]) (by simpa using hs)
          (fun i => by rw [getD_set]; split; omega; exact hv i)
          (fun i hi => by
            rw [getD_set] at hi
            split at hi
            · rename_i h; exact .inl h.1.symm
            · exact .inr (hlead i hi))
        obtain ⟨s, b, he⟩ : ∃ s b, dfsL succ f (succ at_) (seen.set at_ 1) = (b, s) := ⟨_, _, rfl⟩
        rw [he] at hL ⊢
        cases b with
        | true => exact ⟨fun _ => by simpa using hL.1 rfl, fun h => by simp at h⟩
        | false =>
          refine ⟨fun h => by simp at h, fun _ => ?_⟩
          obtain ⟨ok, hall⟩ := hL.2 rfl
          simp only at ok hall ⊢
          have hlen : s.length = seen.length := by rw [ok.len]; simp
          refine ⟨⟨by simp [hlen], fun i => ?_, fun i hi => ?_, fun _ i => ?_, fun hend i hi => ?_, ?_⟩, by rw [getD_set]; simp [hlen, hl]⟩
          · rw [getD_set]
            by_cases hi : at_ = i
            · subst hi
              simp only [hlen, hl, and_self, if_true, h0']
              omega
            · simp only [hi, false_and, if_false]
              rw [ok.grey i, getD_set]
              simp [hi]
          · rw [getD_set]
            split
            · rfl
            · refine ok.black i ?_
              rw [getD_set]
              split
              · rename_i h; rw [← h.1, h0'] at hi; omega
              · exact hi
          · rw [getD_set]
            split
            · omega
            · refine ok.vals (fun i => ?_) i
              rw [getD_set]; split; omega; exact hv i
          · have hend1 : ∀ i, s.getD i 0 = 2 → Ends succ i := ok.ends (fun i hi => by
              rw [getD_set] at hi
              split at hi
              · omega
              · exact hend i hi)
            rw [getD_set] at hi
            split at hi
            · rename_i h
              rw [← h.1]
              exact .mk _ (fun j hj => hend1 j (hall j hj))
            · exact hend1 i hi
          · have h1 := fresh_set_le (l := s) (i := at_) (v := 2) (by decide)
            have h2 := ok.fresh
            omega
    refine ⟨hd, ?_⟩
    intro l
    induction l with
    | nil =>
      intro at_ seen _ _ _ _ _ _ _
      unfold dfsL
      exact ⟨fun h => by simp at h, fun _ => ⟨DfsOk.refl _ _, fun n h => by simp at h⟩⟩
    | cons n r ih =>
      intro at_ seen hf hsub hlt hat hs hv hlead
      have h1 := hd n seen hf (hlt n (by simp)) hs hv (fun i hi => by
        have hn := hsub n (by simp)
        rcases hlead i hi with rfl | h
        · exact .one hn
        · exact .more h hn)
      unfold dfsL
      obtain ⟨s, b, he⟩ : ∃ s b, dfs succ (f + 1) n seen = (b, s) := ⟨_, _, rfl⟩
      rw [he] at h1 ⊢
      cases b with
      | true => exact ⟨fun _ => h1.1 rfl, fun h => by simp at h⟩
      | false =>
        obtain ⟨ok, hn2⟩ := h1.2 rfl
        simp only at ok hn2 ⊢
        have h2 := ih at_ s (Nat.lt_of_le_of_lt ok.fresh hf) (fun m hm => hsub m (by simp [hm])) (fun m hm => by rw [ok.len]; exact hlt m (by simp [hm])) ((ok.grey at_).2 hat)
          (by rw [ok.len]; exact hs) (ok.vals hv) (fun i hi => hlead i ((ok.grey i).1 hi))
        refine ⟨fun h => by have := h2.1 h; rwa [ok.len] at this, fun h => ?_⟩
        obtain ⟨ok2, hall⟩ := h2.2 h
        refine ⟨ok.trans ok2, fun m hm => ?_⟩
        rcases List.mem_cons.1 hm with rfl | hm
        · exact ok2.black _ hn2
        · exact hall m hm

/- All nodes, one behind the other. -/
def rounds (succ : Nat → List Nat) (f : Nat) : List Nat → List Nat → Bool
  | [], _ => false
  | n :: r, seen => match dfs succ f n seen with
    | (true, _) => true
    | (false, s) => rounds succ f r s
theorem rounds_iff (succ : Nat → List Nat) (N f : Nat) (hf : N < f) (hs : ∀ i < N, ∀ j ∈ succ i, j < N) :
    rounds succ f (List.range N) (List.replicate N 0) = true ↔ ∃ i < N, ¬ Ends succ i := by
  have key : ∀ (l : List Nat) (seen : List Nat), seen.length = N → (∀ n ∈ l, n < N) → (∀ i, seen.getD i 0 ≠ 1) → (∀ i, seen.getD i 0 ≤ 2) → (∀ i, seen.getD i 0 = 2 → Ends succ i) → (∀ i < N, i ∈ l ∨ seen.getD i 0 = 2) →
      (rounds succ f l seen = true ↔ ∃ i < N, ¬ Ends succ i) := by
    intro l
    induction l with
    | nil =>
      intro seen _ _ _ _ he hall
      unfold rounds
      refine ⟨fun h => by simp at h, ?_⟩
      rintro ⟨i, hi, hn⟩
      rcases hall i hi with h | h
      · simp at h
      · exact absurd (he i h) hn
    | cons n r ih =>
      intro seen hl hlt hg hv he hall
      have hfr : fresh seen ≤ seen.length := List.countP_le_length
      have h1 := (dfs_all succ f).1 n seen (by omega) (by rw [hl]; exact hlt n (by simp)) (by rw [hl]; exact hs) hv (fun i hi => absurd hi (hg i))
      unfold rounds
      obtain ⟨s, b, hd⟩ : ∃ s b, dfs succ f n seen = (b, s) := ⟨_, _, rfl⟩
      rw [hd] at h1 ⊢
      cases b with
      | true =>
        refine ⟨fun _ => ?_, fun _ => rfl⟩
        obtain ⟨i, hi, w⟩ := h1.1 rfl
        exact ⟨i, by omega, fun h => h.no_round w⟩
      | false =>
        obtain ⟨ok, hn2⟩ := h1.2 rfl
        simp only at ok hn2 ⊢
        refine ih s (by rw [ok.len, hl]) (fun m hm => hlt m (by simp [hm])) (fun i hi => hg i ((ok.grey i).1 hi)) (ok.vals hv) (ok.ends he) (fun i hi => ?_)
        rcases hall i hi with h | h
        · rcases List.mem_cons.1 h with rfl | h
          · exact .inr hn2
          · exact .inl h
        · exact .inr (ok.black i h)
  refine key _ _ (by simp) (by simp) (fun i => ?_) (fun i => ?_) (fun i hi => ?_) (fun i hi => .inl (by simpa using hi))
  · simp [List.getD_eq_getElem?_getD, List.getElem?_replicate]; split <;> simp
  · simp [List.getD_eq_getElem?_getD, List.getElem?_replicate]; split <;> simp
  · simp [List.getD_eq_getElem?_getD, List.getElem?_replicate] at hi
    split at hi <;> simp at hi
/- Striking out. -/
def strike (succ : Nat → List Nat) (s : List Bool × Bool) (i : Nat) : List Bool × Bool :=
  if s.1.getD i true = true then s else if (succ i).all (fun j => s.1.getD j true) = true then (s.1.set i true, true) else s
def strikes (succ : Nat → List Nat) (l : List Nat) (s : List Bool × Bool) : List Bool × Bool := l.foldl (strike succ) s
def struck (succ : Nat → List Nat) (l : List Nat) : Nat → List Bool → List Bool
  | 0, g => g
  | f + 1, g => match strikes succ l (g, false) with
    | (g', true) => struck succ l f g'
    | (g', false) => g'
def left (g : List Bool) : Nat := g.countP (· == false)
theorem getD_setB (l : List Bool) (i j : Nat) (v : Bool) : (l.set i v).getD j true = if i = j ∧ i < l.length then v else l.getD j true := by
  simp only [List.getD_eq_getElem?_getD, List.getElem?_set]
  by_cases h : i = j
  · subst h
    by_cases h2 : i < l.length
    · simp [h2]
    · simp [h2]
  · simp [h]
theorem left_set {l : List Bool} {i : Nat} (h : l.getD i true = false) : left (l.set i true) + 1 = left l := by
  induction l generalizing i with
  | nil => simp at h
  | cons x r ih =>
    cases i with
    | zero =>
      simp at h
      subst h
      simp [left]
    | succ i =>
      have h1 := ih (i := i) (by simpa using h)
      unfold left at h1 ⊢
      simp only [List.set_cons_succ, List.countP_cons]
      omega
structure StrikeOk (succ : Nat → List Nat) (s s' : List Bool × Bool) : Prop where
  len : s'.1.length = s.1.length
  ends : (∀ i < s.1.length, s.1.getD i true = true → Ends succ i) → ∀ i < s.1.length, s'.1.getD i true = true → Ends succ i
  less : s'.2 = true → s.2 = false → left s'.1 < left s.1
  le : left s'.1 ≤ left s.1
  more : s.2 = true → s'.2 = true
  same : s'.2 = false → s' = s
theorem strike_ok {succ : Nat → List Nat} {s : List Bool × Bool} {i : Nat} (hs : ∀ j ∈ succ i, j < s.1.length) : StrikeOk succ s (strike succ s i) := by
  unfold strike
  split
  · exact ⟨rfl, fun h => h, fun a b => (by rw [a] at b; cases b), Nat.le_refl _, fun h => h, fun _ => rfl⟩
  · rename_i h0
    split
    · rename_i h1
      have h2 := left_set (l := s.1) (i := i) (by simpa using h0)
      refine ⟨by simp, fun he j hj h => ?_, fun _ _ => by simp only; omega, by simp only; omega, fun _ => rfl, fun h => by simp at h⟩
      simp only at h
      rw [getD_setB] at h
      split at h
      · rename_i hij
        rw [← hij.1]
        exact .mk _ (fun k hk => he k (hs k hk) (by simpa using List.all_eq_true.1 h1 k hk))
      · exact he j hj h
    · exact ⟨rfl, fun h => h, fun a b => (by rw [a] at b; cases b), Nat.le_refl _, fun h => h, fun _ => rfl⟩
theorem StrikeOk.trans {succ : Nat → List Nat} {a b c : List Bool × Bool} (h : StrikeOk succ a b) (k : StrikeOk succ b c) : StrikeOk succ a c :=
  ⟨by rw [k.len, h.len], fun he => by have := k.ends; rw [h.len] at this; exact this (h.ends he), fun h1 h2 => by
      cases hb : b.2 with
      | true => exact Nat.lt_of_le_of_lt k.le (h.less hb h2)
      | false => exact Nat.lt_of_lt_of_le (k.less h1 hb) h.le, Nat.le_trans k.le h.le, fun h1 => k.more (h.more h1), fun h1 => by
      cases hb : b.2 with
      | true => rw [k.more hb] at h1; cases h1
      | false => rw [k.same h1, h.same hb]⟩
theorem strikes_ok {succ : Nat → List Nat} {N : Nat} (hs : ∀ i < N, ∀ j ∈ succ i, j < N) : ∀ (l : List Nat) (s : List Bool × Bool), s.1.length = N → (∀ i ∈ l, i < N) →
    StrikeOk succ s (strikes succ l s) ∧ ((strikes succ l s).2 = false → ∀ i ∈ l, s.1.getD i true = false → ∃ j ∈ succ i, s.1.getD j true = false)
  | [], s, _, _ => ⟨⟨rfl, fun h => h, fun a b => (by rw [show (strikes succ [] s).2 = s.2 from rfl, b] at a; cases a), Nat.le_refl _, fun h => h, fun _ => rfl⟩, fun _ i h => by simp at h⟩
  | i :: r, s, hl, hlt => by
    have h1 := strike_ok (s := s) (i := i) (by rw [hl]; exact hs i (hlt i (by simp)))
    obtain ⟨h2, h3⟩ := strikes_ok hs r (strike succ s i) (by rw [h1.len, hl]) (fun j hj => hlt j (by simp [hj]))
    have e : strikes succ (i :: r) s = strikes succ r (strike succ s i) := rfl
    rw [e]
    refine ⟨h1.trans h2, fun hf j hj hg => ?_⟩
    have hsame : strike succ s i = s := h1.same (by
      cases hb : (strike succ s i).2 with
      | false => rfl
      | true => rw [h2.more hb] at hf; cases hf)
    rcases List.mem_cons.1 hj with rfl | hj
    · unfold strike at hsame
      rw [if_neg (by rw [hg]; simp)] at hsame
      split at hsame
      · rename_i h4
        have : left (s.1.set j true) = left s.1 := by rw [show s.1.set j true = s.1 from congrArg Prod.fst hsame]
        have := left_set hg
        omega
      · rename_i h4
        simp only [List.all_eq_true, Classical.not_forall] at h4
        obtain ⟨k, hk, h5⟩ := h4
        exact ⟨k, hk, by simpa using h5⟩
    · rw [hsame] at h3 hf
      exact h3 hf j hj hg
theorem struck_all {succ : Nat → List Nat} {N : Nat} (hs : ∀ i < N, ∀ j ∈ succ i, j < N) (l : List Nat) (hl : ∀ i, i ∈ l ↔ i < N) : ∀ (f : Nat) (g : List Bool), g.length = N → left g < f → (∀ i < N, g.getD i true = true → Ends succ i) →
    (struck succ l f g).length = N ∧ ∀ i < N, ((struck succ l f g).getD i true = true ↔ Ends succ i)
  | 0, g, _, h, _ => by omega
  | f + 1, g, hg, hf, he => by
    obtain ⟨ok, hfix⟩ := strikes_ok hs l (g, false) hg (fun i hi => (hl i).1 hi)
    unfold struck
    obtain ⟨g', b, hd⟩ : ∃ g' b, strikes succ l (g, false) = (g', b) := ⟨_, _, rfl⟩
    rw [hd] at ok hfix ⊢
    have hlen : g'.length = N := by have := ok.len; simp only at this; omega
    cases b with
    | true =>
      have := ok.less rfl rfl
      simp only at this
      exact struck_all hs l hl f g' hlen (by omega) (by have := ok.ends; simp only [hg] at this; exact this he)
    | false =>
      have hsame := ok.same rfl
      simp only [Prod.mk.injEq] at hsame
      obtain ⟨rfl, _⟩ := hsame
      refine ⟨hlen, fun i hi => ⟨he i hi, fun h => ?_⟩⟩
      induction h with
      | mk i h ih =>
        simp only
        cases hg2 : g'.getD i true with
        | true => rfl
        | false =>
          obtain ⟨j, hj, hg3⟩ := hfix rfl i ((hl i).2 hi) hg2
          have := ih j hj (hs i hi j hj)
          simp only at this hg3
          rw [this] at hg3; cases hg3
/-- Nodes that lead nowhere may be left out of what is led to. -/
theorem ends_filter {succ : Nat → List Nat} {p : Nat → Bool} (hp : ∀ j, p j = false → Ends succ j) (i : Nat) : Ends (fun i => (succ i).filter p) i ↔ Ends succ i := by
  constructor
  · intro h
    induction h with
    | mk i h ih =>
      refine .mk _ (fun j hj => ?_)
      cases hpj : p j with
      | false => exact hp j hpj
      | true => exact ih j (by simp [hj, hpj])
  · intro h
    induction h with
    | mk i h ih => exact .mk _ (fun j hj => ih j ((List.mem_filter.1 hj).1))
end Go.Am
end
section
namespace Go.Am

structure Ins where
  op : Int
  a : Int
  b : Int
  n : Int
  m : Int

/-- Cells that are there. -/
def cellB (cells at_ n : Int) : Bool := decide (0 ≤ at_) && decide (0 ≤ n) && decide (n ≤ cells) && decide (at_ ≤ cells - n)
def thereB (cells at_ n : Int) : Bool := decide (0 ≤ at_) && decide (at_ ≤ 8192) && decide (at_ + n ≤ cells)
theorem cell_there {cells at_ n : Int} (hc : 0 ≤ cells ∧ cells ≤ 8192) (hn : 1 ≤ n) : cellB cells at_ n = thereB cells at_ n := by
  unfold cellB thereB
  rw [Bool.eq_iff_iff]
  simp only [Bool.and_eq_true, decide_eq_true_eq]
  omega
def doesB (x : Ins) : Bool :=
  if x.a = 0 then decide (x.b = 6) || decide (8 ≤ x.b) && decide (x.b ≤ 18)
  else if x.a = 1 then decide (x.b = 7) || decide (x.b = 13) || decide (x.b = 14) || decide (19 ≤ x.b) && decide (x.b ≤ 21)
  else false
def arrB (cells : Int) (x : Ins) : Bool := decide (0 ≤ x.n) && decide (x.n ≤ x.m) && decide (x.m ≤ 255) && cellB cells x.a (x.m - x.n + 1)
/-- Is an instruction one by itself? pins: how many cells a block of a kind has. -/
def formB (pins : Int → Nat) (cells last at_ : Int) (x : Ins) : Bool :=
  if x.op = 1 ∨ x.op = 11 then true
  else if x.op = 2 ∨ x.op = 3 ∨ x.op = 6 ∨ x.op = 14 then cellB cells x.a 1
  else if x.op = 13 then cellB cells x.a 1 && cellB cells x.b 2
  else if x.op = 4 ∨ x.op = 5 ∨ x.op = 7 then arrB cells x
  else if x.op = 8 then doesB x
  else if x.op = 9 ∨ x.op = 10 then decide (0 ≤ x.a) && decide (x.a ≤ last)
  else if x.op = 12 then decide (0 < pins x.b) && cellB cells x.a (pins x.b)
  else if x.op = 15 then decide (at_ = last)
  else false
def formsB (pins : Int → Nat) (cells last : Int) : Nat → List Ins → Bool
  | _, [] => true
  | i, x :: r => formB pins cells last i x && formsB pins cells last (i + 1) r

/-- What an instruction does with the stack: its truths, the top at the end. -/
def takeS (n : Nat) (t : Bool) (S : List Bool) : Option (List Bool) :=
  if S.length < n then none else if t && (S.drop (S.length - n)).any (fun b => !b) then none else some (S.take (S.length - n))
def giveS (t : Bool) (S : List Bool) : Option (List Bool) := if S.length < 64 then some (S ++ [t]) else none
def emptyS (S : List Bool) : Option (List Bool) := if S = [] then some [] else none
def movesS (x : Ins) (S : List Bool) : Option (List Bool) :=
  if x.op = 1 then giveS (decide (x.n = 0) || decide (x.n = 1)) S
  else if x.op = 2 then giveS false S
  else if x.op = 3 ∨ x.op = 13 ∨ x.op = 14 then giveS true S
  else if x.op = 4 then (takeS 1 false S).bind (giveS false)
  else if x.op = 5 then (takeS 1 false S).bind (giveS true)
  else if x.op = 6 then takeS 1 false S
  else if x.op = 7 then takeS 2 false S
  else if x.op = 8 then (takeS (if x.b = 6 ∨ x.b = 7 then 1 else 2) (decide (x.a = 1)) S).bind (giveS (decide (x.b = 7) || decide (13 ≤ x.b)))
  else if x.op = 10 then (takeS 1 true S).bind emptyS
  else emptyS S
def stackS (led : List Bool) : Nat → List Ins → List Bool → Bool
  | _, [], _ => true
  | i, x :: r, S => if led.getD i false && !S.isEmpty then false else match movesS x S with
    | none => false
    | some S' => stackS led (i + 1) r S'
/-- Where jumps lead. -/
def ledOf (ins : List Ins) : List Bool := ins.foldl (fun l x => if x.op = 9 ∨ x.op = 10 then l.set x.a.toNat true else l) (List.replicate ins.length false)

/-- The next places, those of steps left out. -/
def nextI (ins : List Ins) (i : Nat) : List Nat :=
  match ins[i]? with
  | none => []
  | some x => if x.op = 9 then [x.a.toNat] else if x.op = 10 then [i + 1, x.a.toNat] else if x.op = 15 then [] else [i + 1]
def tickAt (ins : List Ins) (i : Nat) : Bool :=
  match ins[i]? with
  | none => false
  | some x => decide (x.op = 11)
def succI (ins : List Ins) (i : Nat) : List Nat := if tickAt ins i = true then [] else nextI ins i
/-- The program's: without the steps. -/
def succP (ins : List Ins) (i : Nat) : List Nat := (succI ins i).filter fun j => !tickAt ins j
theorem succ_ends (ins : List Ins) (i : Nat) : Ends (succP ins) i ↔ Ends (succI ins) i :=
  ends_filter (p := fun j => !tickAt ins j) (fun j hj => .mk _ (fun k hk => by
    have : tickAt ins j = true := by simpa using hj
    simp [succI, this] at hk)) i
def headB (n vars cells : Int) (lastOp : Int) : Bool := decide (1 ≤ n) && decide (n ≤ 4096) && decide (0 ≤ cells) && decide (cells ≤ 8192) && decide (0 ≤ vars) && decide (vars ≤ cells) && decide (lastOp = 15)
def lastOp (ins : List Ins) : Int := (ins.getLast?.map (·.op)).getD 0
def okForms (pins : Int → Nat) (ins : List Ins) (vars cells : Int) : Bool := headB ins.length vars cells (lastOp ins) && formsB pins cells ((ins.length : Int) - 1) 0 ins
/-- Can it be run? -/
def okCode (pins : Int → Nat) (ins : List Ins) (vars cells : Int) : Bool :=
  okForms pins ins vars cells && stackS (ledOf ins) 0 ins [] && !(rounds (succP ins) (ins.length + 1) (List.range ins.length) (List.replicate ins.length 0))

theorem forms_get {pins : Int → Nat} {cells last : Int} : ∀ {ins : List Ins} {i0 : Nat}, formsB pins cells last i0 ins = true → ∀ i x, ins[i]? = some x → formB pins cells last ((i0 + i : Nat) : Int) x = true
  | y :: r, i0, h, i, x, hx => by
    simp only [formsB, Bool.and_eq_true] at h
    cases i with
    | zero => simp at hx; subst hx; exact h.1
    | succ i =>
      have := forms_get h.2 i x (by simpa using hx)
      rw [show i0 + (i + 1) = i0 + 1 + i by omega]
      exact this
theorem succ_in {pins : Int → Nat} {ins : List Ins} {vars cells : Int} (h : okForms pins ins vars cells = true) : ∀ i < ins.length, ∀ j ∈ succI ins i, j < ins.length := by
  intro i hi j hj
  simp only [okForms, Bool.and_eq_true] at h
  have hx : ins[i]? = some ins[i] := by simp [hi]
  have hf := forms_get h.2 i _ hx
  simp only [Nat.zero_add] at hf
  have hlast : i + 1 = ins.length → ins[i].op = 15 := by
    intro h1
    have h2 := h.1
    simp only [headB, Bool.and_eq_true, decide_eq_true_eq] at h2
    have h3 := h2.2
    unfold lastOp at h3
    rw [List.getLast?_eq_getElem?, show ins.length - 1 = i by omega, hx] at h3
    simpa using h3
  unfold succI at hj
  split at hj
  · simp at hj
  · unfold nextI at hj
    rw [hx] at hj
    simp only at hj
    unfold formB at hf
    by_cases h9 : ins[i].op = 9
    · simp [h9] at hj hf
      omega
    · by_cases h10 : ins[i].op = 10
      · simp [h10] at hj hf
        have : i + 1 ≠ ins.length := fun h => by have := hlast h; omega
        omega
      · by_cases h15 : ins[i].op = 15
        · simp [h15] at hj
        · simp [h9, h10, h15] at hj
          have : i + 1 ≠ ins.length := fun h => h15 (hlast h)
          omega
theorem round_iff {pins : Int → Nat} {ins : List Ins} {vars cells : Int} (h : okForms pins ins vars cells = true) :
    rounds (succP ins) (ins.length + 1) (List.range ins.length) (List.replicate ins.length 0) = true ↔ ∃ i < ins.length, ¬ Ends (succI ins) i := by
  rw [rounds_iff (succP ins) ins.length (ins.length + 1) (by omega) (fun i hi j hj => succ_in h i hi j (List.mem_filter.1 hj).1)]
  simp only [succ_ends]
end Go.Am
end
section
namespace Go.Am

def moveI (n : Int) (x : Ins) : Ins := if x.op = 9 ∨ x.op = 10 then { x with a := x.a + n } else x
theorem moveI_op (n : Int) (x : Ins) : (moveI n x).op = x.op := by unfold moveI; split <;> rfl
theorem moveI_n (n : Int) (x : Ins) : (moveI n x).n = x.n := by unfold moveI; split <;> rfl
theorem moveI_b (n : Int) (x : Ins) : (moveI n x).b = x.b := by unfold moveI; split <;> rfl
theorem moveI_else {n : Int} {x : Ins} (h : ¬ (x.op = 9 ∨ x.op = 10)) : moveI n x = x := by unfold moveI; rw [if_neg h]
theorem cell_mono {c c' a n : Int} (h : c ≤ c') (hc : cellB c a n = true) : cellB c' a n = true := by
  unfold cellB at *
  simp only [Bool.and_eq_true, decide_eq_true_eq] at *
  omega
theorem arr_mono {c c' : Int} {x : Ins} (h : c ≤ c') (hc : arrB c x = true) : arrB c' x = true := by
  unfold arrB at *
  simp only [Bool.and_eq_true] at *
  exact ⟨hc.1, cell_mono h hc.2⟩
theorem form_mono {pins : Int → Nat} {c c' last last' at_ at' : Int} {x : Ins} (h : c ≤ c') (hl : last ≤ last') (h15 : x.op = 15 → at' = last') (hf : formB pins c last at_ x = true) : formB pins c' last' at' x = true := by
  unfold formB at *
  by_cases e1 : x.op = 1 ∨ x.op = 11
  · rw [if_pos e1]
  rw [if_neg e1] at hf ⊢
  by_cases e2 : x.op = 2 ∨ x.op = 3 ∨ x.op = 6 ∨ x.op = 14
  · rw [if_pos e2] at hf ⊢; exact cell_mono h hf
  rw [if_neg e2] at hf ⊢
  by_cases e3 : x.op = 13
  · rw [if_pos e3] at hf ⊢
    simp only [Bool.and_eq_true] at *
    exact ⟨cell_mono h hf.1, cell_mono h hf.2⟩
  rw [if_neg e3] at hf ⊢
  by_cases e4 : x.op = 4 ∨ x.op = 5 ∨ x.op = 7
  · rw [if_pos e4] at hf ⊢; exact arr_mono h hf
  rw [if_neg e4] at hf ⊢
  by_cases e5 : x.op = 8
  · rw [if_pos e5] at hf ⊢; exact hf
  rw [if_neg e5] at hf ⊢
  by_cases e6 : x.op = 9 ∨ x.op = 10
  · rw [if_pos e6] at hf ⊢
    simp only [Bool.and_eq_true, decide_eq_true_eq] at *
    omega
  rw [if_neg e6] at hf ⊢
  by_cases e7 : x.op = 12
  · rw [if_pos e7] at hf ⊢
    simp only [Bool.and_eq_true] at *
    exact ⟨hf.1, cell_mono h hf.2⟩
  rw [if_neg e7] at hf ⊢
  by_cases e8 : x.op = 15
  · rw [if_pos e8]; simpa using h15 e8
  · rw [if_neg e8] at hf; cases hf
theorem form_move {pins : Int → Nat} {c last at_ n : Int} {x : Ins} (hn : 0 ≤ n) (hf : formB pins c last at_ x = true) : formB pins c (last + n) (at_ + n) (moveI n x) = true := by
  by_cases e6 : x.op = 9 ∨ x.op = 10
  · unfold formB at *
    rw [moveI_op]
    rcases e6 with e | e
    · simp [e] at hf ⊢
      simp [moveI, e]; omega
    · simp [e] at hf ⊢
      simp [moveI, e]; omega
  · rw [moveI_else e6]
    exact form_mono (Int.le_refl _) (by omega) (fun h15 => by
      unfold formB at hf
      simp [h15] at hf
      omega) hf
theorem forms_iff {pins : Int → Nat} {cells last : Int} : ∀ {ins : List Ins} {i0 : Nat}, formsB pins cells last i0 ins = true ↔ ∀ i x, ins[i]? = some x → formB pins cells last ((i0 + i : Nat) : Int) x = true
  | [], i0 => by simp [formsB]
  | y :: r, i0 => by
    constructor
    · intro h i x hx; exact forms_get h i x hx
    · intro h
      simp only [formsB, Bool.and_eq_true]
      refine ⟨by simpa using h 0 y rfl, forms_iff.2 (fun i x hx => ?_)⟩
      have := h (i + 1) x (by simpa using hx)
      rw [show i0 + 1 + i = i0 + (i + 1) by omega]
      exact this

/- The stack, run through. -/
def runS (led : List Bool) : Nat → List Ins → List Bool → Option (List Bool)
  | _, [], S => some S
  | i, x :: r, S => if led.getD i false && !S.isEmpty then none else (movesS x S).bind (runS led (i + 1) r)
theorem stack_run (led : List Bool) : ∀ (l : List Ins) (i : Nat) (S : List Bool), stackS led i l S = (runS led i l S).isSome
  | [], i, S => rfl
  | x :: r, i, S => by
    unfold stackS runS
    split
    · rfl
    · cases movesS x S with
      | none => rfl
      | some S' => exact stack_run led r (i + 1) S'
theorem run_append (led : List Bool) : ∀ (l1 l2 : List Ins) (i : Nat) (S : List Bool), runS led i (l1 ++ l2) S = (runS led i l1 S).bind (runS led (i + l1.length) l2)
  | [], l2, i, S => rfl
  | x :: r, l2, i, S => by
    simp only [List.cons_append, runS, List.length_cons]
    split
    · rfl
    · cases movesS x S with
      | none => rfl
      | some S' =>
        simp only [Option.bind_some]
        rw [run_append led r l2 (i + 1) S', show i + 1 + r.length = i + (r.length + 1) by omega]
theorem run_congr {led led' : List Bool} : ∀ (l : List Ins) (i : Nat) (S : List Bool), (∀ j, i ≤ j → j < i + l.length → led.getD j false = led'.getD j false) → runS led i l S = runS led' i l S
  | [], i, S, _ => rfl
  | x :: r, i, S, h => by
    simp only [runS]
    rw [h i (Nat.le_refl _) (by simp)]
    split
    · rfl
    · cases movesS x S with
      | none => rfl
      | some S' =>
        simp only [Option.bind_some]
        exact run_congr r (i + 1) S' (fun j h1 h2 => h j (by omega) (by simp; omega))
theorem moves_move (n : Int) (x : Ins) (S : List Bool) : movesS (moveI n x) S = movesS x S := by
  by_cases e : x.op = 9 ∨ x.op = 10
  · unfold movesS
    rw [moveI_op]
    rcases e with e | e <;> simp [e]
  · rw [moveI_else e]
theorem run_move {led led' : List Bool} (n : Int) (k : Nat) : ∀ (l : List Ins) (i : Nat) (S : List Bool), (∀ j, i ≤ j → 1 ≤ j → led'.getD (k + j) false = led.getD j false) → (i = 0 → S = []) →
    runS led' (k + i) (l.map (moveI n)) S = runS led i l S
  | [], i, S, _, _ => rfl
  | x :: r, i, S, h, h0 => by
    simp only [List.map_cons, runS, moves_move]
    have e : (led'.getD (k + i) false && !S.isEmpty) = (led.getD i false && !S.isEmpty) := by
      cases i with
      | zero => rw [h0 rfl]; simp
      | succ i => rw [h (i + 1) (Nat.le_refl _) (by omega)]
    rw [e]
    split
    · rfl
    · cases movesS x S with
      | none => rfl
      | some S' =>
        simp only [Option.bind_some]
        exact run_move n k r (i + 1) S' (fun j h1 h2 => h j (by omega) h2) (fun h => by omega)
def jumpTo (i : Nat) (x : Ins) : Bool := decide (x.op = 9 ∨ x.op = 10) && decide (x.a.toNat = i)
theorem led_get (i : Nat) : ∀ (l : List Ins) (T : List Bool), i < T.length →
    (l.foldl (fun l x => if x.op = 9 ∨ x.op = 10 then l.set x.a.toNat true else l) T).getD i false = (T.getD i false || l.any (jumpTo i))
  | [], T, h => by simp
  | x :: r, T, h => by
    simp only [List.foldl_cons, List.any_cons]
    by_cases e : x.op = 9 ∨ x.op = 10
    · rw [if_pos e, led_get i r _ (by simpa using h)]
      have : (T.set x.a.toNat true).getD i false = (T.getD i false || jumpTo i x) := by
        simp only [List.getD_eq_getElem?_getD, List.getElem?_set, jumpTo, e, decide_true, Bool.true_and]
        by_cases h2 : x.a.toNat = i
        · subst h2; simp [h]
        · simp [h2]
      rw [this, Bool.or_assoc]
    · rw [if_neg e, led_get i r _ h]
      simp [jumpTo, e]
theorem ledOf_get {ins : List Ins} {i : Nat} (h : i < ins.length) : (ledOf ins).getD i false = ins.any (jumpTo i) := by
  unfold ledOf
  rw [led_get i ins _ (by simpa using h)]
  simp [List.getD_eq_getElem?_getD, h]
theorem ledOf_out {ins : List Ins} {i : Nat} (h : ins.length ≤ i) : (ledOf ins).getD i false = false := by
  have hl : ∀ (l : List Ins) (T : List Bool), (l.foldl (fun l x => if x.op = 9 ∨ x.op = 10 then l.set x.a.toNat true else l) T).length = T.length := by
    intro l
    induction l with
    | nil => intro T; rfl
    | cons x r ih => intro T; simp only [List.foldl_cons]; rw [ih]; split <;> simp
  have : (ledOf ins).length = ins.length := by unfold ledOf; rw [hl]; simp
  simp [List.getD_eq_getElem?_getD, List.getElem?_eq_none (by omega : (ledOf ins).length ≤ i)]
end Go.Am
end
section
namespace Go.Am
/- Ranks. -/
def Bd (succ : Nat → List Nat) : Nat → Nat → Prop
  | 0, i => succ i = []
  | h + 1, i => ∀ j ∈ succ i, Bd succ h j
theorem Bd.succ {succ : Nat → List Nat} : ∀ {h i : Nat}, Bd succ h i → Bd succ (h + 1) i
  | 0, i, hb => fun j hj => by rw [show succ i = [] from hb] at hj; simp at hj
  | h + 1, i, hb => fun j hj => (hb j hj).succ
theorem Bd.le {succ : Nat → List Nat} {h h' i : Nat} (hb : Bd succ h i) (hl : h ≤ h') : Bd succ h' i := by
  induction hl with
  | refl => exact hb
  | step _ ih => exact ih.succ
theorem bd_list {succ : Nat → List Nat} : ∀ (l : List Nat), (∀ j ∈ l, ∃ h, Bd succ h j) → ∃ h, ∀ j ∈ l, Bd succ h j
  | [], _ => ⟨0, fun j h => by simp at h⟩
  | x :: r, h => by
    obtain ⟨h1, k1⟩ := h x (by simp)
    obtain ⟨h2, k2⟩ := bd_list r (fun j hj => h j (by simp [hj]))
    refine ⟨max h1 h2, fun j hj => ?_⟩
    rcases List.mem_cons.1 hj with rfl | hj
    · exact k1.le (by omega)
    · exact (k2 j hj).le (by omega)
theorem ends_bd {succ : Nat → List Nat} {i : Nat} (h : Ends succ i) : ∃ h, Bd succ h i := by
  induction h with
  | mk i _ ih =>
    obtain ⟨h, hb⟩ := bd_list (succ i) ih
    exact ⟨h + 1, hb⟩
theorem least {P : Nat → Prop} (h : ∃ n, P n) : ∃ n, P n ∧ ∀ m, m < n → ¬ P m := by
  obtain ⟨n, hn⟩ := h
  induction n using Nat.strongRecOn with
  | ind n ih =>
    by_cases hm : ∃ m, m < n ∧ P m
    · obtain ⟨m, h1, h2⟩ := hm
      exact ih m h1 h2
    · exact ⟨n, hn, fun m h1 h2 => hm ⟨m, h1, h2⟩⟩
theorem ranked {succ : Nat → List Nat} : ∃ r : Nat → Nat, ∀ i, Ends succ i → ∀ j ∈ succ i, r j < r i := by
  classical
  let r : Nat → Nat := fun i => if h : ∃ n, Bd succ n i then Classical.choose (least h) else 0
  refine ⟨r, fun i hi j hj => ?_⟩
  have hi2 := ends_bd hi
  have hj2 : ∃ n, Bd succ n j := ends_bd (by cases hi with | mk _ h => exact h j hj)
  have hir : r i = Classical.choose (least hi2) := dif_pos hi2
  have hjr : r j = Classical.choose (least hj2) := dif_pos hj2
  obtain ⟨a1, a2⟩ := Classical.choose_spec (least hi2)
  obtain ⟨b1, b2⟩ := Classical.choose_spec (least hj2)
  rw [← hir] at a1 a2
  rw [← hjr] at b1 b2
  cases hri : r i with
  | zero =>
    rw [hri] at a1
    rw [show succ i = [] from a1] at hj
    simp at hj
  | succ n =>
    rw [hri] at a1
    have h3 : Bd succ n j := a1 j hj
    exact Classical.byContradiction fun hn => b2 n (by omega) h3
theorem ends_of_rank {succ : Nat → List Nat} {N : Nat} {r : Nat → Nat} (h : ∀ i < N, ∀ j ∈ succ i, j < N ∧ r j < r i) : ∀ i < N, Ends succ i := by
  have key : ∀ (m i : Nat), r i < m → i < N → Ends succ i := by
    intro m
    induction m with
    | zero => intro i hi; omega
    | succ m ih =>
      intro i hi hN
      exact .mk i (fun j hj => ih j (by have := (h i hN j hj).2; omega) (h i hN j hj).1)
  exact fun i hi => key _ i (Nat.lt_succ_self _) hi

def isJ (x : Ins) : Prop := x.op = 9 ∨ x.op = 10
instance (x : Ins) : Decidable (isJ x) := inferInstanceAs (Decidable (_ ∨ _))
/-- Code that can be run: ranks of its instructions, the stack ahead of each. -/
structure Good (pins : Int → Nat) (cells : Int) (l : List Ins) (r : Nat → Nat) (st : Nat → List Bool) : Prop where
  len : 1 ≤ l.length ∧ l.length ≤ 4096
  last : ∀ x, l[l.length - 1]? = some x → x.op = 15
  form : ∀ (i : Nat) x, l[i]? = some x → formB pins cells ((l.length : Int) - 1) i x = true
  st0 : st 0 = []
  mv : ∀ (i : Nat) x, l[i]? = some x → movesS x (st i) = some (st (i + 1))
  led : ∀ (i : Nat) x, l[i]? = some x → isJ x → st x.a.toNat = []
  rank : ∀ (i : Nat) x, l[i]? = some x → x.op ≠ 11 → ∀ j ∈ nextI l i, r j < r i
theorem Good.tgt {pins cells l r st} (h : Good pins cells l r st) {i : Nat} {x : Ins} (hx : l[i]? = some x) (hj : isJ x) : 0 ≤ x.a ∧ x.a.toNat < l.length := by
  have := h.form i x hx
  unfold formB at this
  have h1 := h.len.1
  rcases hj with e | e
  · simp [e] at this; omega
  · simp [e] at this; omega
theorem Good.fifteen {pins cells l r st} (h : Good pins cells l r st) {i : Nat} {x : Ins} (hx : l[i]? = some x) : x.op = 15 ↔ i + 1 = l.length := by
  constructor
  · intro e
    have := h.form i x hx
    unfold formB at this
    simp [e] at this
    have := h.len.1
    omega
  · intro e
    exact h.last x (by rw [show l.length - 1 = i by omega]; exact hx)
theorem stack_st (led : List Bool) : ∀ (l : List Ins) (i : Nat) (S : List Bool), stackS led i l S = true → ∃ st : Nat → List Bool, st i = S ∧ ∀ k x, l[k]? = some x → (led.getD (i + k) false = true → st (i + k) = []) ∧ movesS x (st (i + k)) = some (st (i + k + 1))
  | [], i, S, _ => ⟨fun _ => S, rfl, fun k x h => by simp at h⟩
  | x :: r, i, S, h => by
    unfold stackS at h
    split at h
    · cases h
    · rename_i hl
      cases hm : movesS x S with
      | none => rw [hm] at h; cases h
      | some S' =>
        rw [hm] at h
        obtain ⟨st, h1, h2⟩ := stack_st led r (i + 1) S' h
        refine ⟨fun k => if k = i then S else st k, by simp, fun k y hy => ?_⟩
        cases k with
        | zero =>
          simp at hy
          subst hy
          simp only [Nat.add_zero, if_true]
          refine ⟨fun hled => ?_, by rw [if_neg (by omega), h1]; exact hm⟩
          rw [hled] at hl
          simpa using hl
        | succ k =>
          have := h2 k y (by simpa using hy)
          simp only [show ¬ (i + (k + 1) = i) by omega, show ¬ (i + (k + 1) + 1 = i) by omega, if_false]
          rw [show i + 1 + k = i + (k + 1) by omega] at this
          exact this
theorem st_stack (led : List Bool) (st : Nat → List Bool) : ∀ (l : List Ins) (i : Nat), (∀ k x, l[k]? = some x → (led.getD (i + k) false = true → st (i + k) = []) ∧ movesS x (st (i + k)) = some (st (i + k + 1))) → stackS led i l (st i) = true
  | [], i, _ => rfl
  | x :: r, i, h => by
    have h0 := h 0 x rfl
    simp only [Nat.add_zero] at h0
    unfold stackS
    rw [if_neg, h0.2]
    · exact st_stack led st r (i + 1) (fun k y hy => by
        have := h (k + 1) y (by simpa using hy)
        rw [show i + (k + 1) = i + 1 + k by omega] at this
        exact this)
    · intro hc
      simp only [Bool.and_eq_true, Bool.not_eq_true', List.isEmpty_eq_false_iff] at hc
      exact hc.2 (h0.1 hc.1)
theorem good_of {pins : Int → Nat} {l : List Ins} {vars cells : Int} (h : okCode pins l vars cells = true) : (0 ≤ cells ∧ cells ≤ 8192 ∧ 0 ≤ vars ∧ vars ≤ cells) ∧ ∃ r st, Good pins cells l r st := by
  simp only [okCode, Bool.and_eq_true] at h
  obtain ⟨⟨h1, h2⟩, h3⟩ := h
  have h1' := h1
  simp only [okForms, headB, Bool.and_eq_true, decide_eq_true_eq] at h1
  obtain ⟨⟨⟨⟨⟨⟨⟨a1, a2⟩, a3⟩, a4⟩, a5⟩, a6⟩, a7⟩, a8⟩ := h1
  refine ⟨⟨a3, a4, a5, a6⟩, ?_⟩
  obtain ⟨r, hr⟩ := ranked (succ := succI l)
  obtain ⟨st, s0, hs⟩ := stack_st _ _ _ _ h2
  have hends : ∀ i < l.length, Ends (succI l) i := by
    intro i hi
    exact Classical.byContradiction fun hn => by
      have := (round_iff h1').2 ⟨i, hi, hn⟩
      rw [this] at h3
      cases h3
  refine ⟨r, st, ⟨by omega, by omega⟩, fun x hx => ?_, fun i x hx => ?_, s0, fun i x hx => ?_, fun i x hx hj => ?_, fun i x hx hne j hj => ?_⟩
  · unfold lastOp at a7
    rw [List.getLast?_eq_getElem?, hx] at a7
    simpa using a7
  · have := forms_get a8 i x hx
    simpa using this
  · have := (hs i x hx).2
    simpa using this
  · have hf := forms_get a8 i x hx
    have hi := (List.getElem?_eq_some_iff.1 hx).1
    have hlt : x.a.toNat < l.length := by
      unfold formB at hf
      rcases hj with e | e
      · simp [e] at hf; omega
      · simp [e] at hf; omega
    have hled := ledOf_get hlt
    have : l.any (jumpTo x.a.toNat) = true := by
      rw [List.any_eq_true]
      refine ⟨x, List.mem_of_getElem? hx, ?_⟩
      unfold jumpTo
      have : (x.op = 9 ∨ x.op = 10) := hj
      simp [this]
    rw [this] at hled
    obtain ⟨y, hy⟩ : ∃ y, l[x.a.toNat]? = some y := ⟨_, List.getElem?_eq_getElem hlt⟩
    have := (hs _ y hy).1
    simp only [Nat.zero_add] at this
    exact this hled
  · have hi := (List.getElem?_eq_some_iff.1 hx).1
    refine hr i (hends i hi) j ?_
    unfold succI
    rw [if_neg]
    · exact hj
    · unfold tickAt
      rw [hx]
      simpa using hne
theorem nextI_in {pins cells l r st} (h : Good pins cells l r st) {i j : Nat} (hi : i < l.length) (hj : j ∈ nextI l i) : j < l.length := by
  have hx : l[i]? = some l[i] := by simp [hi]
  unfold nextI at hj
  rw [hx] at hj
  simp only at hj
  have h15 := h.fifteen hx
  by_cases e9 : l[i].op = 9
  · have := h.tgt hx (.inl e9)
    simp [e9] at hj
    omega
  · by_cases e10 : l[i].op = 10
    · have := h.tgt hx (.inr e10)
      simp [e10] at hj
      omega
    · by_cases e15 : l[i].op = 15
      · simp [e15] at hj
      · simp [e9, e10, e15] at hj
        have : ¬ (i + 1 = l.length) := fun h => e15 (h15.2 h)
        omega
theorem ok_of {pins : Int → Nat} {l : List Ins} {vars cells : Int} {r : Nat → Nat} {st : Nat → List Bool} (hv : 0 ≤ cells ∧ cells ≤ 8192 ∧ 0 ≤ vars ∧ vars ≤ cells) (h : Good pins cells l r st) : okCode pins l vars cells = true := by
  have hf : okForms pins l vars cells = true := by
    simp only [okForms, headB, Bool.and_eq_true, decide_eq_true_eq]
    have h1 := h.len
    refine ⟨⟨⟨⟨⟨⟨⟨by omega, by omega⟩, by omega⟩, by omega⟩, by omega⟩, by omega⟩, ?_⟩, forms_iff.2 (fun i x hx => by simpa using h.form i x hx)⟩
    unfold lastOp
    rw [List.getLast?_eq_getElem?, List.getElem?_eq_getElem (by omega)]
    have := h.last l[l.length - 1] (by rw [List.getElem?_eq_getElem (by omega)])
    simpa using this
  have hs : stackS (ledOf l) 0 l [] = true := by
    have := st_stack (ledOf l) st l 0 (fun k x hx => by
      refine ⟨fun hled => ?_, by simpa using h.mv k x hx⟩
      simp only [Nat.zero_add] at hled ⊢
      have hk := (List.getElem?_eq_some_iff.1 hx).1
      rw [ledOf_get hk, List.any_eq_true] at hled
      obtain ⟨y, hy, hyj⟩ := hled
      unfold jumpTo at hyj
      simp only [Bool.and_eq_true, decide_eq_true_eq] at hyj
      obtain ⟨i, hi, rfl⟩ := List.getElem_of_mem hy
      have := h.led i l[i] (by simp [hi]) hyj.1
      rw [hyj.2] at this
      exact this)
    rw [h.st0] at this
    exact this
  have hr : rounds (succP l) (l.length + 1) (List.range l.length) (List.replicate l.length 0) = false := by
    cases hq : rounds (succP l) (l.length + 1) (List.range l.length) (List.replicate l.length 0) with
    | false => rfl
    | true =>
      obtain ⟨i, hi, hn⟩ := (round_iff hf).1 hq
      refine absurd (ends_of_rank (N := l.length) (r := r) (fun i hi j hj => ?_) i hi) hn
      unfold succI at hj
      split at hj
      · simp at hj
      · rename_i ht
        refine ⟨nextI_in h hi hj, h.rank i l[i] (by simp [hi]) (fun e => ht ?_) j hj⟩
        unfold tickAt
        rw [List.getElem?_eq_getElem hi]
        simpa using e
  unfold okCode
  rw [hf, hs, hr]
  rfl
end Go.Am
end
section
namespace Go.Am
theorem set_get (l : List Ins) (i k : Nat) (x : Ins) : (l.set i x)[k]? = if i = k ∧ i < l.length then some x else l[k]? := by
  rw [List.getElem?_set]
  by_cases h : i = k
  · subst h
    by_cases h2 : i < l.length
    · simp [h2]
    · simp [h2]
  · simp [h]
theorem moves_a (x : Ins) (hj : isJ x) (z : Int) (S : List Bool) : movesS { x with a := z } S = movesS x S := by
  unfold movesS
  rcases hj with e | e <;> simp [e]
theorem Good.thread {pins cells l r st} (h : Good pins cells l r st) {i : Nat} {x y : Ins} (hx : l[i]? = some x) (hj : isJ x) (hy : l[x.a.toNat]? = some y) (h9 : y.op = 9) : Good pins cells (l.set i { x with a := y.a }) r st := by
  have hi := (List.getElem?_eq_some_iff.1 hx).1
  have hg : ∀ k, (l.set i { x with a := y.a })[k]? = if i = k then some { x with a := y.a } else l[k]? := fun k => by rw [set_get]; simp [hi]
  have hty := h.tgt hy (.inl h9)
  have hne : x.op ≠ 15 := by rcases hj with e | e <;> omega
  have hn11 : x.op ≠ 11 := by rcases hj with e | e <;> omega
  have hxa : x.a.toNat ∈ nextI l i := by
    unfold nextI
    rw [hx]
    rcases hj with e | e <;> simp [e]
  have hr1 := h.rank i x hx hn11 _ hxa
  have hr2 := h.rank _ y hy (by omega) y.a.toNat (by unfold nextI; rw [hy]; simp [h9])
  have hj' : isJ { x with a := y.a } := hj
  refine ⟨by simpa using h.len, fun z hz => ?_, fun k z hz => ?_, h.st0, fun k z hz => ?_, fun k z hz hzj => ?_, fun k z hz hz11 j hjn => ?_⟩
  · rw [List.length_set, hg] at hz
    split at hz
    · rename_i e
      exfalso
      exact hne ((h.fifteen hx).2 (by have := h.len.1; omega))
    · exact h.last z hz
  · rw [hg] at hz
    rw [List.length_set]
    split at hz
    · cases hz
      unfold formB
      rcases hj with e | e <;> simp [e] <;> omega
    · exact h.form k z hz
  · rw [hg] at hz
    split at hz
    · rename_i e
      cases hz
      subst e
      rw [moves_a x hj]
      exact h.mv i x hx
    · exact h.mv k z hz
  · rw [hg] at hz
    split at hz
    · cases hz
      exact h.led _ y hy (.inl h9)
    · exact h.led k z hz hzj
  · rw [hg] at hz
    by_cases e : i = k
    · subst e
      unfold nextI at hjn
      rw [hg, if_pos rfl] at hjn
      simp only at hjn
      rcases hj with e9 | e10
      · simp [e9] at hjn
        subst hjn
        omega
      · simp [e10] at hjn
        rcases hjn with rfl | rfl
        · exact h.rank i x hx hn11 (i + 1) (by unfold nextI; rw [hx]; simp [e10])
        · omega
    · rw [if_neg e] at hz
      have : nextI (l.set i { x with a := y.a }) k = nextI l k := by unfold nextI; rw [hg, if_neg e]
      rw [this] at hjn
      exact h.rank k z hz hz11 j hjn
/-- A jump to a jump leads on. -/
def thrAt (l : List Ins) (i : Nat) : Option (List Ins) :=
  match l[i]? with
  | none => none
  | some x => if isJ x then match l[x.a.toNat]? with
    | none => none
    | some y => if y.op = 9 ∧ x.a ≠ y.a then some (l.set i { x with a := y.a }) else none
  else none
inductive ThrI (i : Nat) : List Ins → List Ins → Bool → Prop
  | done (l) (h : thrAt l i = none) : ThrI i l l false
  | step (l l1 l2 b) (h : thrAt l i = some l1) (h2 : ThrI i l1 l2 b) : ThrI i l l2 true
inductive ThrL : Nat → List Ins → List Ins → Bool → Prop
  | fin (i l) (h : l.length ≤ i) : ThrL i l l false
  | step (i l l1 l2 b1 b2) (h : i < l.length) (h1 : ThrI i l l1 b1) (h2 : ThrL (i + 1) l1 l2 b2) : ThrL i l l2 (b1 || b2)
/-- No jump leads to a jump. -/
def NoT (l : List Ins) (k : Nat) : Prop := ∀ x y : Ins, l[k]? = some x → isJ x → l[x.a.toNat]? = some y → y.op ≠ 9
theorem thrAt_some {l l1 : List Ins} {i : Nat} (h : thrAt l i = some l1) : ∃ x y, l[i]? = some x ∧ isJ x ∧ l[x.a.toNat]? = some y ∧ y.op = 9 ∧ x.a ≠ y.a ∧ l1 = l.set i { x with a := y.a } := by
  unfold thrAt at h
  split at h
  · cases h
  · rename_i x hx
    split at h
    · rename_i hj
      split at h
      · cases h
      · rename_i y hy
        split at h
        · rename_i hc
          cases h
          exact ⟨x, y, hx, hj, hy, hc.1, hc.2, rfl⟩
        · cases h
    · cases h
theorem thrAt_none {pins cells l r st} (hg : Good pins cells l r st) {i : Nat} (h : thrAt l i = none) : NoT l i := by
  intro x y hx hj hy h9
  unfold thrAt at h
  rw [hx] at h
  simp only [hj, if_true, hy] at h
  split at h
  · cases h
  · rename_i hc
    apply hc
    refine ⟨h9, fun e => ?_⟩
    have h1 := hg.rank _ y hy (by omega) y.a.toNat (by unfold nextI; rw [hy]; simp [h9])
    rw [e] at h1
    omega
theorem NoT.none {l : List Ins} {i : Nat} (h : NoT l i) : thrAt l i = none := by
  unfold thrAt
  split
  · rfl
  · rename_i x hx
    split
    · rename_i hj
      split
      · rfl
      · rename_i y hy
        rw [if_neg (fun hc => h x y hx hj hy hc.1)]
    · rfl
/-- What threading leaves as it is. -/
structure Like (l l' : List Ins) : Prop where
  len : l'.length = l.length
  ops : ∀ k : Nat, (l'[k]?).map (·.op) = (l[k]?).map (·.op)
theorem Like.refl (l) : Like l l := ⟨rfl, fun _ => rfl⟩
theorem Like.trans {a b c} (h : Like a b) (k : Like b c) : Like a c := ⟨by rw [k.len, h.len], fun i => by rw [k.ops, h.ops]⟩
theorem thrI_ex {pins cells r st} (i : Nat) : ∀ (m : Nat) (l : List Ins), Good pins cells l r st → (∀ x, l[i]? = some x → r x.a.toNat < m) → ∃ l' b, ThrI i l l' b ∧ Good pins cells l' r st ∧ Like l l' ∧ (∀ k, k ≠ i → l'[k]? = l[k]?) ∧ NoT l' i
  | 0, l, hg, hm => by
    refine ⟨l, false, .done l ?_, hg, Like.refl l, fun _ _ => rfl, ?_⟩
    all_goals
      have hn : l[i]? = none := by
        cases hx : l[i]? with
        | none => rfl
        | some x => exact absurd (hm x hx) (by omega)
    · unfold thrAt; rw [hn]
    · intro x y hx; rw [hn] at hx; cases hx
  | m + 1, l, hg, hm => by
    cases ht : thrAt l i with
    | none => exact ⟨l, false, .done l ht, hg, Like.refl l, fun _ _ => rfl, thrAt_none hg ht⟩
    | some l1 =>
      obtain ⟨x, y, hx, hj, hy, h9, hne, rfl⟩ := thrAt_some ht
      have hi := (List.getElem?_eq_some_iff.1 hx).1
      have hg1 := hg.thread hx hj hy h9
      have hr2 := hg.rank _ y hy (by omega) y.a.toNat (by unfold nextI; rw [hy]; simp [h9])
      obtain ⟨l', b, h1, h2, h3, h4, h5⟩ := thrI_ex i m _ hg1 (fun z hz => by
        rw [set_get, if_pos ⟨rfl, hi⟩] at hz
        cases hz
        have := hm x hx
        show r y.a.toNat < m
        omega)
      refine ⟨l', true, .step l _ l' b ht h1, h2, ⟨by rw [h3.len]; simp, fun k => ?_⟩, fun k hk => ?_, h5⟩
      · rw [h3.ops, set_get]
        split
        · rename_i hc
          rw [← hc.1, hx]
          rfl
        · rfl
      · rw [h4 k hk, set_get, if_neg (fun hc => hk hc.1.symm)]
theorem NoT.like {l l' : List Ins} {k : Nat} (h : NoT l k) (hl : Like l l') (hk : l'[k]? = l[k]?) : NoT l' k := by
  intro x y hx hj hy h9
  rw [hk] at hx
  have := hl.ops x.a.toNat
  rw [hy] at this
  cases hz : l[x.a.toNat]? with
  | none => rw [hz] at this; cases this
  | some z =>
    rw [hz] at this
    simp only [Option.map_some, Option.some.injEq] at this
    exact h x z hx hj hz (by omega)
theorem thrL_ex {pins cells r st} : ∀ (d i : Nat) (l : List Ins), i + d = l.length → Good pins cells l r st → ∃ l' b, ThrL i l l' b ∧ Good pins cells l' r st ∧ Like l l' ∧ (∀ k, k < i → l'[k]? = l[k]?) ∧ (∀ k, i ≤ k → NoT l' k)
  | 0, i, l, hi, hg => ⟨l, false, .fin i l (by omega), hg, Like.refl l, fun _ _ => rfl, fun k hk x y hx => by rw [List.getElem?_eq_none (by omega)] at hx; cases hx⟩
  | d + 1, i, l, hi, hg => by
    obtain ⟨l1, b1, h1, h2, h3, h4, h5⟩ := thrI_ex i ((match l[i]? with | some x => r x.a.toNat | none => 0) + 1) l hg (fun x hx => by rw [hx]; simp only; omega)
    obtain ⟨l2, b2, k1, k2, k3, k4, k5⟩ := thrL_ex d (i + 1) l1 (by rw [h3.len]; omega) h2
    refine ⟨l2, b1 || b2, .step i l l1 l2 b1 b2 (by omega) h1 k1, k2, h3.trans k3, fun k hk => by rw [k4 k (by omega), h4 k (by omega)], fun k hk => ?_⟩
    by_cases e : k = i
    · subst e
      exact h5.like k3 (k4 k (by omega))
    · exact k5 k (by omega)
theorem thrL_same : ∀ (d i : Nat) (l : List Ins), i + d = l.length → (∀ k, NoT l k) → ThrL i l l false
  | 0, i, l, hi, h => .fin i l (by omega)
  | d + 1, i, l, hi, h => .step i l l l false false (by omega) (.done l (h i).none) (thrL_same d (i + 1) l (by omega) h)
end Go.Am
end
section
namespace Go.Am
/-- How many that stay are ahead of a place. -/
def tos (out : List Bool) (j : Nat) : Nat := (out.take j).countP (!·)
/-- Where the k-th stands that stays. -/
def inv : List Bool → Nat → Nat
  | [], _ => 0
  | true :: o, k => inv o k + 1
  | false :: _, 0 => 0
  | false :: o, k + 1 => inv o k + 1
def woF (f : Ins → Ins) : List Ins → List Bool → List Ins
  | x :: l, b :: o => if b then woF f l o else f x :: woF f l o
  | _, _ => []
theorem woF_get (f : Ins → Ins) : ∀ (l : List Ins) (out : List Bool) (k : Nat), l.length = out.length → (woF f l out)[k]? = (l[inv out k]?).map f
  | [], [], k, _ => by simp [woF, inv]
  | [], b :: o, k, h => by simp at h
  | x :: l, [], k, h => by simp at h
  | x :: l, true :: o, k, h => by
    have := woF_get f l o k (by simpa using h)
    simpa [woF, inv] using this
  | x :: l, false :: o, 0, h => by simp [woF, inv]
  | x :: l, false :: o, k + 1, h => by
    have := woF_get f l o k (by simpa using h)
    simpa [woF, inv] using this
theorem woF_len (f : Ins → Ins) : ∀ (l : List Ins) (out : List Bool), l.length = out.length → (woF f l out).length = out.countP (!·)
  | [], [], _ => rfl
  | [], b :: o, h => by simp at h
  | x :: l, [], h => by simp at h
  | x :: l, true :: o, h => by
    have := woF_len f l o (by simpa using h)
    simpa [woF] using this
  | x :: l, false :: o, h => by
    have := woF_len f l o (by simpa using h)
    simpa [woF] using this
theorem inv_lt : ∀ (out : List Bool) (k : Nat), k < out.countP (!·) → inv out k < out.length ∧ out[inv out k]? = some false ∧ tos out (inv out k) = k
  | [], k, h => by simp at h
  | true :: o, k, h => by
    have := inv_lt o k (by simpa using h)
    simpa [inv, tos] using this
  | false :: o, 0, h => by simp [inv, tos]
  | false :: o, k + 1, h => by
    have := inv_lt o k (by simpa using h)
    simpa [inv, tos] using this
theorem inv_ge : ∀ (out : List Bool) (k : Nat), out.countP (!·) ≤ k → inv out k = out.length
  | [], k, h => rfl
  | true :: o, k, h => by
    have := inv_ge o k (by simpa using h)
    simp [inv, this]
  | false :: o, 0, h => by simp at h
  | false :: o, k + 1, h => by
    have := inv_ge o k (by simpa using h)
    simp [inv, this]
theorem inv_tos : ∀ (out : List Bool) (j : Nat), out[j]? = some false → inv out (tos out j) = j
  | [], j, h => by simp at h
  | true :: o, 0, h => by simp at h
  | true :: o, j + 1, h => by
    have := inv_tos o j (by simpa using h)
    simp [tos] at this ⊢
    simp [inv, this]
  | false :: o, 0, h => by simp [tos, inv]
  | false :: o, j + 1, h => by
    have := inv_tos o j (by simpa using h)
    simp [tos] at this ⊢
    simp [inv, this]
theorem tos_succ {out : List Bool} {j : Nat} {b : Bool} (h : out[j]? = some b) : tos out (j + 1) = tos out j + (if b then 0 else 1) := by
  unfold tos
  rw [List.take_add_one, h, List.countP_append]
  cases b <;> simp
theorem tos_mono (out : List Bool) {i j : Nat} (h : i ≤ j) : tos out i ≤ tos out j := by
  unfold tos
  exact List.Sublist.countP_le (List.Sublist.trans (List.take_sublist_take_left h) (List.Sublist.refl _))
theorem tos_all (out : List Bool) : tos out out.length = out.countP (!·) := by unfold tos; rw [List.take_length]
/-- The next one that stays. -/
def nk (out : List Bool) (j : Nat) : Nat := inv out (tos out j)
theorem nk_stay {out : List Bool} {j : Nat} (h : out[j]? = some false) : nk out j = j := inv_tos out j h
theorem nk_skip {out : List Bool} {j : Nat} (h : out[j]? = some true) : nk out j = nk out (j + 1) := by unfold nk; rw [tos_succ h]; rfl
theorem nk_end (out : List Bool) : nk out out.length = out.length := by
  unfold nk
  rw [tos_all]
  exact inv_ge out _ (Nat.le_refl _)
def mvI (out : List Bool) (x : Ins) : Ins := if isJ x then { x with a := tos out x.a.toNat } else x
/-- Without some instructions. -/
def wo (l : List Ins) (out : List Bool) : List Ins := woF (mvI out) l out
theorem mvI_op (out : List Bool) (x : Ins) : (mvI out x).op = x.op := by unfold mvI; split <;> rfl
theorem good_wo {pins : Int → Nat} {cells : Int} {l : List Ins} {out : List Bool} {r : Nat → Nat} {st : Nat → List Bool} (hlen : l.length = out.length) (h4 : l.length ≤ 4096) (h1 : 1 ≤ l.length)
    (hlast : out[l.length - 1]? = some false) (hl15 : ∀ x, l[l.length - 1]? = some x → x.op = 15)
    (form : ∀ (i : Nat) x, l[i]? = some x → out[i]? = some false → formB pins cells ((l.length : Int) - 1) i x = true)
    (st0 : st (nk out 0) = [])
    (mv : ∀ (i : Nat) x, l[i]? = some x → out[i]? = some false → movesS x (st i) = some (st (nk out (i + 1))))
    (led : ∀ (i : Nat) x, l[i]? = some x → out[i]? = some false → isJ x → st (nk out x.a.toNat) = [])
    (rank : ∀ (i : Nat) x, l[i]? = some x → out[i]? = some false → x.op ≠ 11 → ∀ j ∈ nextI l i, r (nk out j) < r i) :
    Good pins cells (wo l out) (fun k => r (inv out k)) (fun k => st (inv out k)) := by
  have hwl : (wo l out).length = out.countP (!·) := woF_len _ _ _ hlen
  have hcle : out.countP (!·) ≤ out.length := List.countP_le_length
  have htl : tos out (l.length - 1) + 1 = out.countP (!·) := by
    have := tos_succ hlast
    rw [show l.length - 1 + 1 = out.length by omega, tos_all] at this
    simp at this
    omega
  have key : ∀ (k : Nat) y, (wo l out)[k]? = some y → ∃ x, l[inv out k]? = some x ∧ y = mvI out x ∧ out[inv out k]? = some false ∧ tos out (inv out k) = k ∧ inv out (k + 1) = nk out (inv out k + 1) := by
    intro k y hy
    have hk : k < out.countP (!·) := by rw [← hwl]; exact (List.getElem?_eq_some_iff.1 hy).1
    obtain ⟨a1, a2, a3⟩ := inv_lt out k hk
    unfold wo at hy
    rw [woF_get _ _ _ _ hlen] at hy
    cases hx : l[inv out k]? with
    | none => rw [hx] at hy; cases hy
    | some x =>
      rw [hx] at hy
      simp only [Option.map_some, Option.some.injEq] at hy
      refine ⟨x, rfl, hy.symm, a2, a3, ?_⟩
      unfold nk
      rw [tos_succ a2, a3]
      rfl
  have hjt : ∀ (i : Nat) x, l[i]? = some x → out[i]? = some false → isJ x → 0 ≤ x.a ∧ x.a.toNat ≤ l.length - 1 := by
    intro i x hx ho hj
    have := form i x hx ho
    unfold formB at this
    rcases hj with e | e
    · simp [e] at this; omega
    · simp [e] at this; omega
  refine ⟨by rw [hwl]; omega, fun y hy => ?_, fun k y hy => ?_, st0, fun k y hy => ?_, fun k y hy hj => ?_, fun k y hy h11 j hjn => ?_⟩
  · obtain ⟨x, hx, rfl, ho, ht, _⟩ := key _ y hy
    rw [mvI_op]
    have e : inv out ((wo l out).length - 1) = l.length - 1 := by
      rw [hwl, show out.countP (!·) - 1 = tos out (l.length - 1) by omega]
      exact inv_tos out _ hlast
    rw [e] at hx
    exact hl15 x hx
  · obtain ⟨x, hx, rfl, ho, ht, _⟩ := key k y hy
    have hf := form _ x hx ho
    have hk := (List.getElem?_eq_some_iff.1 hy).1
    by_cases hj : isJ x
    · have hr := hjt _ x hx ho hj
      have hm := tos_mono out (show x.a.toNat ≤ l.length - 1 from hr.2)
      unfold mvI
      rw [if_pos hj]
      unfold formB
      rcases hj with e | e <;> simp [e] <;> omega
    · unfold mvI
      rw [if_neg hj]
      have hn : ¬ (x.op = 9 ∨ x.op = 10) := hj
      unfold formB at hf ⊢
      simp only [if_neg hn] at hf ⊢
      by_cases e15 : x.op = 15
      · simp [e15] at hf ⊢
        have hi : inv out k = l.length - 1 := by omega
        rw [hi] at ht
        omega
      · simp only [e15, if_false] at hf ⊢
        exact hf
  · obtain ⟨x, hx, rfl, ho, ht, hn⟩ := key k y hy
    have hm := mv _ x hx ho
    rw [hn]
    unfold mvI
    split
    · rename_i hj
      rw [moves_a x hj]
      exact hm
    · exact hm
  · obtain ⟨x, hx, rfl, ho, ht, hn⟩ := key k y hy
    have hjx : isJ x := by unfold isJ at hj ⊢; rw [mvI_op] at hj; exact hj
    have hm := led _ x hx ho hjx
    have e : (mvI out x).a.toNat = tos out x.a.toNat := by unfold mvI; rw [if_pos hjx]; rfl
    rw [e]
    exact hm
  · obtain ⟨x, hx, rfl, ho, ht, hn⟩ := key k y hy
    rw [mvI_op] at h11
    have hrk := rank _ x hx ho h11
    unfold nextI at hjn hrk
    rw [hy] at hjn
    rw [hx] at hrk
    simp only [mvI_op] at hjn hrk
    by_cases e9 : x.op = 9
    · have hjx : isJ x := .inl e9
      have e : (mvI out x).a.toNat = tos out x.a.toNat := by unfold mvI; rw [if_pos hjx]; rfl
      simp only [e9, if_true, e, List.mem_singleton] at hjn hrk
      subst hjn
      exact hrk _ rfl
    · by_cases e10 : x.op = 10
      · have hjx : isJ x := .inr e10
        have e : (mvI out x).a.toNat = tos out x.a.toNat := by unfold mvI; rw [if_pos hjx]; rfl
        simp only [e10, e] at hjn hrk
        simp at hjn hrk
        rcases hjn with rfl | rfl
        · rw [hn]; exact hrk.1
        · exact hrk.2
      · by_cases e15 : x.op = 15
        · simp [e15] at hjn
        · simp only [e9, e10, e15, if_false, List.mem_singleton] at hjn hrk
          subst hjn
          rw [hn]
          exact hrk _ rfl
end Go.Am
end
section
namespace Go.Am
theorem get_map_range {α : Type} (f : Nat → α) (n i : Nat) (h : i < n) : ((List.range n).map f)[i]? = some (f i) := by
  rw [List.getElem?_map, List.getElem?_range h]; rfl
/- Constants that are tested. -/
def isP (l : List Ins) (i : Nat) : Bool :=
  match l[i]?, l[i + 1]? with
  | some x, some y => decide (x.op = 1) && decide (y.op = 10) && (decide (x.n = 0) || decide (x.n = 1))
  | _, _ => false
def nAt (l : List Ins) (i : Nat) : Int := ((l[i]?).map (·.n)).getD 0
def aAt (l : List Ins) (i : Nat) : Int := ((l[i]?).map (·.a)).getD 0
def tL (l : List Ins) (k : Nat) : List Ins := l.mapIdx fun i x => if (decide (i < k) && isP l i && decide (x.n = 0)) = true then ⟨9, aAt l (i + 1), 0, 0, 0⟩ else x
def tO (l : List Ins) (k : Nat) : List Bool := (List.range l.length).map fun i => (decide (i < k) && isP l i && decide (nAt l i = 1)) || (decide (1 ≤ i) && decide (i - 1 < k) && isP l (i - 1))
theorem isP_iff {l : List Ins} {i : Nat} : isP l i = true ↔ ∃ x y, l[i]? = some x ∧ l[i + 1]? = some y ∧ x.op = 1 ∧ y.op = 10 ∧ (x.n = 0 ∨ x.n = 1) := by
  unfold isP
  constructor
  · intro h
    split at h
    · rename_i x y hx hy
      simp only [Bool.and_eq_true, Bool.or_eq_true, decide_eq_true_eq] at h
      exact ⟨x, y, hx, hy, h.1.1, h.1.2, h.2⟩
    · cases h
  · rintro ⟨x, y, hx, hy, h1, h2, h3⟩
    rw [hx, hy]
    simp [h1, h2, h3]
theorem moves_push {x : Ins} {S S' : List Bool} (h1 : x.op = 1) (h : movesS x S = some S') : S' = S ++ [decide (x.n = 0) || decide (x.n = 1)] := by
  unfold movesS at h
  rw [if_pos h1] at h
  unfold giveS at h
  split at h
  · exact (Option.some.inj h).symm
  · cases h
theorem moves_empty {x : Ins} {S S' : List Bool} (h1 : x.op = 9 ∨ x.op = 15) (h : movesS x S = some S') : S = [] ∧ S' = [] := by
  unfold movesS at h
  have e : movesS x S = emptyS S := by unfold movesS; rcases h1 with e | e <;> simp [e]
  have h : emptyS S = some S' := by rw [← e]; unfold movesS; exact h
  unfold emptyS at h
  split at h
  · rename_i hS; exact ⟨hS, (Option.some.inj h).symm⟩
  · cases h
theorem moves_not {y : Ins} {S S' : List Bool} (h1 : y.op = 10) (h : movesS y S = some S') : S.length = 1 ∧ S' = [] := by
  have e : movesS y S = (takeS 1 true S).bind emptyS := by unfold movesS; simp [h1]
  rw [e] at h
  unfold takeS at h
  split at h
  · cases h
  · rename_i hl
    split at h
    · cases h
    · simp only [Option.bind_some] at h
      unfold emptyS at h
      split at h
      · rename_i ht
        have := congrArg List.length ht
        simp at this
        exact ⟨by omega, (Option.some.inj h).symm⟩
      · cases h
section
variable {pins : Int → Nat} {cells : Int} {l : List Ins} {r : Nat → Nat} {st : Nat → List Bool}
theorem pair_st (h : Good pins cells l r st) {i : Nat} (hp : isP l i = true) : st i = [] ∧ st (i + 1) ≠ [] ∧ st (i + 2) = [] ∧ r (i + 1) < r i ∧ r (i + 2) < r (i + 1) := by
  obtain ⟨x, y, hx, hy, h1, h2, h3⟩ := isP_iff.1 hp
  have m1 := moves_push h1 (h.mv i x hx)
  have m2 := moves_not h2 (h.mv (i + 1) y hy)
  rw [m1] at m2
  have hl : (st i).length = 0 := by have := m2.1; simp at this; simp [this]
  refine ⟨List.eq_nil_of_length_eq_zero hl, by rw [m1]; simp, m2.2, h.rank i x hx (by omega) _ (by unfold nextI; rw [hx]; simp [h1]), h.rank (i + 1) y hy (by omega) _ (by unfold nextI; rw [hy]; simp [h2])⟩
theorem st_end (h : Good pins cells l r st) : st l.length = [] ∧ st (l.length - 1) = [] := by
  have h1 := h.len.1
  have hx : l[l.length - 1]? = some l[l.length - 1] := by rw [List.getElem?_eq_getElem (by omega)]
  have := moves_empty (.inr (h.last _ hx)) (h.mv _ _ hx)
  rw [show l.length - 1 + 1 = l.length by omega] at this
  exact ⟨this.2, this.1⟩
/-- Places with nothing on the stack: the next that stays is one, too. -/
theorem skip_all (h : Good pins cells l r st) {out : List Bool} (hlen : l.length = out.length)
    (hk : ∀ j, out[j]? = some true → st j = [] → ∃ j', j < j' ∧ j' ≤ l.length ∧ st j' = [] ∧ nk out j = nk out j' ∧ r j' < r j) :
    ∀ (d j : Nat), j + d = l.length → st j = [] → st (nk out j) = [] ∧ (j < l.length → r (nk out j) ≤ r j) := by
  intro d
  induction d using Nat.strongRecOn with
  | ind d ih =>
    intro j hj hs
    by_cases hjl : j < l.length
    · obtain ⟨b, hb⟩ : ∃ b, out[j]? = some b := ⟨_, List.getElem?_eq_getElem (by omega)⟩
      cases b with
      | false => rw [nk_stay hb]; exact ⟨hs, fun _ => Nat.le_refl _⟩
      | true =>
        obtain ⟨j', h1, h2, h3, h4, h5⟩ := hk j hb hs
        have := ih (l.length - j') (by omega) j' (by omega) h3
        rw [h4]
        refine ⟨this.1, fun _ => ?_⟩
        by_cases e : j' < l.length
        · have := this.2 e; omega
        · have e2 : j' = out.length := by omega
          rw [e2, nk_end, ← e2]
          omega
    · have e : j = out.length := by omega
      rw [e, nk_end, ← e]
      exact ⟨hs, fun h => by omega⟩
theorem tO_get {k i : Nat} (h : i < l.length) : (tO l k)[i]? = some ((decide (i < k) && isP l i && decide (nAt l i = 1)) || (decide (1 ≤ i) && decide (i - 1 < k) && isP l (i - 1))) := get_map_range _ _ _ h
theorem tO_len (k : Nat) : (tO l k).length = l.length := by simp [tO]
theorem tL_len (k : Nat) : (tL l k).length = l.length := by simp [tL]
theorem tL_get (k i : Nat) : (tL l k)[i]? = (l[i]?).map fun x => if (decide (i < k) && isP l i && decide (x.n = 0)) = true then ⟨9, aAt l (i + 1), 0, 0, 0⟩ else x := by
  unfold tL; rw [List.getElem?_mapIdx]
theorem good_tested (h : Good pins cells l r st) : ∃ r' st', Good pins cells (wo (tL l l.length) (tO l l.length)) r' st' := by
  have h1 := h.len.1
  have hout : ∀ i, i < l.length → (tO l l.length)[i]? = some ((isP l i && decide (nAt l i = 1)) || (decide (1 ≤ i) && isP l (i - 1))) := fun i hi => by
    rw [tO_get hi]
    simp [hi, show i - 1 < l.length by omega]
  have hlt : ∀ {i b}, (tO l l.length)[i]? = some b → i < l.length := fun hb => by
    have := (List.getElem?_eq_some_iff.1 hb).1; rw [tO_len] at this; exact this
  have hPl : ∀ {i}, isP l i = true → i + 1 < l.length := fun hp => by
    obtain ⟨x, y, _, hy, _⟩ := isP_iff.1 hp
    exact (List.getElem?_eq_some_iff.1 hy).1
  have hskip := skip_all h (out := tO l l.length) (by rw [tO_len]) (fun j hj hs => by
    have hjl := hlt hj
    rw [hout j hjl] at hj
    simp only [Option.some.injEq, Bool.or_eq_true, Bool.and_eq_true, decide_eq_true_eq] at hj
    rcases hj with ⟨hp, hn⟩ | ⟨hj1, hp⟩
    · obtain ⟨p1, p2, p3, p4, p5⟩ := pair_st h hp
      have hj1 := hPl hp
      have o0 : (tO l l.length)[j]? = some true := by rw [hout j hjl]; simp [hp, hn]
      have o1 : (tO l l.length)[j + 1]? = some true := by rw [hout (j + 1) hj1]; simp [hp]
      exact ⟨j + 2, by omega, by omega, p3, by rw [nk_skip o0, nk_skip o1], by omega⟩
    · have := (pair_st h hp).2.1
      rw [show j - 1 + 1 = j by omega] at this
      exact absurd hs this)
  have hA := fun j (hj : j ≤ l.length) hs => (hskip (l.length - j) j (by omega) hs).1
  have hB := fun j (hj : j < l.length) hs => (hskip (l.length - j) j (by omega) hs).2 hj
  have hx : ∀ {i : Nat} {x'}, (tL l l.length)[i]? = some x' → (tO l l.length)[i]? = some false → ∃ x, l[i]? = some x ∧ ((isP l i = true ∧ x.n = 0 ∧ x' = ⟨9, aAt l (i + 1), 0, 0, 0⟩) ∨ (isP l i = false ∧ x' = x)) ∧ (1 ≤ i → isP l (i - 1) = false) := by
    intro i x' hx' ho
    rw [tL_get] at hx'
    have hi := hlt ho
    rw [hout i hi] at ho
    cases hxx : l[i]? with
    | none => rw [hxx] at hx'; cases hx'
    | some x =>
      rw [hxx] at hx'
      simp only [Option.map_some, Option.some.injEq] at hx'
      simp only [Option.some.injEq, Bool.or_eq_false_iff] at ho
      have hn : nAt l i = x.n := by unfold nAt; rw [hxx]; rfl
      refine ⟨x, rfl, ?_, fun h1 => by have := ho.2; simp [h1] at this; exact this⟩
      cases hp : isP l i with
      | false => right; rw [hp] at hx'; simp at hx'; exact ⟨rfl, hx'.symm⟩
      | true =>
        left
        obtain ⟨x2, y, e1, _, _, _, e3⟩ := isP_iff.1 hp
        rw [hxx] at e1; cases e1
        have h0 := ho.1
        rw [hp, hn] at h0
        simp at h0
        have hx0 : x.n = 0 := by rcases e3 with e | e; exact e; exact absurd e h0
        rw [hp, hx0] at hx'
        simp [hi] at hx'
        exact ⟨rfl, hx0, hx'.symm⟩
  have hpa : ∀ {i}, isP l i = true → ∃ y, l[i + 1]? = some y ∧ y.op = 10 ∧ aAt l (i + 1) = y.a := fun hp => by
    obtain ⟨x, y, _, hy, _, h2, _⟩ := isP_iff.1 hp
    exact ⟨y, hy, h2, by unfold aAt; rw [hy]; rfl⟩
  refine ⟨_, _, good_wo (r := r) (st := st) (by rw [tL_len, tO_len]) (by rw [tL_len]; exact h.len.2) (by rw [tL_len]; exact h1) ?_ ?_ ?_ ?_ ?_ ?_ ?_⟩
  · rw [tL_len, hout _ (by omega)]
    have e1 : isP l (l.length - 1) = false := by
      cases hp : isP l (l.length - 1) with
      | false => rfl
      | true => have := hPl hp; omega
    have e2 : (decide (1 ≤ l.length - 1) && isP l (l.length - 1 - 1)) = false := by
      cases hp : isP l (l.length - 1 - 1) with
      | false => simp
      | true =>
        obtain ⟨y, hy, hy2, _⟩ := hpa hp
        by_cases e : 1 ≤ l.length - 1
        · rw [show l.length - 1 - 1 + 1 = l.length - 1 by omega] at hy
          have := h.last y hy
          omega
        · simp; omega
    rw [e1, e2]; rfl
  · intro x' hx'
    rw [tL_len, tL_get] at hx'
    cases hxx : l[l.length - 1]? with
    | none => rw [hxx] at hx'; cases hx'
    | some x =>
      rw [hxx] at hx'
      have e1 : isP l (l.length - 1) = false := by
        cases hp : isP l (l.length - 1) with
        | false => rfl
        | true => have := hPl hp; omega
      simp [e1] at hx'
      rw [← hx']
      exact h.last x hxx
  · intro i x' hx' ho
    rw [tL_len]
    obtain ⟨x, hxx, hc, _⟩ := hx hx' ho
    rcases hc with ⟨hp, _, rfl⟩ | ⟨_, rfl⟩
    · obtain ⟨y, hy, hy2, hya⟩ := hpa hp
      have := h.tgt hy (.inr hy2)
      unfold formB
      simp [hya]
      omega
    · exact h.form i _ hxx
  · exact hA 0 (by omega) h.st0
  · intro i x' hx' ho
    obtain ⟨x, hxx, hc, _⟩ := hx hx' ho
    have hi := hlt ho
    rcases hc with ⟨hp, _, rfl⟩ | ⟨hp, rfl⟩
    · obtain ⟨p1, p2, p3, p4, p5⟩ := pair_st h hp
      have hi1 := hPl hp
      have o1 : (tO l l.length)[i + 1]? = some true := by rw [hout (i + 1) hi1]; simp [hp]
      rw [nk_skip o1, hA (i + 2) (by omega) p3, p1]
      rfl
    · rw [h.mv i _ hxx]
      congr 1
      by_cases e : i + 1 < l.length
      · obtain ⟨b, hb⟩ : ∃ b, (tO l l.length)[i + 1]? = some b := ⟨_, hout _ e⟩
        cases b with
        | false => rw [nk_stay hb]
        | true =>
          have hb2 := hb
          rw [hout _ e] at hb2
          simp [hp] at hb2
          have := (pair_st h hb2.1).1
          rw [hA (i + 1) (by omega) this, this]
      · have e2 : i + 1 = (tO l l.length).length := by rw [tO_len]; omega
        rw [e2, nk_end]
  · intro i x' hx' ho hj
    obtain ⟨x, hxx, hc, _⟩ := hx hx' ho
    rcases hc with ⟨hp, _, rfl⟩ | ⟨hp, rfl⟩
    · obtain ⟨y, hy, hy2, hya⟩ := hpa hp
      have := h.tgt hy (.inr hy2)
      simp only [hya]
      exact hA _ (by omega) (h.led _ y hy (.inr hy2))
    · have := h.tgt hxx hj
      exact hA _ (by omega) (h.led i _ hxx hj)
  · intro i x' hx' ho h11 j hj
    obtain ⟨x, hxx, hc, _⟩ := hx hx' ho
    have hi := hlt ho
    rcases hc with ⟨hp, _, rfl⟩ | ⟨hp, rfl⟩
    · obtain ⟨y, hy, hy2, hya⟩ := hpa hp
      obtain ⟨p1, p2, p3, p4, p5⟩ := pair_st h hp
      have ht := h.tgt hy (.inr hy2)
      unfold nextI at hj
      rw [hx'] at hj
      simp [hya] at hj
      subst hj
      have hr := h.rank (i + 1) y hy (by omega) y.a.toNat (by unfold nextI; rw [hy]; simp [hy2])
      have := hB _ ht.2 (h.led _ y hy (.inr hy2))
      omega
    · have hn : nextI (tL l l.length) i = nextI l i := by unfold nextI; rw [hx', hxx]
      rw [hn] at hj
      have hr := h.rank i _ hxx h11 j hj
      have hjl := nextI_in h hi hj
      have hsj : st j = [] → r (nk (tO l l.length) j) < r i := fun hs => by have := hB j hjl hs; omega
      obtain ⟨b, hb⟩ : ∃ b, (tO l l.length)[j]? = some b := ⟨_, hout _ hjl⟩
      cases b with
      | false => rw [nk_stay hb]; exact hr
      | true =>
        by_cases ej : j = i + 1
        · subst ej
          have hb2 := hb
          rw [hout _ hjl] at hb2
          simp [hp] at hb2
          exact hsj (pair_st h hb2.1).1
        · refine hsj ?_
          unfold nextI at hj
          rw [hxx] at hj
          simp only at hj
          by_cases e9 : x'.op = 9
          · simp [e9] at hj
            rw [hj]; exact h.led i _ hxx (.inl e9)
          · by_cases e10 : x'.op = 10
            · simp [e10] at hj
              rcases hj with hj | hj
              · exact absurd hj ej
              · rw [hj]; exact h.led i _ hxx (.inr e10)
            · by_cases e15 : x'.op = 15
              · simp [e15] at hj
              · simp [e9, e10, e15] at hj
                exact absurd hj ej
end
end Go.Am
end
section
namespace Go.Am
inductive Reach (l : List Ins) : Nat → Prop
  | zero : Reach l 0
  | step {i j : Nat} (h : Reach l i) (hj : j ∈ nextI l i) : Reach l j
theorem reach_in {pins cells l r st} (hg : Good pins cells l r st) {i : Nat} (h : Reach l i) : i < l.length := by
  induction h with
  | zero => have := hg.len.1; omega
  | step _ hj ih => exact nextI_in hg ih hj
open Classical in
noncomputable def rO (l : List Ins) : List Bool := (List.range l.length).map fun i => !decide (Reach l i) && decide (i + 1 < l.length)
def jO (l : List Ins) : List Bool := l.mapIdx fun i x => decide (x.op = 9) && decide (x.a = (i : Int) + 1)
section
variable {pins : Int → Nat} {cells : Int} {l : List Ins} {r : Nat → Nat} {st : Nat → List Bool}
open Classical in
theorem rO_get {i : Nat} (h : i < l.length) : (rO l)[i]? = some (!decide (Reach l i) && decide (i + 1 < l.length)) := get_map_range _ _ _ h
theorem rO_len : (rO l).length = l.length := by simp [rO]
theorem rO_false {i : Nat} : (rO l)[i]? = some false ↔ i < l.length ∧ (Reach l i ∨ i + 1 = l.length) := by
  classical
  constructor
  · intro h
    have hi := (List.getElem?_eq_some_iff.1 h).1
    rw [rO_len] at hi
    rw [rO_get hi] at h
    refine ⟨hi, ?_⟩
    by_cases hr : Reach l i
    · exact .inl hr
    · simp [hr] at h; right; omega
  · rintro ⟨hi, h⟩
    rw [rO_get hi]
    rcases h with h | h
    · simp [h]
    · simp [h]
theorem rO_true {i : Nat} : (rO l)[i]? = some true ↔ i + 1 < l.length ∧ ¬ Reach l i := by
  classical
  constructor
  · intro h
    have hi := (List.getElem?_eq_some_iff.1 h).1
    rw [rO_len] at hi
    rw [rO_get hi] at h
    by_cases hr : Reach l i
    · simp [hr] at h
    · simp [hr] at h; exact ⟨h, hr⟩
  · rintro ⟨hi, h⟩
    rw [rO_get (by omega)]
    simp [h, hi]
theorem next_cases {i j : Nat} {x : Ins} (hx : l[i]? = some x) (hj : j ∈ nextI l i) : j = i + 1 ∨ (isJ x ∧ j = x.a.toNat) := by
  unfold nextI at hj
  rw [hx] at hj
  simp only at hj
  by_cases e9 : x.op = 9
  · simp [e9] at hj
    exact .inr ⟨.inl e9, hj⟩
  · by_cases e10 : x.op = 10
    · simp [e10] at hj
      rcases hj with h | h
      · exact .inl h
      · exact .inr ⟨.inr e10, h⟩
    · by_cases e15 : x.op = 15
      · simp [e15] at hj
      · simp [e9, e10, e15] at hj
        exact .inl hj
theorem jump_next {i : Nat} {x : Ins} (hx : l[i]? = some x) (hj : isJ x) : x.a.toNat ∈ nextI l i := by
  unfold nextI
  rw [hx]
  rcases hj with e | e <;> simp [e]
theorem good_reach (h : Good pins cells l r st) : ∃ r' st', Good pins cells (wo l (rO l)) r' st' := by
  have h1 := h.len.1
  have hK : ∀ k, 0 < k → (rO l)[k]? = some false → (rO l)[k - 1]? = some true → st k = [] := by
    intro k hk0 hk hk1
    obtain ⟨hkl, hk⟩ := rO_false.1 hk
    obtain ⟨_, hk1⟩ := rO_true.1 hk1
    rcases hk with hk | hk
    · cases hk with
      | zero => omega
      | @step p j hp hj =>
        have hpl := reach_in h hp
        have hx : l[p]? = some l[p] := by simp [hpl]
        rcases next_cases hx hj with e | ⟨e1, e2⟩
        · exact absurd hp (by rw [show p = k - 1 by omega]; exact hk1)
        · rw [e2]; exact h.led p _ hx e1
    · rw [show k = l.length - 1 by omega]; exact (st_end h).2
  have hS : ∀ (d j : Nat), j + d = l.length → (rO l)[j]? = some true → st (nk (rO l) j) = [] := by
    intro d
    induction d with
    | zero => intro j hj ho; have := (rO_true.1 ho).1; omega
    | succ d ih =>
      intro j hj ho
      rw [nk_skip ho]
      have hj1 := (rO_true.1 ho).1
      obtain ⟨b, hb⟩ : ∃ b, (rO l)[j + 1]? = some b := ⟨_, List.getElem?_eq_getElem (by rw [rO_len]; omega)⟩
      cases b with
      | false => rw [nk_stay hb]; exact hK (j + 1) (by omega) hb (by simpa using ho)
      | true => exact ih (j + 1) (by omega) hb
  have hne : ∀ {i : Nat} {x}, l[i]? = some x → (rO l)[i]? = some false → x.op ≠ 15 → Reach l i := by
    intro i x hx ho h15
    rcases (rO_false.1 ho).2 with e | e
    · exact e
    · exact absurd ((h.fifteen hx).2 e) h15
  have hkeep : ∀ {j}, Reach l j → (rO l)[j]? = some false := fun hr => rO_false.2 ⟨reach_in h hr, .inl hr⟩
  refine ⟨_, _, good_wo (r := r) (st := st) (by rw [rO_len]) h.len.2 h1 (rO_false.2 ⟨by omega, .inr (by omega)⟩) h.last (fun i x hx _ => h.form i x hx) ?_ ?_ ?_ ?_⟩
  · rw [nk_stay (hkeep .zero)]; exact h.st0
  · intro i x hx ho
    rw [h.mv i x hx]
    congr 1
    by_cases e15 : x.op = 15
    · have := (h.fifteen hx).1 e15
      rw [show i + 1 = (rO l).length by rw [rO_len]; omega, nk_end]
    · have hr := hne hx ho e15
      by_cases e9 : x.op = 9
      · have hm := (moves_empty (.inl e9) (h.mv i x hx)).2
        have hi : i + 1 < l.length := by
          have := (List.getElem?_eq_some_iff.1 hx).1
          have : ¬ i + 1 = l.length := fun e => e15 ((h.fifteen hx).2 e)
          omega
        obtain ⟨b, hb⟩ : ∃ b, (rO l)[i + 1]? = some b := ⟨_, List.getElem?_eq_getElem (by rw [rO_len]; omega)⟩
        cases b with
        | false => rw [nk_stay hb]
        | true => rw [hS (l.length - (i + 1)) (i + 1) (by omega) hb, hm]
      · have : i + 1 ∈ nextI l i := by
          unfold nextI; rw [hx]
          by_cases e10 : x.op = 10 <;> simp [e9, e10, e15]
        rw [nk_stay (hkeep (.step hr this))]
  · intro i x hx ho hj
    have hr := hne hx ho (by rcases hj with e | e <;> omega)
    rw [nk_stay (hkeep (.step hr (jump_next hx hj)))]
    exact h.led i x hx hj
  · intro i x hx ho h11 j hj
    by_cases e15 : x.op = 15
    · unfold nextI at hj; rw [hx] at hj; simp [e15] at hj
    · rw [nk_stay (hkeep (.step (hne hx ho e15) hj))]
      exact h.rank i x hx h11 j hj
theorem jO_get (i : Nat) : (jO l)[i]? = (l[i]?).map fun x => decide (x.op = 9) && decide (x.a = (i : Int) + 1) := by unfold jO; rw [List.getElem?_mapIdx]
theorem jO_len : (jO l).length = l.length := by simp [jO]
theorem good_next (h : Good pins cells l r st) : ∃ r' st', Good pins cells (wo l (jO l)) r' st' := by
  have h1 := h.len.1
  have hx1 : ∀ {j : Nat}, (jO l)[j]? = some true → ∃ x, l[j]? = some x ∧ x.op = 9 ∧ x.a = (j : Int) + 1 := by
    intro j hj
    rw [jO_get] at hj
    cases hx : l[j]? with
    | none => rw [hx] at hj; cases hj
    | some x => rw [hx] at hj; simp at hj; exact ⟨x, rfl, hj⟩
  have hst : ∀ {j : Nat}, (jO l)[j]? = some true → j + 1 < l.length ∧ st j = [] ∧ st (j + 1) = [] ∧ r (j + 1) < r j := by
    intro j hj
    obtain ⟨x, hx, h9, ha⟩ := hx1 hj
    have hm := moves_empty (.inl h9) (h.mv j x hx)
    have ht := h.tgt hx (.inl h9)
    refine ⟨by omega, hm.1, hm.2, ?_⟩
    have := h.rank j x hx (by omega) x.a.toNat (jump_next hx (.inl h9))
    rw [show j + 1 = x.a.toNat by omega]
    exact this
  have hskip := skip_all h (out := jO l) (by rw [jO_len]) (fun j hj _ => by
    obtain ⟨a1, a2, a3, a4⟩ := hst hj
    exact ⟨j + 1, by omega, by omega, a3, nk_skip hj, a4⟩)
  have hA := fun j (hj : j ≤ l.length) hs => (hskip (l.length - j) j (by omega) hs).1
  have hB := fun j (hj : j < l.length) hs => (hskip (l.length - j) j (by omega) hs).2 hj
  have hb : ∀ {j : Nat}, j < l.length → ∃ b, (jO l)[j]? = some b := fun hj => ⟨_, List.getElem?_eq_getElem (by rw [jO_len]; exact hj)⟩
  refine ⟨_, _, good_wo (r := r) (st := st) (by rw [jO_len]) h.len.2 h1 ?_ h.last (fun i x hx _ => h.form i x hx) (hA 0 (by omega) h.st0) ?_ ?_ ?_⟩
  · obtain ⟨b, hb⟩ := hb (j := l.length - 1) (by omega)
    cases b with
    | false => exact hb
    | true => have := (hst hb).1; omega
  · intro i x hx ho
    rw [h.mv i x hx]
    congr 1
    have hi := (List.getElem?_eq_some_iff.1 hx).1
    by_cases e : i + 1 < l.length
    · obtain ⟨b, hb⟩ := hb e
      cases b with
      | false => rw [nk_stay hb]
      | true => rw [hA (i + 1) (by omega) (hst hb).2.1, (hst hb).2.1]
    · rw [show i + 1 = (jO l).length by rw [jO_len]; omega, nk_end]
  · intro i x hx ho hj
    have := h.tgt hx hj
    exact hA _ (by omega) (h.led i x hx hj)
  · intro i x hx ho h11 j hj
    have hi := (List.getElem?_eq_some_iff.1 hx).1
    have hjl := nextI_in h hi hj
    have hr := h.rank i x hx h11 j hj
    obtain ⟨b, hb⟩ := hb hjl
    cases b with
    | false => rw [nk_stay hb]; exact hr
    | true => have := hB j hjl (hst hb).2.1; omega
end
end Go.Am
end
section
namespace Go.Am
open Classical in
/-- A round, behind the threading of jumps. -/
noncomputable def roundF (l : List Ins) (b : Bool) : List Ins × Bool :=
  if true ∈ tO l l.length then (wo (tL l l.length) (tO l l.length), true)
  else if true ∈ rO l then (wo l (rO l), true)
  else if true ∈ jO l then (wo l (jO l), true)
  else (l, b)
inductive Made : List Ins → List Ins → Prop
  | last (l l1 b d) (h : ThrL 0 l l1 b) (h2 : roundF l1 b = (d, false)) : Made l d
  | more (l l1 b l2 d) (h : ThrL 0 l l1 b) (h2 : roundF l1 b = (l2, true)) (h3 : Made l2 d) : Made l d
structure Clean (l : List Ins) : Prop where
  thr : ∀ k, NoT l k
  tst : true ∉ tO l l.length
  rea : true ∉ rO l
  nxt : true ∉ jO l
theorem Clean.round {l : List Ins} (h : Clean l) : roundF l false = (l, false) := by
  unfold roundF
  rw [if_neg h.tst, if_neg h.rea, if_neg h.nxt]
theorem Clean.made {l : List Ins} (h : Clean l) : Made l l := .last l l false l (thrL_same l.length 0 l (by omega) h.thr) h.round
theorem wo_lt {l : List Ins} {out : List Bool} (hlen : l.length = out.length) (h : true ∈ out) : (wo l out).length < l.length := by
  unfold wo
  rw [woF_len _ _ _ hlen, hlen]
  clear hlen
  induction out with
  | nil => simp at h
  | cons b o ih =>
    cases b with
    | true => have := List.countP_le_length (p := fun b : Bool => !b) (l := o); simp; omega
    | false => have := ih (by simpa using h); simp; omega
theorem round_good {pins : Int → Nat} {cells : Int} {l : List Ins} {r : Nat → Nat} {st : Nat → List Bool} (h : Good pins cells l r st) (b : Bool) :
    (∃ l2 r' st', roundF l b = (l2, true) ∧ Good pins cells l2 r' st' ∧ l2.length < l.length) ∨ (roundF l b = (l, b) ∧ true ∉ tO l l.length ∧ true ∉ rO l ∧ true ∉ jO l) := by
  unfold roundF
  split
  · rename_i ht
    left
    obtain ⟨r', st', hg⟩ := good_tested h
    exact ⟨_, r', st', rfl, hg, by have := wo_lt (l := tL l l.length) (out := tO l l.length) (by rw [tL_len, tO_len]) ht; rw [tL_len] at this; exact this⟩
  · rename_i ht
    split
    · rename_i hr
      left
      obtain ⟨r', st', hg⟩ := good_reach h
      exact ⟨_, r', st', rfl, hg, wo_lt (by rw [rO_len]) hr⟩
    · rename_i hr
      split
      · rename_i hj
        left
        obtain ⟨r', st', hg⟩ := good_next h
        exact ⟨_, r', st', rfl, hg, wo_lt (by rw [jO_len]) hj⟩
      · rename_i hj
        exact .inr ⟨rfl, ht, hr, hj⟩
open Classical in
theorem made_ex {pins : Int → Nat} {cells : Int} : ∀ (m : Nat) (l : List Ins) (r : Nat → Nat) (st : Nat → List Bool), Good pins cells l r st → 2 * l.length + (if ∀ k, NoT l k then 0 else 1) < m → ∃ d r' st', Made l d ∧ Good pins cells d r' st' ∧ Clean d ∧ d.length ≤ l.length
  | 0, l, r, st, _, h => by omega
  | m + 1, l, r, st, hg, hm => by
    by_cases hn : ∀ k, NoT l k
    · have ht := thrL_same l.length 0 l (by omega) hn
      rcases round_good hg false with ⟨l2, r', st', e, hg', hlt⟩ | ⟨e, h1, h2, h3⟩
      · obtain ⟨d, r2, st2, a1, a2, a3, a4⟩ := made_ex m l2 r' st' hg' (by rw [if_pos hn] at hm; split <;> omega)
        exact ⟨d, r2, st2, .more l l false l2 d ht e a1, a2, a3, by omega⟩
      · exact ⟨l, r, st, .last l l false l ht e, hg, ⟨hn, h1, h2, h3⟩, Nat.le_refl _⟩
    · rw [if_neg hn] at hm
      obtain ⟨l1, b, ht, hg1, hl, _, hn1⟩ := thrL_ex l.length 0 l (by omega) hg
      have hlen := hl.len
      rcases round_good hg1 b with ⟨l2, r', st', e, hg', hlt⟩ | ⟨e, h1, h2, h3⟩
      · obtain ⟨d, r2, st2, a1, a2, a3, a4⟩ := made_ex m l2 r' st' hg' (by split <;> omega)
        exact ⟨d, r2, st2, .more l l1 b l2 d ht e a1, a2, a3, by omega⟩
      · have hc : Clean l1 := ⟨fun k => hn1 k (by omega), h1, h2, h3⟩
        cases b with
        | false => exact ⟨l1, r, st, .last l l1 false l1 ht e, hg1, hc, by omega⟩
        | true =>
          obtain ⟨d, r2, st2, a1, a2, a3, a4⟩ := made_ex m l1 r st hg1 (by rw [if_pos hc.thr]; omega)
          exact ⟨d, r2, st2, .more l l1 true l1 d ht e a1, a2, a3, by omega⟩
/-- Without constants that are tested nothing is written. -/
theorem tL_none {l : List Ins} (h : true ∉ tO l l.length) : tL l l.length = l := by
  apply List.ext_getElem?
  intro i
  rw [tL_get]
  cases hx : l[i]? with
  | none => rfl
  | some x =>
    simp only [Option.map_some, Option.some.injEq]
    rw [if_neg]
    intro hc
    simp only [Bool.and_eq_true, decide_eq_true_eq] at hc
    obtain ⟨x2, y, _, hy, _⟩ := isP_iff.1 hc.1.2
    have hi := (List.getElem?_eq_some_iff.1 hy).1
    apply h
    refine List.mem_of_getElem? (i := i + 1) ?_
    rw [tO_get hi]
    simp [hc.1.2]
    omega
theorem Clean.noP {l : List Ins} (h : Clean l) (i : Nat) : isP l i = false := by
  cases hp : isP l i with
  | false => rfl
  | true =>
    obtain ⟨x2, y, _, hy, _⟩ := isP_iff.1 hp
    have hi := (List.getElem?_eq_some_iff.1 hy).1
    exfalso
    apply h.tst
    refine List.mem_of_getElem? (i := i + 1) ?_
    rw [tO_get hi]
    simp [hp]
    omega
theorem Clean.reach {l : List Ins} (h : Clean l) {i : Nat} (hi : i + 1 < l.length) : Reach l i := by
  classical
  exact Classical.byContradiction fun hn => h.rea (List.mem_of_getElem? (rO_true.2 ⟨hi, hn⟩))
theorem Clean.next {l : List Ins} (h : Clean l) {i : Nat} {x : Ins} (hx : l[i]? = some x) : ¬ (x.op = 9 ∧ x.a = (i : Int) + 1) := by
  rintro ⟨h1, h2⟩
  refine h.nxt (List.mem_of_getElem? (i := i) ?_)
  rw [jO_get, hx]
  simp [h1, h2]
end Go.Am
end
section
namespace Go.Am
open Go

/-- Pure data: what no later write can change. -/
inductive D where
  | int (k : IntKind) (n : Int)
  | bool (b : Bool)
  | str (s : List UInt8)
  | list (xs : List D)
  | agg (cs : List D)

def D.size : D → Nat
  | .agg cs => cs.length
  | _ => 1
def D.flat : D → Bool
  | .agg _ => false
  | _ => true

/-- A value of one cell. -/
def cell1 : Value → Bool
  | .agg _ => false
  | .tuple _ => false
  | _ => true

theorem cells_of_cell1 {v : Value} (h : cell1 v = true) : v.cells = #[v] := by cases v <;> simp_all [cell1, Value.cells]

/-- A datum read in a world, none of it in the blocks of F. -/
inductive DRel (w : World) (F : Nat → Prop) : D → Value → Prop
  | int (k n) : DRel w F (.int k n) (.int k n)
  | bool (b) : DRel w F (.bool b) (.bool b)
  | str (b : ByteArray) (s : List UInt8) (h : b.data.toList = s) : DRel w F (.str s) (.string b)
  | agg (cs : List D) (a : Array Value) (hl : cs.length = a.size)
      (hf : ∀ d ∈ cs, d.flat = true) (hc : ∀ (i : Nat) (d : D) (v : Value), cs[i]? = some d → a[i]? = some v → DRel w F d v) : DRel w F (.agg cs) (.agg a)
  | nil (a : Option Addr) (cap : Nat) (hn : a = none → cap = 0) : DRel w F (.list []) (.slice a 0 cap)
  | list (xs : List D) (b off cap sz : Nat) (vs : Nat → Value) (hcap : xs.length ≤ cap) (hb : b < w.heap.size) (hF : ¬ F b) (hsz : ∀ d ∈ xs, d.size = sz)
      (hv : ∀ (i : Nat) (d : D), xs[i]? = some d → DRel w F d (vs i))
      (hc : ∀ (i j : Nat) (c : Value), i < xs.length → (vs i).cells[j]? = some c → w.cell? ⟨b, off + i * sz + j, none⟩ = some c) :
      DRel w F (.list xs) (.slice (some ⟨b, off, none⟩) xs.length cap)

theorem DRel.size {w F d v} (h : DRel w F d v) : v.cells.size = d.size := by
  cases h <;> simp_all [D.size, Value.cells]
theorem DRel.one {w F d v} (h : DRel w F d v) (hf : d.flat = true) : cell1 v = true := by
  cases h <;> simp_all [D.flat, Am.cell1]

theorem cell?_congr {w w' : World} {b o : Nat} (h : w'.heap[b]? = w.heap[b]?) : w'.cell? ⟨b, o, none⟩ = w.cell? ⟨b, o, none⟩ := by
  simp [World.cell?, h]

theorem DRel.mono {w w' : World} {F F' : Nat → Prop} {d v} (h : DRel w F d v)
    (hk : ∀ b, b < w.heap.size → ¬ F b → w'.heap[b]? = w.heap[b]?) (hs : w.heap.size ≤ w'.heap.size) (hF : ∀ b, b < w.heap.size → F' b → F b) : DRel w' F' d v := by
  induction h with
  | int k n => exact .int k n
  | bool b => exact .bool b
  | str b s h => exact .str b s h
  | agg cs a hl hf _ ih => exact .agg cs a hl hf ih
  | nil a cap hn => exact .nil a cap hn
  | list xs b off cap sz vs hcap hb hFb hsz _ hc ih =>
    exact .list xs b off cap sz vs hcap (by omega) (fun h => hFb (hF b hb h)) hsz ih (fun i j c hi hj => by
      rw [cell?_congr (hk b hb hFb)]; exact hc i j c hi hj)

/-- Abstract values. -/
inductive AV where
  | junk
  | d (x : D)
  | agg (cs : List AV)
  | ptr (k ver off : Nat)
  | vec (k ver off len : Nat)
  | eptr (k ver i j : Nat)
  | rptr (x : D) (j : Nat)
  | fn (f : FuncId) (cap : List AV)
  | tup (vs : List AV)
  | ifc (t : TypeId) (x : D)
  | lit (v : Value)
  | nn

/-- Where a key lies: its version, block, the cells of a row, how many rows there is room for, the first row's cell. -/
structure Loc where
  ver : Nat
  blk : Nat
  sz : Nat
  cap : Nat
  base : Nat

abbrev Phi := Nat → Option Loc

inductive AVRel (φ : Phi) (w : World) (F : Nat → Prop) : AV → Value → Prop
  | junk (v) : AVRel φ w F .junk v
  | d (x v) (h : DRel w F x v) : AVRel φ w F (.d x) v
  | agg (cs : List AV) (a : Array Value) (hl : cs.length = a.size) (h1 : ∀ v ∈ a, cell1 v = true) (hc : ∀ (i : Nat) (c : AV) (v : Value), cs[i]? = some c → a[i]? = some v → AVRel φ w F c v) : AVRel φ w F (.agg cs) (.agg a)
  | ptr (k ver off : Nat) (v : Value) (L : Loc) (hL : φ k = some L) (hv : ver ≤ L.ver) (h : ver = L.ver → v = .pointer (some ⟨L.blk, off, none⟩)) (h1 : cell1 v = true) : AVRel φ w F (.ptr k ver off) v
  | vec (k ver off len : Nat) (v : Value) (L : Loc) (hL : φ k = some L) (hv : ver ≤ L.ver)
      (h : ver = L.ver → ∃ a cap, v = .slice a len cap ∧ len ≤ cap ∧ (cap > 0 → a = some ⟨L.blk, L.base + off * L.sz, none⟩ ∧ off + cap ≤ L.cap)) (h1 : cell1 v = true) : AVRel φ w F (.vec k ver off len) v
  | eptr (k ver i j : Nat) (v : Value) (L : Loc) (hL : φ k = some L) (hv : ver ≤ L.ver) (h : ver = L.ver → v = .pointer (some ⟨L.blk, L.base + i * L.sz + j, none⟩)) (h1 : cell1 v = true) : AVRel φ w F (.eptr k ver i j) v
  | rptr (x : D) (j : Nat) (b off : Nat) (x' : Value) (hb : b < w.heap.size) (hF : ¬ F b) (hx : DRel w F x x')
      (hc : ∀ (i : Nat) (c : Value), x'.cells[i]? = some c → w.cell? ⟨b, off + i, none⟩ = some c) : AVRel φ w F (.rptr x j) (.pointer (some ⟨b, off + j, none⟩))
  | fn (f : FuncId) (cap : List AV) (a : Array Value) (hl : cap.length = a.size) (hc : ∀ (i : Nat) (c : AV) (v : Value), cap[i]? = some c → a[i]? = some v → AVRel φ w F c v) : AVRel φ w F (.fn f cap) (.func (.func f) #[] a)
  | tup (vs : List AV) (a : Array Value) (hl : vs.length = a.size) (hc : ∀ (i : Nat) (c : AV) (v : Value), vs[i]? = some c → a[i]? = some v → AVRel φ w F c v) : AVRel φ w F (.tup vs) (.tuple a)
  | ifc (t : TypeId) (x : D) (v : Value) (h : DRel w F x v) : AVRel φ w F (.ifc t x) (.iface t v)
  | lit (v) (h1 : cell1 v = true) : AVRel φ w F (.lit v) v
  | nn (a : Addr) (cap : Nat) : AVRel φ w F .nn (.slice (some a) 0 cap)

/-- A step of the naming: a key that was named stays named; its place turns only with its version. -/
def Phi.le (φ φ' : Phi) : Prop := ∀ k L, φ k = some L → ∃ L', φ' k = some L' ∧ L.ver ≤ L'.ver ∧ (L'.ver = L.ver → L' = L)

theorem Phi.le_refl (φ : Phi) : φ.le φ := fun _ L h => ⟨L, h, Nat.le_refl _, fun _ => rfl⟩
theorem Phi.le_trans {φ φ' φ'' : Phi} (h : φ.le φ') (h' : φ'.le φ'') : φ.le φ'' := by
  intro k L hL
  obtain ⟨L1, h1, hv1, he1⟩ := h k L hL
  obtain ⟨L2, h2, hv2, he2⟩ := h' k L1 h1
  refine ⟨L2, h2, by omega, fun e => ?_⟩
  have e1 : L1.ver = L.ver := by omega
  have := he1 e1
  subst this
  exact he2 e

theorem AVRel.mono {φ φ' : Phi} {w w' : World} {F F' : Nat → Prop} {x v} (h : AVRel φ w F x v) (hφ : φ.le φ')
    (hk : ∀ b, b < w.heap.size → ¬ F b → w'.heap[b]? = w.heap[b]?) (hs : w.heap.size ≤ w'.heap.size) (hF : ∀ b, b < w.heap.size → F' b → F b) : AVRel φ' w' F' x v := by
  induction h with
  | junk v => exact .junk v
  | d x v h => exact .d x v (h.mono hk hs hF)
  | agg cs a hl h1 _ ih => exact .agg cs a hl h1 ih
  | ptr k ver off v L hL hv h h1 =>
    obtain ⟨L', hL', hv', he⟩ := hφ k L hL
    exact .ptr k ver off v L' hL' (by omega) (fun e => by have e1 : L'.ver = L.ver := by omega
                                                          have := he e1; subst this; exact h e) h1
  | vec k ver off len v L hL hv h h1 =>
    obtain ⟨L', hL', hv', he⟩ := hφ k L hL
    exact .vec k ver off len v L' hL' (by omega) (fun e => by have e1 : L'.ver = L.ver := by omega
                                                              have := he e1; subst this; exact h e) h1
  | eptr k ver i j v L hL hv h h1 =>
    obtain ⟨L', hL', hv', he⟩ := hφ k L hL
    exact .eptr k ver i j v L' hL' (by omega) (fun e => by have e1 : L'.ver = L.ver := by omega
                                                           have := he e1; subst this; exact h e) h1
  | rptr x j b off x' hb hFb hx hc =>
    exact .rptr x j b off x' (by omega) (fun h => hFb (hF b hb h)) (hx.mono hk hs hF) (fun i c hi => by rw [cell?_congr (hk b hb hFb)]; exact hc i c hi)
  | fn f cap a hl _ ih => exact .fn f cap a hl ih
  | tup vs a hl _ ih => exact .tup vs a hl ih
  | ifc t x v h => exact .ifc t x v (h.mono hk hs hF)
  | lit v h1 => exact .lit v h1
  | nn a cap => exact .nn a cap
end Go.Am
end
section
namespace Go.Am
open Go

inductive Cont where
  | dead
  | box (cs : List AV)
  | vec (sz : Nat) (rows : List D)

structure Ent where
  key : Nat
  ver : Nat
  cont : Cont

abbrev Mem := List Ent

def Mem.get : Mem → Nat → Option Ent
  | [], _ => none
  | e :: r, k => if e.key = k then some e else Mem.get r k
def Mem.set : Mem → Ent → Mem
  | [], _ => []
  | e :: r, x => if e.key = x.key then x :: r else e :: Mem.set r x

theorem Mem.get_mem {m : Mem} {k e} (h : Mem.get m k = some e) : e ∈ m ∧ e.key = k := by
  induction m with
  | nil => simp [Mem.get] at h
  | cons x r ih =>
    simp only [Mem.get] at h
    split at h
    · simp_all
    · have := ih h; simp_all
theorem Mem.get_of_mem {m : Mem} {e} (hn : (m.map (·.key)).Nodup) (h : e ∈ m) : Mem.get m e.key = some e := by
  induction m with
  | nil => simp at h
  | cons x r ih =>
    simp only [List.map_cons, List.nodup_cons] at hn
    simp only [Mem.get]
    rcases List.mem_cons.1 h with rfl | h
    · simp
    · have : x.key ≠ e.key := fun he => hn.1 (by rw [he]; exact List.mem_map_of_mem h)
      simp [this, ih hn.2 h]
theorem Mem.set_keys (m : Mem) (x : Ent) : (Mem.set m x).map (·.key) = m.map (·.key) := by
  induction m with
  | nil => rfl
  | cons e r ih =>
    simp only [Mem.set]
    split
    · simp_all
    · simp [ih]
theorem Mem.mem_set {m : Mem} {x e : Ent} (hn : (m.map (·.key)).Nodup) : e ∈ Mem.set m x ↔ (e = x ∧ x.key ∈ m.map (·.key)) ∨ (e ∈ m ∧ e.key ≠ x.key) := by
  induction m with
  | nil => simp [Mem.set]
  | cons y r ih =>
    simp only [List.map_cons, List.nodup_cons] at hn
    simp only [Mem.set]
    split
    · rename_i hy
      constructor
      · intro h
        rcases List.mem_cons.1 h with rfl | h
        · left; simp [hy]
        · right; refine ⟨by simp [h], fun he => hn.1 ?_⟩
          rw [hy, ← he]; exact List.mem_map_of_mem h
      · rintro (⟨rfl, _⟩ | ⟨h, hne⟩)
        · simp
        · rcases List.mem_cons.1 h with rfl | h
          · exact absurd hy hne
          · simp [h]
    · rename_i hy
      simp only [List.mem_cons, ih hn.2, List.map_cons]
      constructor
      · rintro (rfl | ⟨rfl, h⟩ | ⟨h, hne⟩)
        · right; exact ⟨.inl rfl, hy⟩
        · left; exact ⟨rfl, .inr h⟩
        · right; exact ⟨.inr h, hne⟩
      · rintro (⟨rfl, h⟩ | ⟨h, hne⟩)
        · rcases h with h | h
          · exact absurd h.symm hy
          · right; left; exact ⟨rfl, h⟩
        · rcases h with rfl | h
          · left; rfl
          · right; right; exact ⟨h, hne⟩
theorem Mem.get_set_same {m : Mem} {x : Ent} (h : x.key ∈ m.map (·.key)) : Mem.get (Mem.set m x) x.key = some x := by
  induction m with
  | nil => simp at h
  | cons y r ih =>
    simp only [Mem.set]
    split
    · simp [Mem.get]
    · rename_i hy
      simp only [Mem.get, hy, if_false]
      exact ih (by simp only [List.map_cons, List.mem_cons] at h; rcases h with h | h; exact absurd h.symm hy; exact h)
theorem Mem.get_set_ne {m : Mem} {x : Ent} {k : Nat} (h : x.key ≠ k) : Mem.get (Mem.set m x) k = Mem.get m k := by
  induction m with
  | nil => rfl
  | cons y r ih =>
    simp only [Mem.set]
    split
    · rename_i hy
      have : y.key ≠ k := by rw [hy]; exact h
      simp [Mem.get, h, this]
    · simp only [Mem.get, ih]

def Cont.owns (L : Loc) : Cont → Prop
  | .dead => False
  | .box _ => True
  | .vec _ _ => 0 < L.cap

def Own (φ : Phi) (m : Mem) (b : Nat) : Prop := ∃ e ∈ m, ∃ L, φ e.key = some L ∧ e.cont.owns L ∧ L.blk = b
/-- The blocks that no pure datum may lie in. -/
def Fo (G : Nat → Prop) (φ : Phi) (m : Mem) (b : Nat) : Prop := G b ∨ Own φ m b

/-- A row of cells that may be written. -/
def RowAt (w : World) (b : Nat) (arr : Array Value) (elem : TypeId) : Prop := ∃ fr : Nat × Nat, w.heap[b]? = some (.cells arr elem fr) ∧ (fr = (0, 0) ∨ arr.size ≤ fr.1)
theorem RowAt.same {w w' : World} {b : Nat} {arr : Array Value} {elem : TypeId} (h : RowAt w b arr elem) (hs : w'.heap[b]? = w.heap[b]?) : RowAt w' b arr elem := by
  obtain ⟨fr, h1, h2⟩ := h
  exact ⟨fr, by rw [hs]; exact h1, h2⟩
theorem RowAt.lt {w : World} {b : Nat} {arr : Array Value} {elem : TypeId} (h : RowAt w b arr elem) : b < w.heap.size := by
  obtain ⟨fr, h1, h2⟩ := h
  exact (Array.getElem?_eq_some_iff.1 h1).1
theorem RowAt.new {w : World} {b : Nat} {arr : Array Value} {elem : TypeId} (h : w.heap[b]? = some (.cells arr elem (0, 0))) : RowAt w b arr elem := ⟨(0, 0), h, .inl rfl⟩
def ContRel (φ : Phi) (w : World) (F : Nat → Prop) (L : Loc) : Cont → Prop
  | .dead => True
  | .box cs => (L.sz = 1 ∧ L.base = 0 ∧ L.cap = cs.length) ∧ ∃ (arr : Array Value) (elem : TypeId), RowAt w L.blk arr elem ∧ arr.size = cs.length ∧ (∀ v ∈ arr, cell1 v = true) ∧
      ∀ (i : Nat) (c : AV) (v : Value), cs[i]? = some c → arr[i]? = some v → AVRel φ w F c v
  | .vec sz rows => L.sz = sz ∧ rows.length ≤ L.cap ∧ (∀ d ∈ rows, d.size = L.sz) ∧ (0 < L.cap → ∃ (arr : Array Value) (elem : TypeId), RowAt w L.blk arr elem ∧
      arr.size = L.base + L.cap * L.sz ∧ (∀ v ∈ arr, cell1 v = true) ∧
      ∀ (i : Nat) (d : D), rows[i]? = some d → ∃ v, DRel w F d v ∧ ∀ (j : Nat) (c : Value), v.cells[j]? = some c → arr[L.base + i * L.sz + j]? = some c)

def EntRel (φ : Phi) (w : World) (F : Nat → Prop) (e : Ent) : Prop := ∃ L, φ e.key = some L ∧ L.ver = e.ver ∧ ContRel φ w F L e.cont

theorem ContRel.lt {φ w F L c} (h : ContRel φ w F L c) (ho : c.owns L) : L.blk < w.heap.size := by
  have key : ∀ {x}, w.heap[L.blk]? = some x → L.blk < w.heap.size := fun hx => (Array.getElem?_eq_some_iff.1 hx).1
  cases c with
  | dead => exact ho.elim
  | box cs => obtain ⟨_, arr, elem, h, _⟩ := h; exact h.lt
  | vec sz rows => obtain ⟨_, _, _, h⟩ := h; obtain ⟨arr, elem, h, _⟩ := h ho; exact h.lt

theorem ContRel.mono {φ φ' : Phi} {w w' : World} {F F' : Nat → Prop} {L c} (h : ContRel φ w F L c) (hφ : φ.le φ')
    (hk : ∀ b, b < w.heap.size → ¬ F b → w'.heap[b]? = w.heap[b]?) (hs : w.heap.size ≤ w'.heap.size) (hF : ∀ b, b < w.heap.size → F' b → F b)
    (hown : c.owns L → w'.heap[L.blk]? = w.heap[L.blk]?) : ContRel φ' w' F' L c := by
  cases c with
  | dead => trivial
  | box cs =>
    obtain ⟨h0, arr, elem, h1, h2, h3, h4⟩ := h
    exact ⟨h0, arr, elem, h1.same (hown trivial), h2, h3, fun i c v hc hv => (h4 i c v hc hv).mono hφ hk hs hF⟩
  | vec sz rows =>
    obtain ⟨hs', h0, hz, h⟩ := h
    refine ⟨hs', h0, hz, fun hc => ?_⟩
    obtain ⟨arr, elem, h1, h2, h3, h4⟩ := h hc
    exact ⟨arr, elem, h1.same (hown hc), h2, h3, fun i d hd => let ⟨v, hv, hj⟩ := h4 i d hd; ⟨v, hv.mono hk hs hF, hj⟩⟩

structure MemRel (φ : Phi) (G : Nat → Prop) (m : Mem) (w : World) : Prop where
  nodup : (m.map (·.key)).Nodup
  dom : ∀ k L, φ k = some L → k ∈ m.map (·.key)
  ents : ∀ e ∈ m, EntRel φ w (Fo G φ m) e
  apart : ∀ e ∈ m, ∀ e' ∈ m, ∀ L L', φ e.key = some L → φ e'.key = some L' → e.cont.owns L → e'.cont.owns L' → L.blk = L'.blk → e.key = e'.key
  notG : ∀ b, Own φ m b → ¬ G b
  bound : ∀ b, G b → b < w.heap.size

theorem MemRel.own_lt {φ G m w} (h : MemRel φ G m w) {b} (hb : Own φ m b) : b < w.heap.size := by
  obtain ⟨e, he, L, hL, ho, rfl⟩ := hb
  obtain ⟨L', hL', _, hc⟩ := h.ents e he
  rw [hL] at hL'; cases hL'
  exact hc.lt ho

structure Keeps (φ : Phi) (m : Mem) (w : World) (φ' : Phi) (m' : Mem) (w' : World) : Prop where
  le : φ.le φ'
  old : ∀ b, b < w.heap.size → ¬ Own φ m b → w'.heap[b]? = w.heap[b]?
  own : ∀ b, b < w.heap.size → Own φ' m' b → Own φ m b
  size : w.heap.size ≤ w'.heap.size
  os : w'.os = w.os
  tape : w'.tape = w.tape
  output : w'.output = w.output

theorem Keeps.refl (φ m w) : Keeps φ m w φ m w := ⟨Phi.le_refl _, fun _ _ _ => rfl, fun _ _ h => h, Nat.le_refl _, rfl, rfl, rfl⟩
theorem Keeps.trans {φ m w φ1 m1 w1 φ2 m2 w2} (h : Keeps φ m w φ1 m1 w1) (k : Keeps φ1 m1 w1 φ2 m2 w2) : Keeps φ m w φ2 m2 w2 where
  le := Phi.le_trans h.le k.le
  old := fun b hb hn => by
    rw [k.old b (Nat.lt_of_lt_of_le hb h.size) (fun h1 => hn (h.own b hb h1)), h.old b hb hn]
  own := fun b hb hn => h.own b hb (k.own b (Nat.lt_of_lt_of_le hb h.size) hn)
  size := Nat.le_trans h.size k.size
  os := k.os.trans h.os
  tape := k.tape.trans h.tape
  output := k.output.trans h.output

/-- What holds of abstract values before holds behind. -/
theorem Keeps.av {φ m w φ' m' w' G} (h : Keeps φ m w φ' m' w') {x v} (hx : AVRel φ w (Fo G φ m) x v) : AVRel φ' w' (Fo G φ' m') x v :=
  hx.mono h.le (fun b hb hn => h.old b hb (fun ho => hn (.inr ho))) h.size (fun b hb => Or.imp id (h.own b hb))

/-- One entry is turned: its key gets a place L', the world turns at most at its old block and in new ones. -/
theorem MemRel.upd {φ G m w w'} (h : MemRel φ G m w) {e e' : Ent} (he : e ∈ m) {L L' : Loc} (hL : φ e.key = some L) (hkey : e'.key = e.key)
    (hver : L.ver ≤ L'.ver) (hsame : L'.ver = L.ver → L' = L)
    (hv : L'.ver = e'.ver)
    (hold : ∀ b, b < w.heap.size → ¬ (e.cont.owns L ∧ b = L.blk) → w'.heap[b]? = w.heap[b]?) (hs : w.heap.size ≤ w'.heap.size)
    (hblk : e'.cont.owns L' → (e.cont.owns L ∧ L'.blk = L.blk) ∨ w.heap.size ≤ L'.blk)
    (hos : w'.os = w.os) (htape : w'.tape = w.tape) (hout : w'.output = w.output)
    (hc : ∀ φ' : Phi, φ' = (fun k => if k = e.key then some L' else φ k) → φ.le φ' → ContRel φ' w' (Fo G φ' (Mem.set m e')) L' e'.cont) :
    ∃ φ', MemRel φ' G (Mem.set m e') w' ∧ Keeps φ m w φ' (Mem.set m e') w' ∧ φ' e.key = some L' ∧ ∀ k, k ≠ e.key → φ' k = φ k := by
  have hle : φ.le (fun k => if k = e.key then some L' else φ k) := by
    intro k L0 h0
    by_cases hk : k = e.key
    · subst hk
      rw [hL] at h0; cases h0
      exact ⟨L', by simp, hver, hsame⟩
    · exact ⟨L0, by simp [hk, h0], Nat.le_refl _, fun _ => rfl⟩
  have hinm : e'.key ∈ m.map (·.key) := by rw [hkey]; exact List.mem_map_of_mem he
  have hother : ∀ x ∈ m, x.key ≠ e.key → ∀ Lx, φ x.key = some Lx → x.cont.owns Lx → e.cont.owns L → Lx.blk ≠ L.blk :=
    fun x hx hne Lx hLx hox hoe heq => hne (h.apart x hx e he Lx L hLx hL hox hoe heq)
  have hownle : ∀ b, b < w.heap.size → Own (fun k => if k = e.key then some L' else φ k) (Mem.set m e') b → Own φ m b := by
    rintro b hb ⟨x, hx, Lx, hLx, hox, rfl⟩
    rcases (Mem.mem_set h.nodup).1 hx with ⟨rfl, _⟩ | ⟨hxm, hne⟩
    · simp [hkey] at hLx; subst hLx
      rcases hblk hox with ⟨hoe, heq⟩ | hge
      · exact ⟨e, he, L, hL, hoe, heq.symm⟩
      · omega
    · rw [hkey] at hne
      simp [hne] at hLx
      exact ⟨x, hxm, Lx, hLx, hox, rfl⟩
  have hkeep : ∀ b, b < w.heap.size → ¬ Own φ m b → w'.heap[b]? = w.heap[b]? := fun b hb hn =>
    hold b hb fun ⟨ho, heq⟩ => hn ⟨e, he, L, hL, ho, heq.symm⟩
  refine ⟨_, ⟨by rw [Mem.set_keys]; exact h.nodup, ?_, ?_, ?_, ?_, ?_⟩, ⟨hle, hkeep, hownle, hs, hos, htape, hout⟩, by simp, fun k hk => by simp [hk]⟩
  · intro k L0 h0
    rw [Mem.set_keys]
    by_cases hk : k = e.key
    · subst hk; exact List.mem_map_of_mem he
    · simp [hk] at h0; exact h.dom k L0 h0
  · intro x hx
    rcases (Mem.mem_set h.nodup).1 hx with ⟨rfl, _⟩ | ⟨hxm, hne⟩
    · exact ⟨L', by simp [hkey], hv, hc _ rfl hle⟩
    · rw [hkey] at hne
      obtain ⟨Lx, hLx, hvx, hcx⟩ := h.ents x hxm
      refine ⟨Lx, by simp [hne, hLx], hvx, hcx.mono hle (fun b hb hn => hkeep b hb (fun ho => hn (.inr ho))) hs (fun b hb => Or.imp id (hownle b hb)) (fun hox => ?_)⟩
      exact hold _ (hcx.lt hox) (fun ⟨hoe, heq⟩ => hother x hxm hne Lx hLx hox hoe heq)
  · intro x hx y hy Lx Ly hLx hLy hox hoy heq
    rcases (Mem.mem_set h.nodup).1 hx with ⟨rfl, _⟩ | ⟨hxm, hnex⟩ <;> rcases (Mem.mem_set h.nodup).1 hy with ⟨rfl, _⟩ | ⟨hym, hney⟩
    · rfl
    · rw [hkey] at hney
      simp [hkey] at hLx; subst hLx
      simp [hney] at hLy
      obtain ⟨Ly', hLy', _, hcy⟩ := h.ents y hym
      rw [hLy] at hLy'; cases hLy'
      rcases hblk hox with ⟨hoe, heq'⟩ | hge
      · exact absurd (by rw [← heq, heq']) (hother y hym hney Ly hLy hoy hoe)
      · have := hcy.lt hoy; omega
    · rw [hkey] at hnex
      simp [hkey] at hLy; subst hLy
      simp [hnex] at hLx
      obtain ⟨Lx', hLx', _, hcx⟩ := h.ents x hxm
      rw [hLx] at hLx'; cases hLx'
      rcases hblk hoy with ⟨hoe, heq'⟩ | hge
      · exact absurd (by rw [heq, heq']) (hother x hxm hnex Lx hLx hox hoe)
      · have := hcx.lt hox; omega
    · rw [hkey] at hnex hney
      simp [hnex] at hLx; simp [hney] at hLy
      exact h.apart x hxm y hym Lx Ly hLx hLy hox hoy heq
  · intro b hb hG
    exact h.notG b (hownle b (h.bound b hG) hb) hG
  · intro b hG; exact Nat.lt_of_lt_of_le (h.bound b hG) hs

/-- The world turns outside of what is owned alone by new blocks: nothing turns. -/
theorem MemRel.grow {φ G m w w'} (h : MemRel φ G m w) (hold : ∀ b, b < w.heap.size → w'.heap[b]? = w.heap[b]?) (hs : w.heap.size ≤ w'.heap.size) : MemRel φ G m w' where
  nodup := h.nodup
  dom := h.dom
  ents := fun e he => by
    obtain ⟨L, hL, hv, hc⟩ := h.ents e he
    exact ⟨L, hL, hv, hc.mono (Phi.le_refl _) (fun b hb _ => hold b hb) hs (fun _ _ h => h) (fun ho => hold _ (hc.lt ho))⟩
  apart := h.apart
  notG := h.notG
  bound := fun b hG => Nat.lt_of_lt_of_le (h.bound b hG) hs

theorem Keeps.grow {φ m w w'} (hold : ∀ b, b < w.heap.size → w'.heap[b]? = w.heap[b]?) (hs : w.heap.size ≤ w'.heap.size) (hos : w'.os = w.os) (ht : w'.tape = w.tape) (ho : w'.output = w.output) : Keeps φ m w φ m w' :=
  ⟨Phi.le_refl _, fun b hb _ => hold b hb, fun _ _ h => h, hs, hos, ht, ho⟩

/- States. -/
abbrev Env := List (Nat × Bool × AV)
def Env.lk : Env → Nat → Option (Bool × AV)
  | [], _ => none
  | (t, x) :: r, u => if t = u then some x else Env.lk r u

structure St where
  n : Nat
  gl : List (Nat × D)
  env : Env
  mem : Mem

/-- Package-level variables whose data are known. -/
def GlobRel (w : World) (F : Nat → Prop) (gl : List (Nat × D)) : Prop :=
  ∀ x ∈ gl, x.1 < w.heap.size ∧ ¬ F x.1 ∧ ∃ x', DRel w F x.2 x' ∧ ∀ (i : Nat) (c : Value), x'.cells[i]? = some c → w.cell? ⟨x.1, i, none⟩ = some c

theorem GlobRel.mono {w w' : World} {F F' : Nat → Prop} {gl} (h : GlobRel w F gl) (hk : ∀ b, b < w.heap.size → ¬ F b → w'.heap[b]? = w.heap[b]?) (hs : w.heap.size ≤ w'.heap.size)
    (hF : ∀ b, b < w.heap.size → F' b → F b) : GlobRel w' F' gl := fun x hx => by
  obtain ⟨h1, h2, x', h3, h4⟩ := h x hx
  exact ⟨by omega, fun hf => h2 (hF _ h1 hf), x', h3.mono hk hs hF, fun i c hc => by rw [cell?_congr (hk _ h1 h2)]; exact h4 i c hc⟩

theorem Keeps.glob {φ m w φ' m' w' G gl} (h : Keeps φ m w φ' m' w') (hx : GlobRel w (Fo G φ m) gl) : GlobRel w' (Fo G φ' m') gl :=
  hx.mono (fun b hb hn => h.old b hb (fun ho => hn (.inr ho))) h.size (fun b hb => Or.imp id (h.own b hb))

structure Rel (φ : Phi) (G : Nat → Prop) (S : St) (a : Act) (w : World) : Prop where
  size : a.tmps.size = S.n
  defers : a.defers = []
  env : ∀ t x, Env.lk S.env t = some (true, x) → AVRel φ w (Fo G φ S.mem) x (a.tmps.getD t undef)
  mem : MemRel φ G S.mem w
  glob : GlobRel w (Fo G φ S.mem) S.gl

def St.put (S : St) (d : Option Nat) (g : Bool) (x : AV) : St :=
  match d with
  | some d => { S with env := (d, g, x) :: S.env }
  | none => S

theorem Rel.put {φ G S a w} (h : Rel φ G S a w) (d : Option Nat) (hd : ∀ t, d = some t → t < S.n) (g : Bool) (x : AV) (v : Value)
    (hx : g = true → AVRel φ w (Fo G φ S.mem) x v) : Rel φ G (S.put d g x) (a.put d v) w := by
  cases d with
  | none => exact h
  | some d =>
    have hd := hd d rfl
    refine ⟨by simp [Act.put, St.put, h.size], by simp [Act.put, h.defers], ?_, h.mem, h.glob⟩
    intro t y hy
    simp only [St.put, Env.lk] at hy
    by_cases ht : d = t
    · subst ht
      simp only [if_true, Option.some.injEq, Prod.mk.injEq] at hy
      obtain ⟨rfl, rfl⟩ := hy
      have : d < a.tmps.size := by rw [h.size]; exact hd
      have e : (a.put (some d) v).tmps.getD d undef = v := by simp [Act.put, this]
      rw [e]; exact hx rfl
    · simp only [ht, if_false] at hy
      have e : (a.put (some d) v).tmps.getD t undef = a.tmps.getD t undef := by simp [Act.put, ht]
      rw [e]; exact h.env t y hy

/-- The state behind a turn of memory. -/
theorem Rel.turn {φ G S a w φ' m' w'} (h : Rel φ G S a w) (hm : MemRel φ' G m' w') (hk : Keeps φ S.mem w φ' m' w') : Rel φ' G { S with mem := m' } a w' :=
  ⟨h.size, h.defers, fun t x hx => hk.av (h.env t x hx), hm, hk.glob h.glob⟩
end Go.Am
end
section
namespace Go.Am
open Go

theorem oneCell_of_cell1 {v : Value} (h : cell1 v = true) : v.oneCell' = true := by cases v <;> simp_all [cell1, Value.oneCell']

inductive TK where
  | int (k : IntKind)
  | bool
  | str
  | slice (e : TypeId)
  | arr (n : Nat) (e : TypeId)
  | struct
  | iface
  | ptr (e : TypeId)
  | func
  | other
  deriving DecidableEq

def tk (P : Program) (t : TypeId) : TK :=
  match P.underlying t with
  | some (.int k) => .int k
  | some .bool => .bool
  | some .string => .str
  | some (.slice e) => .slice e
  | some (.array n e) => .arr n e
  | some (.struct _) => .struct
  | some (.interface _) => .iface
  | some (.pointer e) => .ptr e
  | some (.func _ _ _) => .func
  | _ => .other
def tsz (P : Program) (t : TypeId) : Option Nat := (P.info? t).map (·.size)
def foff (P : Program) (s : TypeId) (f : Nat) : Option Nat :=
  match P.underlying s with
  | some (.struct fs) => match fs[f]? with
    | some fl => match P.info? fl.type with
      | some i => if i.size = 0 then none else some fl.offset
      | none => none
    | none => none
  | _ => none
def TK.agg : TK → Bool
  | .arr _ _ => true
  | .struct => true
  | _ => false

theorem run_isAgg {P : Program} {t : TypeId} {w : World} (h : tk P t ≠ .other) : (isAgg t).run P w = .ok (tk P t).agg w := by
  unfold isAgg
  cases hu : P.underlying t with
  | none => simp [tk, hu] at h
  | some d =>
    rw [Sem.run_bind, run_underlying hu]
    cases d <;> simp_all [tk, TK.agg]
theorem run_sizeOf {P : Program} {t : TypeId} {n : Nat} {w : World} (h : tsz P t = some n) : (sizeOf t).run P w = .ok n w := by
  unfold tsz at h
  cases hi : P.info? t with
  | none => simp [hi] at h
  | some i => simp [hi] at h; simp [sizeOf, typeInfo, hi, h]

theorem add_none (b o j : Nat) : (⟨b, o, none⟩ : Addr).add j = ⟨b, o + j, none⟩ := by unfold Addr.add; split <;> simp_all

theorem run_load1 {P : Program} {t : TypeId} {w : World} {a : Addr} {v : Value} (ha : (tk P t).agg = false) (ho : tk P t ≠ .other) (hc : w.cell? a = some v) :
    (Instr.loadAt t (.pointer (some a))).run P w = .ok v w := by
  simp [Instr.loadAt, Instr.sureAddr, loadVar, Sem.run_bind, run_isAgg ho, ha, load, Sem.run, hc]
theorem run_loadN {P : Program} {t : TypeId} {w : World} {b o : Nat} {vs : List Value} (ha : (tk P t).agg = true) (hs : tsz P t = some vs.length)
    (hc : ∀ j v, vs[j]? = some v → w.cell? ⟨b, o + j, none⟩ = some v) :
    (Instr.loadAt t (.pointer (some ⟨b, o, none⟩))).run P w = .ok (.agg vs.toArray) w := by
  have ho : tk P t ≠ .other := by intro h; rw [h] at ha; cases ha
  have hl := run_loadCells_list (P := P) w ⟨b, o, none⟩ vs (fun j v h => by rw [add_none]; exact hc j v h)
  simp [Instr.loadAt, Instr.sureAddr, loadVar, Sem.run_bind, run_isAgg ho, ha, run_sizeOf hs, hl]

theorem run_storeCells_atR {P : Program} (g o : Nat) (t : TypeId) (fz : Nat × Nat) : ∀ (vs : List Value) (i : Nat) (cur : Array Value) (w : World), w.heap[g]? = some (.cells cur t fz) → (fz = (0, 0) ∨ cur.size ≤ fz.1) → o + i + vs.length ≤ cur.size → (∀ v ∈ vs, v.oneCell' = true) →
    (storeCells ⟨g, o, none⟩ vs i).run P w = .ok () (w.setRow g (cur.toList.take (o + i) ++ vs ++ cur.toList.drop (o + i + vs.length)).toArray)
  | [], i, cur, w, hg, _, _, _ => by
    simp only [storeCells, List.append_nil, List.length_nil, Nat.add_zero, List.take_append_drop, Array.toArray_toList]
    rw [setRow_self w g cur t fz hg]
    rfl
  | v :: rest, i, cur, w, hg, hfz, hl, h1 => by
    have hi : o + i < cur.size := by simp at hl; omega
    have hadd : (⟨g, o, none⟩ : Addr).add i = ⟨g, o + i, none⟩ := by unfold Addr.add; split <;> simp_all
    have hcell : w.cell? ⟨g, o + i, none⟩ = some cur[o + i] := by simp [World.cell?, hg, hi]
    have hfro : w.frozen? ⟨g, o + i, none⟩ = false := by
      obtain ⟨lo, hi'⟩ := fz
      simp only [World.frozen?, hg, Bool.and_eq_false_iff, decide_eq_false_iff_not]
      rcases hfz with h | h
      · cases h; omega
      · simp only at h; omega
    have hst : (store ((⟨g, o, none⟩ : Addr).add i) v).run P w = .ok () (w.setRow g (cur.setIfInBounds (o + i) v)) := by
      rw [hadd, run_store P w _ v _ (h1 v (by simp)), hcell]
      simp [hfro, setCell_eq_setRow w g (o + i) cur t fz v hg]
    have ih := run_storeCells_atR (P := P) g o t fz rest (i + 1) (cur.setIfInBounds (o + i) v) (w.setRow g (cur.setIfInBounds (o + i) v)) (setRow_heap w g cur _ t _ hg) (by simpa using hfz) (by simp at hl ⊢; omega) (fun x hx => h1 x (by simp [hx]))
    simp only [storeCells, Sem.run_bind, hst, Result.andThen_ok, ih, setRow_setRow]
    congr 3
    have e := list_seg_step cur.toList (o + i) v rest (by simp at hl ⊢; omega)
    simpa [Array.toList_setIfInBounds, Nat.add_assoc] using e
/-- A store of a value of n cells into a row that is known. -/
theorem run_storeAt {P : Program} {t : TypeId} {w : World} {b o : Nat} {arr : Array Value} {elem : TypeId} {v : Value} (hs : tsz P t = some v.cells.size)
    (hg : RowAt w b arr elem) (hl : o + v.cells.size ≤ arr.size) (h1 : ∀ x ∈ v.cells, cell1 x = true) :
    (Instr.storeAt t (.pointer (some ⟨b, o, none⟩)) v).run P w = .ok () (w.setRow b (arr.toList.take o ++ v.cells.toList ++ arr.toList.drop (o + v.cells.size)).toArray) := by
  obtain ⟨fz, hg, hfz⟩ := hg
  have h := run_storeCells_atR (P := P) b o elem fz v.cells.toList 0 arr w hg hfz (by simpa using hl) (fun x hx => oneCell_of_cell1 (h1 x (by simpa using hx)))
  simp only [Nat.add_zero, Array.length_toList] at h
  simp [Instr.storeAt, Instr.sureAddr, storeVar, Sem.run_bind, run_sizeOf hs, h]

/- Data and their cells. -/
def D.cells : D → List D
  | .agg cs => cs
  | x => [x]
def D.at (xs : List D) (i : Nat) : D := xs[i]?.getD (.bool false)
def D.cell (x : D) (j : Nat) : D := x.cells[j]?.getD (.bool false)

def toD1 : AV → Option D
  | .d x => some x
  | .lit (.slice none 0 0) => some (.list [])
  | .nn => some (.list [])
  | _ => none
def toDs : List AV → Option (List D)
  | [] => some []
  | x :: r => match x, toDs r with
    | .d y, some ys => some (y :: ys)
    | _, _ => none
def toDsN : List AV → Option (List D)
  | [] => some []
  | x :: r => match toD1 x, toDsN r with
    | some y, some ys => some (y :: ys)
    | _, _ => none
def mkAgg (cs : List AV) : AV := match toDs cs with | some ds => .d (.agg ds) | none => .agg cs
def AV.norm : AV → AV
  | .agg cs => match toDsN cs with | some ds => .d (.agg ds) | none => .agg cs
  | .lit (.slice none 0 0) => .d (.list [])
  | .nn => .d (.list [])
  | x => x
def AV.cells : AV → List AV
  | .agg cs => cs
  | .d (.agg ds) => ds.map .d
  | x => [x]

theorem D.cells_length (x : D) : x.cells.length = x.size := by cases x <;> rfl

theorem single_rel {w : World} {F : Nat → Prop} {x : D} {v : Value} (hf : x.flat = true) (h : DRel w F x v) (hx : x.cells = [x]) (hv : v.cells = #[v]) :
    v.cells.toList.length = x.cells.length ∧ (∀ u ∈ v.cells, cell1 u = true) ∧ ∀ (i : Nat) (c : D) (u : Value), x.cells[i]? = some c → v.cells[i]? = some u → DRel w F c u ∧ c.flat = true := by
  rw [hx, hv]
  refine ⟨rfl, fun u hu => by simp at hu; subst hu; exact h.one hf, fun i c u h1 h2 => ?_⟩
  cases i with
  | zero => simp at h1 h2; subst h1; subst h2; exact ⟨h, hf⟩
  | succ i => simp at h1
theorem DRel.cells {w F x v} (h : DRel w F x v) : v.cells.toList.length = x.cells.length ∧ (∀ u ∈ v.cells, cell1 u = true) ∧ ∀ (i : Nat) (c : D) (u : Value), x.cells[i]? = some c → v.cells[i]? = some u → DRel w F c u ∧ c.flat = true := by
  cases hd : x with
  | agg cs =>
    subst hd
    cases h with
    | agg cs a hl hf hc =>
      refine ⟨by simp [D.cells, Value.cells, hl], ?_, fun i c u h1 h2 => ⟨hc i c u h1 h2, hf c (List.mem_of_getElem? h1)⟩⟩
      intro u hu
      have hu : u ∈ a := hu
      obtain ⟨i, hi, rfl⟩ := Array.mem_iff_getElem.1 hu
      have hi' : i < cs.length := by rw [hl]; exact hi
      exact (hc i cs[i] a[i] (by simp [hi']) (by simp [hi])).one (hf _ (List.getElem_mem hi'))
  | _ => subst hd; exact single_rel rfl h rfl (cells_of_cell1 (h.one rfl))

theorem DRel.ofCells {w F} {cs : List D} {vs : List Value} (hl : cs.length = vs.length) (h1 : ∀ v ∈ vs, cell1 v = true)
    (hc : ∀ (i : Nat) c v, cs[i]? = some c → vs[i]? = some v → DRel w F c v) : DRel w F (.agg cs) (.agg vs.toArray) := by
  refine .agg cs vs.toArray (by simpa using hl) ?_ (fun i d v h h' => hc i d v h (by simpa using h'))
  intro d hd
  obtain ⟨i, hi, rfl⟩ := List.mem_iff_getElem.1 hd
  have hi' : i < vs.length := by omega
  have h3 := hc i cs[i] vs[i] (by simp [hi]) (by simp [hi'])
  have h2 := h1 vs[i] (List.getElem_mem hi')
  revert h3 h2
  generalize vs[i] = v
  generalize cs[i] = c
  intro h3 h2
  cases h3 <;> simp_all [D.flat, cell1]

theorem toDs_rel {φ w F} : ∀ {cs : List AV} {ds : List D} {vs : List Value}, toDs cs = some ds → (∀ (i : Nat) c v, cs[i]? = some c → vs[i]? = some v → AVRel φ w F c v) →
    cs.length = ds.length ∧ ∀ (i : Nat) d v, ds[i]? = some d → vs[i]? = some v → DRel w F d v
  | [], ds, vs, h, _ => by simp [toDs] at h; subst h; simp
  | x :: r, ds, vs, h, hc => by
    simp only [toDs] at h
    split at h <;> simp at h
    rename_i y ys hy
    subst h
    cases vs with
    | nil =>
      have ih := toDs_rel (φ := φ) (w := w) (F := F) (vs := []) hy (fun i c v _ h2 => by simp at h2)
      exact ⟨by simp [ih.1], fun i d v _ h2 => by simp at h2⟩
    | cons v0 vs =>
      have ih := toDs_rel (vs := vs) hy (fun i c v h1 h2 => hc (i + 1) c v (by simpa using h1) (by simpa using h2))
      refine ⟨by simp [ih.1], fun i d v h1 h2 => ?_⟩
      cases i with
      | zero =>
        simp at h1 h2; subst h1; subst h2
        have := hc 0 (.d y) v0 (by simp) (by simp)
        cases this with | d _ _ h => exact h
      | succ i => exact ih.2 i d v (by simpa using h1) (by simpa using h2)
theorem toD1_rel {φ w F x d v} (h : toD1 x = some d) (hx : AVRel φ w F x v) : DRel w F d v := by
  unfold toD1 at h
  split at h <;> simp at h
  · subst h; cases hx with | d _ _ h => exact h
  · subst h; cases hx; exact .nil none 0 fun _ => rfl
  · subst h; cases hx; exact .nil _ _ (by simp)
theorem toDsN_rel {φ w F} : ∀ {cs : List AV} {ds : List D} {vs : List Value}, toDsN cs = some ds → (∀ (i : Nat) c v, cs[i]? = some c → vs[i]? = some v → AVRel φ w F c v) →
    cs.length = ds.length ∧ ∀ (i : Nat) d v, ds[i]? = some d → vs[i]? = some v → DRel w F d v
  | [], ds, vs, h, _ => by simp [toDsN] at h; subst h; simp
  | x :: r, ds, vs, h, hc => by
    simp only [toDsN] at h
    split at h <;> simp at h
    rename_i y ys hx hy
    subst h
    cases vs with
    | nil =>
      have ih := toDsN_rel (φ := φ) (w := w) (F := F) (vs := []) hy (fun i c v _ h2 => by simp at h2)
      exact ⟨by simp [ih.1], fun i d v _ h2 => by simp at h2⟩
    | cons v0 vs =>
      have ih := toDsN_rel (vs := vs) hy (fun i c v h1 h2 => hc (i + 1) c v (by simpa using h1) (by simpa using h2))
      refine ⟨by simp [ih.1], fun i d v h1 h2 => ?_⟩
      cases i with
      | zero =>
        simp at h1 h2; subst h1; subst h2
        exact toD1_rel hx (hc 0 x v0 (by simp) (by simp))
      | succ i => exact ih.2 i d v (by simpa using h1) (by simpa using h2)

theorem mkAgg_rel {φ w F} {cs : List AV} {vs : List Value} (hl : cs.length = vs.length) (h1 : ∀ v ∈ vs, cell1 v = true)
    (hc : ∀ (i : Nat) c v, cs[i]? = some c → vs[i]? = some v → AVRel φ w F c v) : AVRel φ w F (mkAgg cs) (.agg vs.toArray) := by
  unfold mkAgg
  split
  · rename_i ds hds
    have := toDs_rel hds hc
    exact .d _ _ (.ofCells (by omega) h1 this.2)
  · exact .agg cs vs.toArray (by simpa using hl) (fun v hv => h1 v (by simpa using hv)) (fun i c v h h' => hc i c v h (by simpa using h'))

theorem AVRel.norm {φ w F x v} (h : AVRel φ w F x v) : AVRel φ w F x.norm v := by
  unfold AV.norm
  split
  · rename_i cs
    split
    · rename_i ds hds
      cases h with
      | agg _ a hl h1 hc =>
        have := toDsN_rel (vs := a.toList) hds (fun i c v h h' => hc i c v h (by simpa using h'))
        have h2 := DRel.ofCells (w := w) (F := F) (cs := ds) (vs := a.toList) (by simp; omega) (fun v hv => h1 v (by simpa using hv)) this.2
        rw [Array.toArray_toList] at h2
        exact .d _ _ h2
    · exact h
  · cases h; exact .d _ _ (.nil none 0 fun _ => rfl)
  · cases h; exact .d _ _ (.nil _ _ (by simp))
  · exact h

theorem AVRel.cells {φ w F x v} (h : AVRel φ w F x v) (h1 : ∀ u ∈ v.cells, cell1 u = true) (hl : v.cells.size = x.cells.length) :
    ∀ (i : Nat) c u, x.cells[i]? = some c → v.cells[i]? = some u → AVRel φ w F c u := by
  cases h with
  | agg cs a hl h1 hc => exact fun i c u hc' hu => hc i c u hc' hu
  | d x v h =>
    intro i c u hc' hu
    have := h.cells
    cases x with
    | agg cs =>
      simp only [AV.cells, List.getElem?_map, Option.map_eq_some_iff] at hc'
      obtain ⟨y, hy, rfl⟩ := hc'
      exact .d _ _ (this.2.2 i y u hy hu).1
    | _ =>
      simp only [AV.cells] at hc'
      cases i with
      | zero => simp at hc'; subst hc'; exact .d _ _ (this.2.2 0 _ u rfl hu).1
      | succ i => simp at hc'
  | junk v =>
    intro i c u hc' hu
    cases i with
    | zero => simp [AV.cells] at hc'; subst hc'; exact .junk _
    | succ i => simp [AV.cells] at hc'
  | ptr k ver off v L hL hv h h2 =>
    intro i c u hc' hu
    rw [cells_of_cell1 h2] at hu
    cases i with
    | zero => simp [AV.cells] at hc' hu; subst hc'; subst hu; exact .ptr k ver off v L hL hv h h2
    | succ i => simp [AV.cells] at hc'
  | vec k ver off len v L hL hv h h2 =>
    intro i c u hc' hu
    rw [cells_of_cell1 h2] at hu
    cases i with
    | zero => simp [AV.cells] at hc' hu; subst hc'; subst hu; exact .vec k ver off len v L hL hv h h2
    | succ i => simp [AV.cells] at hc'
  | eptr k ver p j v L hL hv h h2 =>
    intro i c u hc' hu
    rw [cells_of_cell1 h2] at hu
    cases i with
    | zero => simp [AV.cells] at hc' hu; subst hc'; subst hu; exact .eptr k ver p j v L hL hv h h2
    | succ i => simp [AV.cells] at hc'
  | rptr x j b off x' hb hF hx hc =>
    intro i c u hc' hu
    cases i with
    | zero => simp [AV.cells, Value.cells] at hc' hu; subst hc'; subst hu; exact .rptr x j b off x' hb hF hx hc
    | succ i => simp [AV.cells] at hc'
  | fn f cap a hl' hc =>
    intro i c u hc' hu
    cases i with
    | zero => simp [AV.cells, Value.cells] at hc' hu; subst hc'; subst hu; exact .fn f cap a hl' hc
    | succ i => simp [AV.cells] at hc'
  | tup vs a hl hc =>
    have := h1 (.tuple a) (by simp [Value.cells])
    simp [cell1] at this
  | ifc t x v h =>
    intro i c u hc' hu
    cases i with
    | zero => simp [AV.cells, Value.cells] at hc' hu; subst hc'; subst hu; exact .ifc t x v h
    | succ i => simp [AV.cells] at hc'
  | lit v h2 =>
    intro i c u hc' hu
    rw [cells_of_cell1 h2] at hu
    cases i with
    | zero => simp [AV.cells] at hc' hu; subst hc'; subst hu; exact .lit _ h2
    | succ i => simp [AV.cells] at hc'
  | nn a cap =>
    intro i c u hc' hu
    cases i with
    | zero => simp [AV.cells, Value.cells] at hc' hu; subst hc'; subst hu; exact .nn a cap
    | succ i => simp [AV.cells] at hc'

/- Operands. -/
def constAV : Value → AV
  | .int k n => .d (.int k n)
  | .bool b => .d (.bool b)
  | .string s => .d (.str s.data.toList)
  | .agg _ => .junk
  | .tuple _ => .junk
  | v => .lit v
theorem constAV_rel (φ w F v) : AVRel φ w F (constAV v) v := by
  cases v <;> first | exact .d _ _ (.int _ _) | exact .d _ _ (.bool _) | exact .d _ _ (.str _ _ rfl) | exact .junk _ | exact .lit _ rfl

def glk : List (Nat × D) → Nat → Option D
  | [], _ => none
  | (g, d) :: r, k => if g = k then some d else glk r k
theorem glk_mem : ∀ {l : List (Nat × D)} {g d}, glk l g = some d → (g, d) ∈ l
  | [], g, d, h => by simp [glk] at h
  | (g', d') :: r, g, d, h => by
    simp only [glk] at h
    split at h
    · rename_i hg; subst hg; cases h; simp
    · have := glk_mem h; simp [this]
def St.opd (S : St) : Operand → Bool × AV
  | .tmp t => (Env.lk S.env t).getD (true, .junk)
  | .const v => (true, constAV v)
  | .global g => match glk S.gl g with
    | some d => (true, .rptr d 0)
    | none => (true, .lit (.pointer (some ⟨g, 0, none⟩)))
  | .func f => (true, .fn f [])

theorem Rel.opd {φ G S a w} (h : Rel φ G S a w) (x : Operand) (hx : (S.opd x).1 = true) : AVRel φ w (Fo G φ S.mem) (S.opd x).2 (a.eval x) := by
  cases x with
  | tmp t =>
    simp only [St.opd] at hx ⊢
    cases hl : Env.lk S.env t with
    | none => exact .junk _
    | some y =>
      obtain ⟨g, x⟩ := y
      rw [hl] at hx
      simp only [Option.getD_some] at hx ⊢
      subst hx
      exact h.env t x hl
  | const v => exact constAV_rel ..
  | global g =>
    simp only [St.opd] at hx ⊢
    split
    · rename_i d hd
      obtain ⟨h1, h2, x', h3, h4⟩ := h.glob _ (glk_mem hd)
      have e : a.eval (.global g) = .pointer (some ⟨g, 0 + 0, none⟩) := rfl
      rw [e]
      exact .rptr d 0 g 0 x' h1 h2 h3 (fun i c hi => by simpa using h4 i c hi)
    · exact .lit _ rfl
  | func f => exact .fn f [] #[] rfl (by simp)

/-- What one operation does to a state: nothing is known; a value; a value and one entry turned. -/
inductive Res where
  | no
  | val (c : Bool) (x : AV)
  | upd (c : Bool) (x : AV) (e : Ent)

def Ran (P : Program) (o : Oper) (a : Act) (w : World) (v : Value) (w' : World) : Prop :=
  (execOp a.eval o).run P w = .ok (.value v) w' ∨ ((execOp a.eval o).run P w = .ok .skip w' ∧ v = undef)

def ResOk (P : Program) (S : St) (o : Oper) : Res → Prop
  | .no => True
  | .val c x => c = true → ∀ φ G a w, Rel φ G S a w → ∃ v w', Ran P o a w v w' ∧ AVRel φ w' (Fo G φ S.mem) x v ∧
      (∀ b, b < w.heap.size → w'.heap[b]? = w.heap[b]?) ∧ w.heap.size ≤ w'.heap.size ∧ w'.os = w.os ∧ w'.tape = w.tape ∧ w'.output = w.output
  | .upd c x e => c = true → ∀ φ G a w, Rel φ G S a w → ∃ v w' φ', Ran P o a w v w' ∧ AVRel φ' w' (Fo G φ' (Mem.set S.mem e)) x v ∧
      MemRel φ' G (Mem.set S.mem e) w' ∧ Keeps φ S.mem w φ' (Mem.set S.mem e) w' ∧ ∀ k, k ≠ e.key → φ' k = φ k

/-- A value that leaves the world as it is. -/
theorem ResOk.pure {P S o x} {c : Prop} [Decidable c] (h : c → ∀ φ G a w, Rel φ G S a w → ∃ v, (execOp a.eval o).run P w = .ok (.value v) w ∧ AVRel φ w (Fo G φ S.mem) x v) : ResOk P S o (.val (decide c) x) := by
  intro hc φ G a w hr
  obtain ⟨v, h1, h2⟩ := h (of_decide_eq_true hc) φ G a w hr
  exact ⟨v, w, .inl h1, h2, fun _ _ => rfl, Nat.le_refl _, rfl, rfl, rfl⟩

theorem ResOk.updI {P S o x e} {c : Prop} [Decidable c] (h : c → ∀ φ G a w, Rel φ G S a w → ∃ v w' φ', Ran P o a w v w' ∧ AVRel φ' w' (Fo G φ' (Mem.set S.mem e)) x v ∧
      MemRel φ' G (Mem.set S.mem e) w' ∧ Keeps φ S.mem w φ' (Mem.set S.mem e) w' ∧ ∀ k, k ≠ e.key → φ' k = φ k) : ResOk P S o (.upd (decide c) x e) := fun hc => h (of_decide_eq_true hc)
theorem ResOk.valI {P S o x} {c : Prop} [Decidable c] (h : c → ∀ φ G a w, Rel φ G S a w → ∃ v w', Ran P o a w v w' ∧ AVRel φ w' (Fo G φ S.mem) x v ∧
      (∀ b, b < w.heap.size → w'.heap[b]? = w.heap[b]?) ∧ w.heap.size ≤ w'.heap.size ∧ w'.os = w.os ∧ w'.tape = w.tape ∧ w'.output = w.output) : ResOk P S o (.val (decide c) x) := fun hc => h (of_decide_eq_true hc)
theorem ResOk.pureB {P S o x} {c : Bool} (h : c = true → ∀ φ G a w, Rel φ G S a w → ∃ v, (execOp a.eval o).run P w = .ok (.value v) w ∧ AVRel φ w (Fo G φ S.mem) x v) : ResOk P S o (.val c x) := by
  intro hc φ G a w hr
  obtain ⟨v, h1, h2⟩ := h hc φ G a w hr
  exact ⟨v, w, .inl h1, h2, fun _ _ => rfl, Nat.le_refl _, rfl, rfl, rfl⟩
/-- A value that leaves the world as it is, or nothing. -/
def PureOk (P : Program) (S : St) (o : Oper) : Res → Prop
  | .no => True
  | .val c x => c = true → ∀ φ G a w, Rel φ G S a w → ∃ v, (execOp a.eval o).run P w = .ok (.value v) w ∧ AVRel φ w (Fo G φ S.mem) x v
  | .upd _ _ _ => False
theorem PureOk.of {P S o x} {c : Prop} [Decidable c] (h : c → ∀ φ G a w, Rel φ G S a w → ∃ v, (execOp a.eval o).run P w = .ok (.value v) w ∧ AVRel φ w (Fo G φ S.mem) x v) : PureOk P S o (.val (decide c) x) := fun hc => h (of_decide_eq_true hc)
theorem PureOk.res {P S o r} (h : PureOk P S o r) : ResOk P S o r := by
  cases r with
  | no => trivial
  | val c x =>
    intro hc φ G a w hr
    obtain ⟨v, h1, h2⟩ := h hc φ G a w hr
    exact ⟨v, w, .inl h1, h2, fun _ _ => rfl, Nat.le_refl _, rfl, rfl, rfl⟩
  | upd c x e => exact h.elim

/- Loads. -/
def loadR (P : Program) (m : Mem) (t : TypeId) (p : AV) : Res :=
  match p with
  | .ptr k ver off => match Mem.get m k with
    | some ⟨_, v, .box cs⟩ => match (tk P t).agg with
      | true => match tsz P t with
        | some n => .val (v = ver ∧ off + n ≤ cs.length) (mkAgg ((cs.drop off).take n))
        | none => .no
      | false => .val (v = ver ∧ tk P t ≠ .other ∧ off < cs.length) (cs[off]?.getD .junk)
    | _ => .no
  | .eptr k ver i j => match Mem.get m k with
    | some ⟨_, v, .vec sz rows⟩ => match (tk P t).agg with
      | true => .val (v = ver ∧ i < rows.length ∧ tsz P t = some sz ∧ j = 0 ∧ (D.at rows i).flat = false) (.d (D.at rows i))
      | false => .val (v = ver ∧ tk P t ≠ .other ∧ i < rows.length ∧ j < sz) (.d (D.cell (D.at rows i) j))
    | _ => .no
  | .rptr x j => match (tk P t).agg with
    | true => match j with
      | 0 => .val (tsz P t = some x.size ∧ x.flat = false) (.d x)
      | j => match tsz P t with
        | some n => .val (j + n ≤ x.size) (.d (.agg ((x.cells.drop j).take n)))
        | none => .no
    | false => .val (tk P t ≠ .other ∧ j < x.size) (.d (x.cell j))
  | _ => .no

theorem MemRel.get {φ G m w} (h : MemRel φ G m w) {k e} (hg : Mem.get m k = some e) : e ∈ m ∧ e.key = k ∧ ∃ L, φ k = some L ∧ L.ver = e.ver ∧ ContRel φ w (Fo G φ m) L e.cont := by
  obtain ⟨hm, hk⟩ := Mem.get_mem hg
  obtain ⟨L, h1, h2, h3⟩ := h.ents e hm
  rw [hk] at h1
  exact ⟨hm, hk, L, h1, h2, h3⟩

theorem AVRel.ptr_eq {φ w F k ver off v L} (h : AVRel φ w F (.ptr k ver off) v) (hL : φ k = some L) (hv : L.ver = ver) : v = .pointer (some ⟨L.blk, off, none⟩) := by
  cases h with | ptr _ _ _ _ L' hL' _ h _ => rw [hL] at hL'; cases hL'; exact h hv.symm
theorem AVRel.eptr_eq {φ w F k ver i j v L} (h : AVRel φ w F (.eptr k ver i j) v) (hL : φ k = some L) (hv : L.ver = ver) : v = .pointer (some ⟨L.blk, L.base + i * L.sz + j, none⟩) := by
  cases h with | eptr _ _ _ _ _ L' hL' _ h _ => rw [hL] at hL'; cases hL'; exact h hv.symm

theorem cell?_row {w : World} {b : Nat} {arr : Array Value} {e : TypeId} {fr} (h : w.heap[b]? = some (.cells arr e fr)) (o : Nat) : w.cell? ⟨b, o, none⟩ = arr[o]? := by
  simp [World.cell?, h]

theorem cell?_rowA {w : World} {b : Nat} {arr : Array Value} {e : TypeId} (h : RowAt w b arr e) (o : Nat) : w.cell? ⟨b, o, none⟩ = arr[o]? := by
  obtain ⟨fr, h, _⟩ := h
  exact cell?_row h o

theorem getD_at {xs : List D} {i : Nat} (h : i < xs.length) : xs[i]? = some (D.at xs i) := by simp [D.at, h]

theorem agg_of_flat {w F x v} (h : DRel w F x v) (hf : x.flat = false) : ∃ arr, v = .agg arr := by
  cases h <;> simp_all [D.flat]

theorem load_ok (P : Program) (S : St) (o : Oper) (t : TypeId) (x : Operand) (ho : o.op = .load t x) (hx : (S.opd x).1 = true) : PureOk P S o (loadR P S.mem t (S.opd x).2) := by
  have hrun : ∀ (a : Act) (w : World) (v : Value), (Instr.loadAt t (a.eval x)).run P w = .ok v w → (execOp a.eval o).run P w = .ok (.value v) w := by
    intro a w v h
    simp [execOp, ho, h]
  unfold loadR
  split
  · rename_i k ver off hp
    split
    · rename_i key v cs hg
      split
      · rename_i hagg
        split
        · rename_i n hn
          refine PureOk.of ?_
          rintro ⟨rfl, hle⟩ φ G a w hr
          have hv := hr.opd x hx
          rw [hp] at hv
          obtain ⟨hm, hk, L, hL, hver, _, arr, elem, hh, hsz, h1, hrel⟩ := hr.mem.get hg
          have e := hv.ptr_eq hL hver
          have hlen : ((arr.toList.drop off).take n).length = n := by simp; omega
          refine ⟨.agg ((arr.toList.drop off).take n).toArray, hrun a w _ ?_, ?_⟩
          · rw [e]
            refine run_loadN hagg (by rw [hlen]; exact hn) (fun j v hj => ?_)
            rw [cell?_rowA hh]
            rw [List.getElem?_take] at hj
            split at hj
            · simpa using hj
            · cases hj
          · refine mkAgg_rel (by rw [hlen]; simp; omega) (fun v hv => h1 v ?_) (fun i c v hc hv => ?_)
            · have := List.mem_of_mem_take hv
              simpa using List.mem_of_mem_drop this
            · rw [List.getElem?_take] at hc hv
              split at hc
              · rename_i hi
                simp only [hi, if_true] at hv
                exact hrel (off + i) c v (by simpa using hc) (by simpa using hv)
              · cases hc
        · trivial
      · rename_i hagg
        refine PureOk.of ?_
        rintro ⟨rfl, hne, hlt⟩ φ G a w hr
        have hv := hr.opd x hx
        rw [hp] at hv
        obtain ⟨hm, hk, L, hL, hver, _, arr, elem, hh, hsz, h1, hrel⟩ := hr.mem.get hg
        have e := hv.ptr_eq hL hver
        have hlt' : off < arr.size := by omega
        refine ⟨arr[off], hrun a w _ ?_, hrel off _ _ ?_ (by simp [hlt'])⟩
        · rw [e]; exact run_load1 hagg hne (by rw [cell?_rowA hh]; simp [hlt'])
        · simp [hlt]
    · trivial
  · rename_i k ver i j hp
    split
    · rename_i key v sz rows hg
      split
      · rename_i hagg
        refine PureOk.of ?_
        rintro ⟨rfl, hlt, hts, rfl, hf⟩ φ G a w hr
        have hv := hr.opd x hx
        rw [hp] at hv
        obtain ⟨hm, hk, L, hL, hver, hLsz, hcap, hrs, hrow⟩ := hr.mem.get hg
        have e := hv.eptr_eq hL hver
        obtain ⟨arr, elem, hh, hsz, h1, hrel⟩ := hrow (by omega)
        obtain ⟨u, hu, huc⟩ := hrel i _ (getD_at hlt)
        obtain ⟨ua, rfl⟩ := agg_of_flat hu hf
        refine ⟨.agg ua, hrun a w _ ?_, .d _ _ hu⟩
        rw [e]
        have hus : ua.toList.length = sz := by
          have h3 := hu.size
          rw [hrs _ (List.mem_of_getElem? (getD_at hlt)), hLsz] at h3
          simpa [Value.cells] using h3
        have := run_loadN (P := P) (t := t) (w := w) (b := L.blk) (o := L.base + i * L.sz + 0) (vs := ua.toList) hagg (by rw [hus]; exact hts) (fun j v hj => by
          rw [cell?_rowA hh]
          exact huc j v (by simpa [Value.cells] using hj))
        simpa using this
      · rename_i hagg
        refine PureOk.of ?_
        rintro ⟨rfl, hne, hlt, hj⟩ φ G a w hr
        have hv := hr.opd x hx
        rw [hp] at hv
        obtain ⟨hm, hk, L, hL, hver, hLsz, hcap, hrs, hrow⟩ := hr.mem.get hg
        have e := hv.eptr_eq hL hver
        obtain ⟨arr, elem, hh, hsz, h1, hrel⟩ := hrow (by omega)
        obtain ⟨u, hu, huc⟩ := hrel i _ (getD_at hlt)
        have hus : (D.at rows i).size = sz := by rw [hrs _ (List.mem_of_getElem? (getD_at hlt)), hLsz]
        have hj' : j < u.cells.size := by rw [hu.size, hus]; exact hj
        have hjd : j < (D.at rows i).cells.length := by rw [D.cells_length, hus]; exact hj
        refine ⟨u.cells[j], hrun a w _ ?_, .d _ _ (hu.cells.2.2 j _ _ (by simp [D.cell, hjd]) (by simp [hj'])).1⟩
        rw [e]
        exact run_load1 hagg hne (by rw [cell?_rowA hh]; exact huc j _ (by simp [hj']))
    · trivial
  · rename_i d j hp
    split
    · rename_i hagg
      split
      · refine PureOk.of ?_
        rintro ⟨hts, hf⟩ φ G a w hr
        have hv := hr.opd x hx
        rw [hp] at hv
        generalize hav : a.eval x = av at hv
        cases hv with
        | rptr _ _ b off x' hb hF hxr hc =>
          obtain ⟨ua, rfl⟩ := agg_of_flat hxr hf
          refine ⟨.agg ua, hrun a w _ ?_, .d _ _ hxr⟩
          rw [hav]
          exact run_loadN (vs := ua.toList) hagg (by rw [hts]; have := hxr.size; simp [Value.cells] at this; simp [this]) (fun j v hj => hc j v (by simpa [Value.cells] using hj))
      · split
        · rename_i n hn
          refine PureOk.of ?_
          intro hle φ G a w hr
          have hv := hr.opd x hx
          rw [hp] at hv
          generalize hav : a.eval x = av at hv
          cases hv with
          | rptr _ _ b off x' hb hF hxr hc =>
            have hcs := hxr.cells
            have hl : x'.cells.toList.length = d.size := by rw [hcs.1, D.cells_length]
            have hlen : ((x'.cells.toList.drop j).take n).length = n := by simp at hl ⊢; omega
            refine ⟨.agg ((x'.cells.toList.drop j).take n).toArray, hrun a w _ ?_, .d _ _ (.ofCells ?_ ?_ ?_)⟩
            · rw [hav]
              refine run_loadN hagg (by rw [hlen]; exact hn) (fun i v hi => ?_)
              rw [List.getElem?_take] at hi
              split at hi
              · rw [show off + j + i = off + (j + i) by omega]
                exact hc (j + i) v (by simpa using hi)
              · cases hi
            · rw [hlen]; simp [D.cells_length]; omega
            · intro v hv
              exact hcs.2.1 v (by simpa using List.mem_of_mem_drop (List.mem_of_mem_take hv))
            · intro i c v h1 h2
              rw [List.getElem?_take] at h1 h2
              split at h1
              · rename_i hi
                simp only [hi, if_true] at h2
                exact (hcs.2.2 (j + i) c v (by simpa using h1) (by simpa using h2)).1
              · cases h1
        · trivial
    · rename_i hagg
      refine PureOk.of ?_
      rintro ⟨hne, hj⟩ φ G a w hr
      have hv := hr.opd x hx
      rw [hp] at hv
      generalize hav : a.eval x = av at hv
      cases hv with
      | rptr _ _ b off x' hb hF hxr hc =>
        have hj' : j < x'.cells.size := by rw [hxr.size]; exact hj
        have hjd : j < d.cells.length := by rw [D.cells_length]; exact hj
        refine ⟨x'.cells[j], hrun a w _ ?_, .d _ _ (hxr.cells.2.2 j _ _ (by simp [D.cell, hjd]) (by simp [hj'])).1⟩
        rw [hav]
        exact run_load1 hagg hne (hc j _ (by simp [hj']))
  · trivial
end Go.Am
end
section
namespace Go.Am
open Go

def AV.solid : AV → Bool
  | .junk => false
  | .tup _ => false
  | _ => true

theorem AVRel.solid {φ w F x v} (h : AVRel φ w F x v) (hs : x.solid = true) : v.cells.size = x.cells.length ∧ ∀ u ∈ v.cells, cell1 u = true := by
  have one : ∀ {v : Value} {x : AV}, cell1 v = true → x.cells.length = 1 → v.cells.size = x.cells.length ∧ ∀ u ∈ v.cells, cell1 u = true := by
    intro v x h1 hl
    rw [cells_of_cell1 h1, hl]
    exact ⟨rfl, fun u hu => by simp at hu; subst hu; exact h1⟩
  cases h with
  | junk => simp [AV.solid] at hs
  | tup => simp [AV.solid] at hs
  | d x v h =>
    have hc := h.cells
    refine ⟨?_, hc.2.1⟩
    have := hc.1
    cases x <;> simp_all [AV.cells, D.cells]
  | agg cs a hl h1 hc => exact ⟨by simp [Value.cells, AV.cells, hl], h1⟩
  | ptr _ _ _ _ _ _ _ _ h1 => exact one h1 rfl
  | vec _ _ _ _ _ _ _ _ _ h1 => exact one h1 rfl
  | eptr _ _ _ _ _ _ _ _ _ h1 => exact one h1 rfl
  | rptr => exact one rfl rfl
  | fn => exact one rfl rfl
  | ifc => exact one rfl rfl
  | lit _ h1 => exact one h1 rfl
  | nn => exact one rfl rfl

def putCells {α : Type} (cs : List α) (off : Nat) (ys : List α) : List α :=
  match ys with
  | [y] => cs.set off y
  | ys => cs.take off ++ ys ++ cs.drop (off + ys.length)

theorem putCells_eq {α : Type} (cs : List α) (off : Nat) (ys : List α) (h : off + ys.length ≤ cs.length) : putCells cs off ys = cs.take off ++ ys ++ cs.drop (off + ys.length) := by
  unfold putCells
  split
  · rename_i y
    simp at h
    rw [List.set_eq_take_append_cons_drop, if_pos (by omega)]
    simp
  · rfl
theorem putCells_length {α : Type} (cs : List α) (off : Nat) (ys : List α) (h : off + ys.length ≤ cs.length) : (putCells cs off ys).length = cs.length := by
  rw [putCells_eq cs off ys h]; simp; omega
theorem putCells_get {α : Type} (cs : List α) (off : Nat) (ys : List α) (h : off + ys.length ≤ cs.length) (i : Nat) :
    (putCells cs off ys)[i]? = if i < off then cs[i]? else if i < off + ys.length then ys[i - off]? else cs[i]? := by
  rw [putCells_eq cs off ys h]
  by_cases h1 : i < off
  · rw [if_pos h1, List.append_assoc, List.getElem?_append_left (by simp; omega), List.getElem?_take, if_pos h1]
  · rw [if_neg h1, List.append_assoc, List.getElem?_append_right (by simp; omega)]
    simp only [List.length_take, Nat.min_eq_left (show off ≤ cs.length by omega)]
    by_cases h2 : i < off + ys.length
    · rw [if_pos h2, List.getElem?_append_left (by omega)]
    · rw [if_neg h2, List.getElem?_append_right (by omega), List.getElem?_drop]
      congr 1; omega

theorem putCells_rel {α β : Type} {R : α → β → Prop} {cs ys : List α} {vs us : List β} {off : Nat} (hl : cs.length = vs.length) (hl' : ys.length = us.length) (h : off + ys.length ≤ cs.length)
    (hc : ∀ (i : Nat) c v, cs[i]? = some c → vs[i]? = some v → R c v) (hy : ∀ (i : Nat) c v, ys[i]? = some c → us[i]? = some v → R c v) :
    ∀ (i : Nat) c v, (putCells cs off ys)[i]? = some c → (putCells vs off us)[i]? = some v → R c v := by
  intro i c v
  rw [putCells_get cs off ys h, putCells_get vs off us (by omega), ← hl']
  split
  · exact hc i c v
  · split
    · exact hy _ c v
    · exact hc i c v

theorem fo_bound {φ G m w} (h : MemRel φ G m w) : ∀ b, Fo G φ m b → b < w.heap.size := fun b hb => hb.elim (h.bound b) (fun ho => h.own_lt ho)

theorem setRow_other' (w : World) (g k : Nat) (cs : Array Value) (h : k ≠ g) : (w.setRow g cs).heap[k]? = w.heap[k]? := by
  simp only [World.setRow, Array.getElem?_modify]; rw [if_neg (fun e => h e.symm)]

/-- A store into an owned row: the world behind it, for any new content that fits. -/
theorem MemRel.storeL {φ G m w} (h : MemRel φ G m w) {e : Ent} (he : e ∈ m) {L : Loc} (hL : φ e.key = some L) (hver : L.ver = e.ver) (ho : e.cont.owns L) (arr' : Array Value)
    (L' : Loc) (hv : e.ver ≤ L'.ver) (hsame : L'.ver = L.ver → L' = L) (hb : L'.blk = L.blk) (c' : Cont)
    (hc : ∀ φ' : Phi, φ.le φ' → (∀ x v, AVRel φ w (Fo G φ m) x v → AVRel φ' (w.setRow L.blk arr') (Fo G φ' (Mem.set m ⟨e.key, L'.ver, c'⟩)) x v) →
      (∀ x v, DRel w (Fo G φ m) x v → DRel (w.setRow L.blk arr') (Fo G φ' (Mem.set m ⟨e.key, L'.ver, c'⟩)) x v) →
      ContRel φ' (w.setRow L.blk arr') (Fo G φ' (Mem.set m ⟨e.key, L'.ver, c'⟩)) L' c') :
    ∃ φ', MemRel φ' G (Mem.set m ⟨e.key, L'.ver, c'⟩) (w.setRow L.blk arr') ∧ Keeps φ m w φ' (Mem.set m ⟨e.key, L'.ver, c'⟩) (w.setRow L.blk arr') ∧ φ' e.key = some L' ∧ ∀ k, k ≠ e.key → φ' k = φ k := by
  have hown : Own φ m L.blk := ⟨e, he, L, hL, ho, rfl⟩
  refine h.upd (e' := ⟨e.key, L'.ver, c'⟩) he hL rfl (L' := L') (by rw [hver]; exact hv) hsame rfl
    (fun b hb hn => setRow_other' w L.blk b arr' (fun heq => hn ⟨ho, heq⟩)) (by simp) (fun _ => .inl ⟨ho, hb⟩) rfl rfl rfl ?_
  intro φ' hφ hle
  have hF : ∀ b, b < w.heap.size → Fo G φ' (Mem.set m ⟨e.key, L'.ver, c'⟩) b → Fo G φ m b := by
    rintro b hbl (hG | ⟨x, hx, Lx, hLx, hox, rfl⟩)
    · exact .inl hG
    · right
      rcases (Mem.mem_set h.nodup).1 hx with ⟨rfl, _⟩ | ⟨hxm, hne⟩
      · subst hφ; simp at hLx; subst hLx; exact ⟨e, he, L, hL, ho, hb.symm⟩
      · subst hφ; simp at hne; simp [hne] at hLx; exact ⟨x, hxm, Lx, hLx, hox, rfl⟩
  have hk : ∀ b, b < w.heap.size → ¬ Fo G φ m b → (w.setRow L.blk arr').heap[b]? = w.heap[b]? :=
    fun b hb hn => setRow_other' w L.blk b arr' (fun heq => hn (.inr (heq ▸ hown)))
  exact hc φ' hle (fun x v hx => hx.mono hle hk (by simp) hF) (fun x v hx => hx.mono hk (by simp) hF)
theorem MemRel.store {φ G m w} (h : MemRel φ G m w) {e : Ent} (he : e ∈ m) {L : Loc} (hL : φ e.key = some L) (hver : L.ver = e.ver) (ho : e.cont.owns L) (arr' : Array Value)
    (ver' : Nat) (hv : e.ver ≤ ver') (c' : Cont)
    (hc : ∀ φ' : Phi, φ.le φ' → (∀ x v, AVRel φ w (Fo G φ m) x v → AVRel φ' (w.setRow L.blk arr') (Fo G φ' (Mem.set m ⟨e.key, ver', c'⟩)) x v) →
      (∀ x v, DRel w (Fo G φ m) x v → DRel (w.setRow L.blk arr') (Fo G φ' (Mem.set m ⟨e.key, ver', c'⟩)) x v) →
      ContRel φ' (w.setRow L.blk arr') (Fo G φ' (Mem.set m ⟨e.key, ver', c'⟩)) { L with ver := ver' } c') :
    ∃ φ', MemRel φ' G (Mem.set m ⟨e.key, ver', c'⟩) (w.setRow L.blk arr') ∧ Keeps φ m w φ' (Mem.set m ⟨e.key, ver', c'⟩) (w.setRow L.blk arr') ∧ φ' e.key = some { L with ver := ver' } ∧ ∀ k, k ≠ e.key → φ' k = φ k :=
  h.storeL he hL hver ho arr' { L with ver := ver' } hv (fun hh => by simp at hh; cases L; simp_all) rfl c' hc

/-- A new block: the entry of a key is laid anew in it. -/
theorem MemRel.fresh {φ G m w} (h : MemRel φ G m w) {e : Ent} (he : e ∈ m) {L : Loc} (hL : φ e.key = some L) (hver : L.ver = e.ver) (w1 : World) (hw1 : w1.heap = w.heap) (hos : w1.os = w.os) (htp : w1.tape = w.tape) (hout : w1.output = w.output)
    (arr : Array Value) (elem : TypeId) (sz cap : Nat) (c' : Cont)
    (hc : ∀ φ' : Phi, φ.le φ' → (∀ x v, AVRel φ w (Fo G φ m) x v → AVRel φ' (w1.alloc (.cells arr elem)) (Fo G φ' (Mem.set m ⟨e.key, e.ver + 1, c'⟩)) x v) →
      (∀ x v, DRel w (Fo G φ m) x v → DRel (w1.alloc (.cells arr elem)) (Fo G φ' (Mem.set m ⟨e.key, e.ver + 1, c'⟩)) x v) →
      (w1.alloc (.cells arr elem)).heap[w.heap.size]? = some (.cells arr elem (0, 0)) →
      ContRel φ' (w1.alloc (.cells arr elem)) (Fo G φ' (Mem.set m ⟨e.key, e.ver + 1, c'⟩)) ⟨e.ver + 1, w.heap.size, sz, cap, 0⟩ c') :
    ∃ φ', MemRel φ' G (Mem.set m ⟨e.key, e.ver + 1, c'⟩) (w1.alloc (.cells arr elem)) ∧ Keeps φ m w φ' (Mem.set m ⟨e.key, e.ver + 1, c'⟩) (w1.alloc (.cells arr elem)) ∧
      φ' e.key = some ⟨e.ver + 1, w.heap.size, sz, cap, 0⟩ ∧ ∀ k, k ≠ e.key → φ' k = φ k := by
  have hold : ∀ b, b < w.heap.size → (w1.alloc (.cells arr elem)).heap[b]? = w.heap[b]? := fun b hb => by rw [RowKit.Below.heap_alloc w1 _ b (by rw [hw1]; exact hb), hw1]
  have hsz : w.heap.size ≤ (w1.alloc (.cells arr elem)).heap.size := by simp [hw1]
  refine h.upd (e' := ⟨e.key, e.ver + 1, c'⟩) he hL rfl (L' := ⟨e.ver + 1, w.heap.size, sz, cap, 0⟩) (by rw [hver]; simp) (fun hh => by simp [hver] at hh) rfl
    (fun b hb _ => hold b hb) hsz (fun _ => .inr (Nat.le_refl _)) hos htp hout ?_
  intro φ' hφ hle
  have hF : ∀ b, b < w.heap.size → Fo G φ' (Mem.set m ⟨e.key, e.ver + 1, c'⟩) b → Fo G φ m b := by
    rintro b hb (hG | ⟨x, hx, Lx, hLx, hox, rfl⟩)
    · exact .inl hG
    · right
      rcases (Mem.mem_set h.nodup).1 hx with ⟨rfl, _⟩ | ⟨hxm, hne⟩
      · subst hφ; simp at hLx; subst hLx; simp at hb
      · subst hφ; simp at hne; simp [hne] at hLx; exact ⟨x, hxm, Lx, hLx, hox, rfl⟩
  refine hc φ' hle (fun x v hx => hx.mono hle (fun b hb _ => hold b hb) hsz hF) (fun x v hx => hx.mono (fun b hb _ => hold b hb) hsz hF) ?_
  have := heap_alloc_new w1 (.cells arr elem)
  rwa [hw1] at this

/- Stores. -/
def D.setCells (r : D) (j : Nat) (y : D) : D := .agg (putCells r.cells j y.cells)
def storeR (P : Program) (m : Mem) (t : TypeId) (p x : AV) : Res :=
  match p with
  | .ptr k ver off => match Mem.get m k with
    | some ⟨_, v, .box cs⟩ => .upd (v = ver ∧ x.solid = true ∧ tsz P t = some x.cells.length ∧ off + x.cells.length ≤ cs.length) .junk ⟨k, ver, .box (putCells cs off x.cells)⟩
    | _ => .no
  | .eptr k ver i j => match Mem.get m k, x.norm with
    | some ⟨_, v, .vec sz rows⟩, .d y => match tk P t with
      | .struct => .upd (v = ver ∧ i < rows.length ∧ tsz P t = some sz ∧ y.size = sz ∧ j = 0) .junk ⟨k, ver, .vec sz (rows.set i y)⟩
      | _ => match sz with
        | 1 => .upd (v = ver ∧ i < rows.length ∧ tsz P t = some 1 ∧ y.size = 1 ∧ j = 0) .junk ⟨k, ver, .vec 1 (rows.set i y)⟩
        | sz => .upd (v = ver ∧ i < rows.length ∧ tsz P t = some y.size ∧ j + y.size ≤ sz ∧ (D.at rows i).flat = false) .junk ⟨k, ver, .vec sz (rows.set i ((D.at rows i).setCells j y))⟩
    | _, _ => .no
  | _ => .no

theorem store_row_rel {w w' : World} {F F' : Nat → Prop} {arr : Array Value} {rows : List D} {base sz cap i o : Nat} {us : List Value} {r' : D} {v' : Value} (hs : arr.size = base + cap * sz) (hcap : rows.length ≤ cap) (hi : i < rows.length)
    (ho : base + i * sz ≤ o) (hou : o + us.length ≤ base + i * sz + sz)
    (hrel : ∀ (n : Nat) (d : D), rows[n]? = some d → ∃ v, DRel w F d v ∧ ∀ (j : Nat) (c : Value), v.cells[j]? = some c → arr[base + n * sz + j]? = some c)
    (hsize : ∀ d ∈ rows, d.size = sz)
    (hm : ∀ x v, DRel w F x v → DRel w' F' x v) (hr' : DRel w' F' r' v') (hrs : r'.size = sz)
    (hv' : ∀ (j : Nat) (c : Value), v'.cells[j]? = some c → (putCells arr.toList o us)[base + i * sz + j]? = some c) :
    ∀ (n : Nat) (d : D), (rows.set i r')[n]? = some d → ∃ v, DRel w' F' d v ∧ ∀ (j : Nat) (c : Value), v.cells[j]? = some c → (putCells arr.toList o us).toArray[base + n * sz + j]? = some c := by
  have hin : base + i * sz + sz ≤ arr.size := by
    have : i * sz + sz ≤ cap * sz := by rw [← Nat.succ_mul]; exact Nat.mul_le_mul_right _ (by omega)
    omega
  intro n d hd
  by_cases hn : n = i
  · subst hn
    simp [hi] at hd
    subst hd
    exact ⟨v', hr', fun j c hj => by simpa using hv' j c hj⟩
  · rw [List.getElem?_set_ne (fun h => hn h.symm)] at hd
    obtain ⟨v, hv, hvc⟩ := hrel n d hd
    refine ⟨v, hm d v hv, fun j c hj => ?_⟩
    have hjs : j < sz := by
      have h1 := hv.size
      rw [hsize d (List.mem_of_getElem? hd)] at h1
      have := (Array.getElem?_eq_some_iff.1 hj).1
      omega
    rw [List.getElem?_toArray, putCells_get arr.toList o us (by simp; omega)]
    have key : ¬ (o ≤ base + n * sz + j ∧ base + n * sz + j < o + us.length) := by
      rintro ⟨h1, h2⟩
      rcases Nat.lt_or_gt_of_ne hn with hlt | hgt
      · have : n * sz + sz ≤ i * sz := by rw [← Nat.succ_mul]; exact Nat.mul_le_mul_right _ hlt
        omega
      · have : i * sz + sz ≤ n * sz := by rw [← Nat.succ_mul]; exact Nat.mul_le_mul_right _ hgt
        omega
    have hh := hvc j c hj
    split
    · simpa using hh
    · rw [if_neg (by omega)]; simpa using hh
theorem run_storeAt' {P : Program} {t : TypeId} {w : World} {b o : Nat} {arr : Array Value} {elem : TypeId} {v : Value} (hs : tsz P t = some v.cells.size)
    (hg : RowAt w b arr elem) (hl : o + v.cells.size ≤ arr.size) (h1 : ∀ x ∈ v.cells, cell1 x = true) :
    (Instr.storeAt t (.pointer (some ⟨b, o, none⟩)) v).run P w = .ok () (w.setRow b (putCells arr.toList o v.cells.toList).toArray) := by
  rw [run_storeAt hs hg hl h1, putCells_eq _ _ _ (by simpa using hl)]
  simp

theorem heap_setRow {w : World} {b : Nat} {arr : Array Value} {elem : TypeId} {fr} (hg : w.heap[b]? = some (.cells arr elem fr)) (arr' : Array Value) : (w.setRow b arr').heap[b]? = some (.cells arr' elem fr) := setRow_heap w b arr arr' elem fr hg

theorem RowAt.setRow {w : World} {b : Nat} {arr : Array Value} {elem : TypeId} (hg : RowAt w b arr elem) (arr' : Array Value) (hs : arr'.size = arr.size) : RowAt (w.setRow b arr') b arr' elem := by
  obtain ⟨fr, h1, h2⟩ := hg
  exact ⟨fr, heap_setRow h1 arr', by rw [hs]; exact h2⟩

theorem mem_putCells {α : Type} {cs ys : List α} {off : Nat} {x : α} (h : off + ys.length ≤ cs.length) (hx : x ∈ putCells cs off ys) : x ∈ cs ∨ x ∈ ys := by
  rw [putCells_eq cs off ys h] at hx
  simp only [List.mem_append] at hx
  rcases hx with (hx | hx) | hx
  · exact .inl (List.mem_of_mem_take hx)
  · exact .inr hx
  · exact .inl (List.mem_of_mem_drop hx)

theorem store_ok (P : Program) (S : St) (o : Oper) (t : TypeId) (p x : Operand) (ho : o.op = .store t p x) (hp : (S.opd p).1 = true) (hx : (S.opd x).1 = true) : ResOk P S o (storeR P S.mem t (S.opd p).2 (S.opd x).2) := by
  have hrun : ∀ (a : Act) (w w' : World), (Instr.storeAt t (a.eval p) (a.eval x)).run P w = .ok () w' → Ran P o a w undef w' := by
    intro a w w' h
    exact .inr ⟨by simp [execOp, ho, h], rfl⟩
  unfold storeR
  split
  · rename_i k ver off hpv
    split
    · rename_i key v cs hg
      refine ResOk.updI ?_
      rintro ⟨rfl, hsol, hts, hle⟩ φ G a w hr
      have hv := hr.opd p hp
      have hxv := hr.opd x hx
      rw [hpv] at hv
      obtain ⟨hm, hk, L, hL, hver, hL0, arr, elem, hh, hsz, h1, hrel⟩ := hr.mem.get hg
      have e := hv.ptr_eq hL hver
      obtain ⟨hs1, hs2⟩ := hxv.solid hsol
      simp only at hk
      subst hk
      have hput : off + (a.eval x).cells.toList.length ≤ arr.toList.length := by simp only [Array.length_toList, hs1, hsz]; exact hle
      obtain ⟨φ', hm', hk', hφk, hφo⟩ := hr.mem.store (e := ⟨key, v, .box cs⟩) hm hL hver trivial (putCells arr.toList off (a.eval x).cells.toList).toArray v (Nat.le_refl _) (.box (putCells cs off (S.opd x).2.cells)) (fun φ' hle' hav hdr => by
        refine ⟨⟨hL0.1, hL0.2.1, by rw [putCells_length _ _ _ hle]; exact hL0.2.2⟩, _, elem, hh.setRow _ (by show (putCells arr.toList _ _).length = _; rw [putCells_length _ _ _ hput]; simp), ?_, ?_, ?_⟩
        · rw [putCells_length _ _ _ hle, ← hsz]
          show (putCells arr.toList off _).length = _
          rw [putCells_length _ _ _ hput]
          simp
        · intro u hu
          rcases mem_putCells hput (by simpa using hu) with hu | hu
          · exact h1 u (by simpa using hu)
          · exact hs2 u (by simpa using hu)
        · intro i c u hc hu
          refine hav c u ?_
          exact putCells_rel (vs := arr.toList) (us := (a.eval x).cells.toList) (by simp [hsz]) (by simpa using hs1.symm) hle (fun i c v h h' => hrel i c v h (by simpa using h'))
            (fun i c v h h' => hxv.cells hs2 hs1 i c v h (by simpa using h')) i c u hc (by simpa using hu))
      refine ⟨undef, _, φ', hrun a w _ ?_, .junk _, hm', hk', hφo⟩
      rw [e]
      exact run_storeAt' (by rw [hs1]; exact hts) hh (by omega) hs2
    · trivial
  · rename_i k ver i j hpv
    have vec : ∀ (c : Prop) [Decidable c] (sz : Nat) (rows : List D) (y r' : D) (v : Nat), Mem.get S.mem k = some ⟨k, v, .vec sz rows⟩ → (S.opd x).2.norm = .d y →
        (c → v = ver ∧ i < rows.length ∧ tsz P t = some y.size ∧ j + y.size ≤ sz ∧ ((D.at rows i).size = sz → r'.size = sz) ∧
          ∀ w F (u v : Value), (D.at rows i).size = sz → DRel w F (D.at rows i) v → DRel w F y u → ∃ v', DRel w F r' v' ∧ v'.cells.toList = putCells v.cells.toList j u.cells.toList) →
        ResOk P S o (.upd (decide c) .junk ⟨k, ver, .vec sz (rows.set i r')⟩) := by
      intro c _ sz rows y r' v hg hy hcc
      refine ResOk.updI fun hc φ G a w hr => ?_
      obtain ⟨rfl, hlt, hts, hj, hrs0, hmk⟩ := hcc hc
      have hv := hr.opd p hp
      have hxv := (hr.opd x hx).norm
      rw [hy] at hxv
      rw [hpv] at hv
      obtain ⟨hm, hk, L, hL, hver, hLsz, hcap, hrs, hrow⟩ := hr.mem.get hg
      have e := hv.eptr_eq hL hver
      have hcap0 : 0 < L.cap := by omega
      obtain ⟨arr, elem, hh, hsz, h1, hrel⟩ := hrow hcap0
      have hrs' : r'.size = sz := hrs0 (by rw [hrs _ (List.mem_of_getElem? (getD_at hlt)), hLsz])
      cases hxv with
      | d _ u hu =>
        generalize hev : a.eval x = u at hu
        have hus : u.cells.size = y.size := hu.size
        have hin : L.base + i * L.sz + L.sz ≤ arr.size := by
          have : i * L.sz + L.sz ≤ L.cap * L.sz := by rw [← Nat.succ_mul]; exact Nat.mul_le_mul_right _ (by omega)
          omega
        obtain ⟨rv, hrv, hrvc⟩ := hrel i _ (getD_at hlt)
        have hrvs : rv.cells.size = L.sz := by rw [hrv.size]; exact hrs _ (List.mem_of_getElem? (getD_at hlt))
        have hput : L.base + i * L.sz + j + u.cells.toList.length ≤ arr.toList.length := by simp [hus]; omega
        obtain ⟨φ', hm', hk', hφk, hφo⟩ := hr.mem.store (e := ⟨k, v, .vec sz rows⟩) hm hL hver hcap0 (putCells arr.toList (L.base + i * L.sz + j) u.cells.toList).toArray v (Nat.le_refl _) (.vec sz (rows.set i r')) (fun φ' hle' hav hdr => by
          refine ⟨hLsz, by simpa using hcap, ?_, fun _ => ⟨_, elem, hh.setRow _ (by show (putCells arr.toList _ _).length = _; rw [putCells_length _ _ _ hput]; simp), ?_, ?_, ?_⟩⟩
          · intro d hd
            rcases List.mem_or_eq_of_mem_set hd with hd | rfl
            · exact hrs d hd
            · show _ = L.sz; rw [hLsz]; exact hrs'
          · show (putCells arr.toList _ _).length = _
            rw [putCells_length _ _ _ hput]
            simpa using hsz
          · intro z hz
            rcases mem_putCells hput (by simpa using hz) with hz | hz
            · exact h1 z (by simpa using hz)
            · exact hu.cells.2.1 z (by simpa using hz)
          · obtain ⟨v', hv', hvc'⟩ := hmk _ _ u rv (by rw [hrs _ (List.mem_of_getElem? (getD_at hlt)), hLsz]) (hdr _ _ hrv) (hdr _ _ hu)
            refine store_row_rel (F := Fo G φ S.mem) (base := L.base) (cap := L.cap) (sz := L.sz) hsz hcap hlt (by omega) (by simp [hus]; omega) hrel hrs hdr hv' (by rw [hrs', hLsz]) ?_
            intro q c hq
            have hq' : (putCells rv.cells.toList j u.cells.toList)[q]? = some c := by rw [← hvc']; simpa using hq
            have hql : q < L.sz := by
              have := (List.getElem?_eq_some_iff.1 hq').1
              rw [putCells_length _ _ _ (by simp [hus, hrvs]; omega)] at this
              simpa [hrvs] using this
            rw [putCells_get _ _ _ (by simp [hus, hrvs]; omega)] at hq'
            rw [putCells_get _ _ _ hput]
            by_cases h1 : q < j
            · rw [if_pos h1] at hq'; rw [if_pos (by omega)]
              simpa using hrvc q c (by simpa using hq')
            · rw [if_neg h1] at hq'; rw [if_neg (by omega)]
              by_cases h2 : q < j + u.cells.toList.length
              · rw [if_pos h2] at hq'; rw [if_pos (by omega)]
                rw [show L.base + i * L.sz + q - (L.base + i * L.sz + j) = q - j by omega]; exact hq'
              · rw [if_neg h2] at hq'; rw [if_neg (by omega)]
                simpa using hrvc q c (by simpa using hq'))
        refine ⟨undef, _, φ', hrun a w _ ?_, .junk _, hm', hk', hφo⟩
        rw [e, hev]
        exact run_storeAt' (by rw [hus]; exact hts) hh (by simpa using hput) hu.cells.2.1
    have whole : ∀ (y r : D), y.size = r.size → ∀ w F (u v : Value), DRel w F r v → DRel w F y u → ∃ v', DRel w F y v' ∧ v'.cells.toList = putCells v.cells.toList 0 u.cells.toList := by
      intro y r hyr w F u v hr hy
      refine ⟨u, hy, ?_⟩
      have h1 := hr.size
      have h2 := hy.size
      rw [putCells_eq _ _ _ (by simp; omega)]
      simp; omega
    split
    · rename_i key v sz rows y hg hy
      have hk : key = k := (Mem.get_mem hg).2
      subst hk
      split
      · exact vec _ sz rows y y v hg hy (fun ⟨h1, h2, h3, h4, h5⟩ => ⟨h1, h2, by rw [h4]; exact h3, by omega, fun _ => h4, by
          subst h5
          intro w F u v hs hr' hy'
          exact whole y _ (by rw [hs, h4]) w F u v hr' hy'⟩)
      · split
        · exact vec _ 1 rows y y v hg hy (fun ⟨h1, h2, h3, h4, h5⟩ => ⟨h1, h2, by rw [h4]; exact h3, by omega, fun _ => h4, by
            subst h5
            intro w F u v hs hr' hy'
            exact whole y _ (by rw [hs, h4]) w F u v hr' hy'⟩)
        · refine vec _ sz rows y _ v hg hy (fun ⟨h1, h2, h3, h4, h5⟩ => ⟨h1, h2, h3, h4, ?_, ?_⟩)
          · intro h6
            show (putCells _ _ _).length = sz
            rw [putCells_length _ _ _ (by rw [D.cells_length, D.cells_length, h6]; exact h4), D.cells_length, h6]
          · intro w F u v hs hr' hy'
            obtain ⟨ra, rfl⟩ := agg_of_flat hr' h5
            have hcr := hr'.cells
            have hcy := hy'.cells
            have hl : j + y.cells.length ≤ (D.at rows i).cells.length := by rw [D.cells_length, D.cells_length, hs]; exact h4
            refine ⟨.agg (putCells ra.toList j u.cells.toList).toArray, .ofCells ?_ ?_ ?_, by simp [Value.cells]⟩
            · have h6 := hcr.1
              simp only [Value.cells] at h6
              rw [putCells_length _ _ _ hl, putCells_length _ _ _ (by rw [hcy.1, h6]; exact hl), ← h6]
            · intro z hz
              have h6 := hcr.1
              simp only [Value.cells] at h6
              rcases mem_putCells (by rw [hcy.1, h6]; exact hl) hz with hz | hz
              · exact hcr.2.1 z (by simpa [Value.cells] using hz)
              · exact hcy.2.1 z (by simpa using hz)
            · exact putCells_rel (by simpa [Value.cells] using hcr.1.symm) (by simpa using hcy.1.symm) hl (fun i c v h h' => (hcr.2.2 i c v h (by simpa [Value.cells] using h')).1) (fun i c v h h' => (hcy.2.2 i c v h (by simpa using h')).1)
    · trivial
  · trivial
end Go.Am
end
section
namespace Go.Am
open Go

theorem run_newRow (P : Program) (w : World) (e : TypeId) (cs : Array Value) : (newRow e cs).run P w = .ok ⟨w.heap.size, 0, none⟩ (w.alloc (.cells cs e)) := rfl

def keyOf (o : Oper) : Nat := 100 + 50 * o.dst.getD 100000

def tzero (P : Program) (t : TypeId) : Option (List AV) :=
  match P.info? t with
  | some i => match i.zero with
    | some z => if z.cells.all cell1 then some (z.cells.toList.map constAV) else none
    | none => none
  | none => none

theorem tzero_rel {P : Program} {t : TypeId} {zs : List AV} (h : tzero P t = some zs) (w : World) : ∃ z, (zeroValue t).run P w = .ok z w ∧ z.cells.size = zs.length ∧ (∀ v ∈ z.cells, cell1 v = true) ∧
    ∀ φ w' F (i : Nat) c v, zs[i]? = some c → z.cells[i]? = some v → AVRel φ w' F c v := by
  unfold tzero at h
  split at h
  · rename_i i hi
    split at h
    · rename_i z hz
      split at h
      · rename_i hall
        simp at h
        subst h
        refine ⟨z, by simp [zeroValue, typeInfo, hi, hz], by simp, ?_, ?_⟩
        · intro v hv; exact Array.all_eq_true'.1 hall v hv
        · intro φ w' F i c v hc hv
          simp only [List.getElem?_map, Array.getElem?_toList, Option.map_eq_some_iff] at hc
          obtain ⟨u, hu, rfl⟩ := hc
          rw [hv] at hu; cases hu
          exact constAV_rel ..
      · cases h
    · cases h
  · cases h

/-- A new box. -/
def boxR (m : Mem) (k : Nat) (c : Bool) (cs : List AV) : Res :=
  match Mem.get m k with
  | some ⟨_, v, _⟩ => .upd c (.ptr k (v + 1) 0) ⟨k, v + 1, .box cs⟩
  | none => .no

theorem box_new {P : Program} {S : St} {o : Oper} {k : Nat} {c : Bool} {cs : List AV}
    (h : c = true → ∀ φ G a w, Rel φ G S a w → ∃ (arr : Array Value) (elem : TypeId), (execOp a.eval o).run P w = .ok (.value (.pointer (some ⟨w.heap.size, 0, none⟩))) (w.alloc (.cells arr elem)) ∧
      arr.size = cs.length ∧ (∀ v ∈ arr, cell1 v = true) ∧ ∀ (i : Nat) c v, cs[i]? = some c → arr[i]? = some v → AVRel φ w (Fo G φ S.mem) c v) : ResOk P S o (boxR S.mem k c cs) := by
  unfold boxR
  split
  · rename_i key v cont hg
    intro hc φ G a w hr
    obtain ⟨arr, elem, hrun, hsz, h1, hrel⟩ := h hc φ G a w hr
    obtain ⟨hm, hk, L, hL, hver, _⟩ := hr.mem.get hg
    simp only at hk hver
    subst hk
    obtain ⟨φ', hm', hk', hφk, hφo⟩ := hr.mem.fresh (e := ⟨key, v, cont⟩) hm hL hver w rfl rfl rfl rfl arr elem 1 cs.length (.box cs) (fun φ' hle hav hdr hnew =>
      ⟨⟨rfl, rfl, rfl⟩, arr, elem, RowAt.new hnew, hsz, h1, fun i c u hc hu => hav c u (hrel i c u hc hu)⟩)
    exact ⟨_, _, φ', .inl hrun, .ptr key (v + 1) 0 _ _ hφk (Nat.le_refl _) (fun _ => rfl) rfl, hm', hk', hφo⟩
  · trivial

theorem box_ok (P : Program) (S : St) (o : Oper) (t : TypeId) (x : Operand) (ho : o.op = .box t x) (hx : (S.opd x).1 = true) : ResOk P S o (boxR S.mem (keyOf o) (S.opd x).2.solid (S.opd x).2.cells) := by
  refine box_new fun hs φ G a w hr => ?_
  have hv := hr.opd x hx
  obtain ⟨h1, h2⟩ := hv.solid hs
  refine ⟨(a.eval x).cells, t, ?_, h1, h2, hv.cells h2 h1⟩
  simp [execOp, ho, Instr.box, newVar, run_newRow]

theorem alloc_ok (P : Program) (S : St) (o : Oper) (t : TypeId) (ho : o.op = .alloc t) (zs : List AV) (hz : tzero P t = some zs) : ResOk P S o (boxR S.mem (keyOf o) true zs) := by
  refine box_new fun _ φ G a w hr => ?_
  obtain ⟨z, hrun, hsz, h1, hrel⟩ := tzero_rel hz w
  refine ⟨z.cells, t, ?_, hsz, h1, fun i c v hc hv => hrel _ _ _ i c v hc hv⟩
  simp [execOp, ho, Instr.alloc, newVar, run_newRow, hrun]

/- A zero as a datum. -/
def tzeroD (P : Program) (t : TypeId) : Option D :=
  match tzero P t, (tk P t).agg with
  | some zs, true => (toDsN zs).map .agg
  | some [z], false => toD1 z
  | _, _ => none
def tbytes (P : Program) (t : TypeId) : Option Nat := (P.info? t).map (·.bytes)

theorem tzeroD_rel {P : Program} {t : TypeId} {d : D} (h : tzeroD P t = some d) (w : World) : ∃ z, (zeroValue t).run P w = .ok z w ∧ z.cells.size = d.size ∧ (∀ v ∈ z.cells, cell1 v = true) ∧
    ∀ w' F, ∃ v, DRel w' F d v ∧ v.cells = z.cells := by
  unfold tzeroD at h
  split at h
  · rename_i zs hz hagg
    simp only [Option.map_eq_some_iff] at h
    obtain ⟨ds, hds, rfl⟩ := h
    obtain ⟨z, hrun, hsz, h1, hrel⟩ := tzero_rel hz w
    have hl : ∀ w' F, zs.length = ds.length ∧ ∀ (i : Nat) d v, ds[i]? = some d → z.cells.toList[i]? = some v → DRel w' F d v := fun w' F =>
      toDsN_rel (φ := fun _ => none) (w := w') (F := F) (vs := z.cells.toList) hds (fun i c v hc hv => hrel _ _ _ i c v hc (by simpa using hv))
    refine ⟨z, hrun, by rw [hsz, (hl w (fun _ => False)).1]; rfl, h1, fun w' F => ⟨.agg z.cells, ?_, rfl⟩⟩
    have := DRel.ofCells (w := w') (F := F) (cs := ds) (vs := z.cells.toList) (by rw [← (hl w' F).1]; simpa using hsz.symm) (fun v hv => h1 v (by simpa using hv)) (hl w' F).2
    simpa using this
  · rename_i z0 hz hagg
    obtain ⟨z, hrun, hsz, h1, hrel⟩ := tzero_rel hz w
    obtain ⟨u, hu⟩ : ∃ u, z.cells = #[u] := by
      have : z.cells.size = 1 := hsz
      exact ⟨z.cells[0], by apply Array.ext <;> simp_all⟩
    have hd : ∀ w' F, DRel w' F d u := fun w' F => toD1_rel (φ := fun _ => none) h (hrel _ _ _ 0 z0 u (by simp) (by simp [hu]))
    have hu1 : cell1 u = true := h1 u (by simp [hu])
    refine ⟨z, hrun, by rw [hu, ← (hd w (fun _ => False)).size, cells_of_cell1 hu1], h1, fun w' F => ⟨u, hd w' F, by rw [cells_of_cell1 hu1, hu]⟩⟩
  · cases h

/-- The cells of rows, one behind the other. -/
def RowsAt (w : World) (F : Nat → Prop) (sz : Nat) (rows : List D) (cs : List Value) : Prop :=
  cs.length = rows.length * sz ∧ (∀ v ∈ cs, cell1 v = true) ∧ (∀ d ∈ rows, d.size = sz) ∧ ∀ (i : Nat) d, rows[i]? = some d → ∃ v, DRel w F d v ∧ ∀ (j : Nat) c, v.cells[j]? = some c → cs[i * sz + j]? = some c

theorem row_lt {sz : Nat} {w : World} {F : Nat → Prop} {d : D} {v : Value} (h : DRel w F d v) (hs : d.size = sz) {j : Nat} {c : Value} (hj : v.cells[j]? = some c) : j < sz := by
  have h1 := h.size
  have := (Array.getElem?_eq_some_iff.1 hj).1
  omega

theorem RowsAt.append {w F sz xs ys cs cs'} (h : RowsAt w F sz xs cs) (h' : RowsAt w F sz ys cs') : RowsAt w F sz (xs ++ ys) (cs ++ cs') := by
  obtain ⟨a1, a2, a3, a4⟩ := h
  obtain ⟨b1, b2, b3, b4⟩ := h'
  refine ⟨by simp [a1, b1, Nat.add_mul], ?_, ?_, ?_⟩
  · intro v hv; rcases List.mem_append.1 hv with hv | hv; exact a2 v hv; exact b2 v hv
  · intro v hv; rcases List.mem_append.1 hv with hv | hv; exact a3 v hv; exact b3 v hv
  · intro i d hd
    by_cases hi : i < xs.length
    · rw [List.getElem?_append_left hi] at hd
      obtain ⟨v, hv, hvc⟩ := a4 i d hd
      refine ⟨v, hv, fun j c hj => ?_⟩
      have hjs := row_lt hv (a3 d (List.mem_of_getElem? hd)) hj
      rw [List.getElem?_append_left]
      · exact hvc j c hj
      · rw [a1]
        have : i * sz + sz ≤ xs.length * sz := by rw [← Nat.succ_mul]; exact Nat.mul_le_mul_right _ hi
        omega
    · rw [List.getElem?_append_right (by omega)] at hd
      obtain ⟨v, hv, hvc⟩ := b4 _ d hd
      refine ⟨v, hv, fun j c hj => ?_⟩
      have e : xs.length * sz + (i - xs.length) * sz = i * sz := by rw [← Nat.add_mul]; congr 1; omega
      rw [List.getElem?_append_right (by rw [a1]; omega), a1, show i * sz + j - xs.length * sz = (i - xs.length) * sz + j by omega]
      exact hvc j c hj
theorem RowsAt.take {w F sz xs cs} (h : RowsAt w F sz xs cs) (n : Nat) (hn : n ≤ xs.length) : RowsAt w F sz (xs.take n) (cs.take (n * sz)) := by
  obtain ⟨a1, a2, a3, a4⟩ := h
  have hle : n * sz ≤ xs.length * sz := Nat.mul_le_mul_right _ hn
  refine ⟨by simp only [List.length_take, a1]; rw [Nat.min_eq_left hn, Nat.min_eq_left hle], fun v hv => a2 v (List.mem_of_mem_take hv), fun v hv => a3 v (List.mem_of_mem_take hv), ?_⟩
  intro i d hd
  rw [List.getElem?_take] at hd
  split at hd
  · rename_i hi
    obtain ⟨v, hv, hvc⟩ := a4 i d hd
    refine ⟨v, hv, fun j c hj => ?_⟩
    have hjs := row_lt hv (a3 d (List.mem_of_getElem? hd)) hj
    have : i * sz + sz ≤ n * sz := by rw [← Nat.succ_mul]; exact Nat.mul_le_mul_right _ hi
    rw [List.getElem?_take, if_pos (by omega)]
    exact hvc j c hj
  · cases hd
theorem RowsAt.drop {w F sz xs cs} (h : RowsAt w F sz xs cs) (n : Nat) : RowsAt w F sz (xs.drop n) (cs.drop (n * sz)) := by
  obtain ⟨a1, a2, a3, a4⟩ := h
  refine ⟨by simp [a1, Nat.sub_mul], fun v hv => a2 v (List.mem_of_mem_drop hv), fun v hv => a3 v (List.mem_of_mem_drop hv), ?_⟩
  intro i d hd
  rw [List.getElem?_drop] at hd
  obtain ⟨v, hv, hvc⟩ := a4 _ d hd
  refine ⟨v, hv, fun j c hj => ?_⟩
  rw [List.getElem?_drop, show n * sz + (i * sz + j) = (n + i) * sz + j by rw [Nat.add_mul]; omega]
  exact hvc j c hj
theorem RowsAt.mono {w F w' F' sz xs cs} (h : RowsAt w F sz xs cs) (hm : ∀ x v, DRel w F x v → DRel w' F' x v) : RowsAt w' F' sz xs cs :=
  ⟨h.1, h.2.1, h.2.2.1, fun i d hd => let ⟨v, hv, hc⟩ := h.2.2.2 i d hd; ⟨v, hm _ _ hv, hc⟩⟩
theorem RowsAt.nil (w F sz) : RowsAt w F sz [] [] := ⟨by simp, by simp, by simp, by simp⟩

/-- An owned row's content is what RowsAt says of its cells behind the first ones. -/
theorem vec_of_rowsB {φ w F} {L : Loc} {rows : List D} {pre cs rest : List Value} {sz : Nat} {elem : TypeId} (hsz : L.sz = sz) (hr : RowsAt w F sz rows cs) (hpre : pre.length = L.base) (h0 : ∀ v ∈ pre, cell1 v = true) (h1 : ∀ v ∈ rest, cell1 v = true)
    (hcap : rows.length ≤ L.cap) (hl : (cs ++ rest).length = L.cap * sz) (hh : 0 < L.cap → RowAt w L.blk (pre ++ (cs ++ rest)).toArray elem) : ContRel φ w F L (.vec sz rows) := by
  obtain ⟨a1, a2, a3, a4⟩ := hr
  subst hsz
  refine ⟨rfl, hcap, a3, fun hc => ⟨_, elem, hh hc, by simp only [List.size_toArray, List.length_append] at hl ⊢; omega, ?_, ?_⟩⟩
  · intro v hv
    simp at hv
    rcases hv with hv | hv | hv
    · exact h0 v hv
    · exact a2 v hv
    · exact h1 v hv
  · intro i d hd
    obtain ⟨v, hv, hvc⟩ := a4 i d hd
    refine ⟨v, hv, fun j c hj => ?_⟩
    have hjs := row_lt hv (a3 d (List.mem_of_getElem? hd)) hj
    have hlt : i < rows.length := (List.getElem?_eq_some_iff.1 hd).1
    have : i * L.sz + L.sz ≤ rows.length * L.sz := by rw [← Nat.succ_mul]; exact Nat.mul_le_mul_right _ hlt
    rw [List.getElem?_toArray, List.getElem?_append_right (by omega), hpre, show L.base + i * L.sz + j - L.base = i * L.sz + j by omega, List.getElem?_append_left (by rw [a1]; omega)]
    exact hvc j c hj
theorem vec_of_rows {φ w F} {L : Loc} {rows : List D} {cs rest : List Value} {sz : Nat} {elem : TypeId} (hsz : L.sz = sz) (hb : L.base = 0) (hr : RowsAt w F sz rows cs) (h1 : ∀ v ∈ rest, cell1 v = true)
    (hcap : rows.length ≤ L.cap) (hl : (cs ++ rest).length = L.cap * sz) (hh : 0 < L.cap → RowAt w L.blk (cs ++ rest).toArray elem) : ContRel φ w F L (.vec sz rows) :=
  vec_of_rowsB (pre := []) hsz hr (by simp [hb]) (by simp) h1 hcap hl hh
theorem rows_of_vec {φ w F} {L : Loc} {rows : List D} {sz : Nat} (h : ContRel φ w F L (.vec sz rows)) (hc : 0 < L.cap) : ∃ (arr : Array Value) (elem : TypeId), RowAt w L.blk arr elem ∧ arr.size = L.base + L.cap * sz ∧
    (∀ v ∈ arr, cell1 v = true) ∧ RowsAt w F sz rows ((arr.toList.drop L.base).take (rows.length * sz)) := by
  obtain ⟨hs, hcap, hrs, hrow⟩ := h
  obtain ⟨arr, elem, hh, hsz, h1, hrel⟩ := hrow hc
  subst hs
  refine ⟨arr, elem, hh, hsz, h1, ?_, fun v hv => h1 v (by simpa using List.mem_of_mem_drop (List.mem_of_mem_take hv)), hrs, ?_⟩
  · simp only [List.length_take, List.length_drop, Array.length_toList, hsz]; exact Nat.min_eq_left (by rw [Nat.add_sub_cancel_left]; exact Nat.mul_le_mul_right _ hcap)
  · intro i d hd
    obtain ⟨v, hv, hvc⟩ := hrel i d hd
    refine ⟨v, hv, fun j c hj => ?_⟩
    have hjs := row_lt hv (hrs d (List.mem_of_getElem? hd)) hj
    have hlt : i < rows.length := (List.getElem?_eq_some_iff.1 hd).1
    have : i * L.sz + L.sz ≤ rows.length * L.sz := by rw [← Nat.succ_mul]; exact Nat.mul_le_mul_right _ hlt
    rw [List.getElem?_take, if_pos (by omega), List.getElem?_drop, ← Nat.add_assoc]
    simpa using hvc j c hj

/-- The rows of a list, as cells. -/
theorem rows_of_list {w F} {xs : List D} {ao : Option Addr} {m cap sz : Nat} (h : DRel w F (.list xs) (.slice ao m cap)) (hs : ∀ d ∈ xs, d.size = sz) :
    m = xs.length ∧ ∃ cs, RowsAt w F sz xs cs ∧ (xs ≠ [] → ∃ b off, ao = some ⟨b, off, none⟩ ∧ b < w.heap.size ∧ ¬ F b ∧ ∀ (j : Nat) v, cs[j]? = some v → w.cell? ⟨b, off + j, none⟩ = some v) := by
  generalize hx : D.list xs = x at h
  generalize hv : Value.slice ao m cap = v at h
  cases h with
  | nil a c =>
    simp at hx hv
    subst hx
    exact ⟨by simp [hv.2.1], [], RowsAt.nil .., fun h => absurd rfl h⟩
  | list ys b off cap' sz' vs hcap hb hF hsz hvr hc =>
    simp at hx hv
    obtain ⟨rfl, rfl, rfl⟩ := hv
    subst hx
    refine ⟨rfl, ?_⟩
    -- the cells, row by row
    have hsz' : xs ≠ [] → sz' = sz := fun hne => by
      cases xs with
      | nil => exact absurd rfl hne
      | cons d r => rw [← hsz d (by simp), hs d (by simp)]
    by_cases hne : xs = []
    · subst hne; exact ⟨[], RowsAt.nil .., fun h => absurd rfl h⟩
    have hsz' := hsz' hne
    subst hsz'
    have hrow : ∀ (i j : Nat), i < xs.length → j < sz' → ∃ c, (vs i).cells[j]? = some c ∧ w.cell? ⟨b, off + (i * sz' + j), none⟩ = some c ∧ cell1 c = true := by
      intro i j hi hj
      have h1 := hvr i xs[i] (by simp [hi])
      have h2 := h1.size
      rw [hs _ (List.getElem_mem hi)] at h2
      have hj' : j < (vs i).cells.size := by omega
      refine ⟨(vs i).cells[j], by simp [hj'], ?_, h1.cells.2.1 _ (by simp)⟩
      have := hc i j _ hi (show (vs i).cells[j]? = some (vs i).cells[j] by simp [hj'])
      rw [← Nat.add_assoc]; exact this
    refine ⟨(List.range (xs.length * sz')).map (fun j => (w.cell? ⟨b, off + j, none⟩).getD undef), ⟨by simp, ?_, hs, ?_⟩, fun _ => ⟨b, off, rfl, hb, hF, ?_⟩⟩
    · intro v hv
      simp only [List.mem_map, List.mem_range] at hv
      obtain ⟨j, hj, rfl⟩ := hv
      have hpos : 0 < sz' := by rcases Nat.eq_zero_or_pos sz' with h0 | h0; simp [h0] at hj; exact h0
      obtain ⟨c, _, h2, h3⟩ := hrow (j / sz') (j % sz') (Nat.div_lt_of_lt_mul (by rw [Nat.mul_comm]; exact hj)) (Nat.mod_lt _ hpos)
      rw [Nat.mul_comm, Nat.div_add_mod] at h2
      simp [h2, h3]
    · intro i d hd
      have hi : i < xs.length := (List.getElem?_eq_some_iff.1 hd).1
      refine ⟨vs i, hvr i d hd, fun j c hj => ?_⟩
      have hjs := row_lt (hvr i d hd) (hs d (List.mem_of_getElem? hd)) hj
      obtain ⟨c', h1, h2, _⟩ := hrow i j hi hjs
      rw [hj] at h1; cases h1
      have : i * sz' + sz' ≤ xs.length * sz' := by rw [← Nat.succ_mul]; exact Nat.mul_le_mul_right _ hi
      simp [h2, show i * sz' + j < xs.length * sz' by omega]
    · intro j v hv
      simp only [List.getElem?_map, Option.map_eq_some_iff] at hv
      obtain ⟨k, hk, rfl⟩ := hv
      have hj : j < xs.length * sz' := by
        rcases Nat.lt_or_ge j (xs.length * sz') with h | h
        · exact h
        · simp [List.getElem?_eq_none (l := List.range (xs.length * sz')) (by simpa using h)] at hk
      simp [hj] at hk
      subst hk
      have hpos : 0 < sz' := by rcases Nat.eq_zero_or_pos sz' with h0 | h0; simp [h0] at hj; exact h0
      obtain ⟨c, _, h2, _⟩ := hrow (j / sz') (j % sz') (Nat.div_lt_of_lt_mul (by rw [Nat.mul_comm]; exact hj)) (Nat.mod_lt _ hpos)
      rw [Nat.mul_comm, Nat.div_add_mod] at h2
      simp [h2]
  | _ => simp at hx
end Go.Am
end
section
namespace Go.Am
open Go

/-- What is appended or copied: a list, a piece of a vector, a string. -/
def srcRows (m : Mem) (sz : Nat) : AV → Option (Bool × List D)
  | .d (.list ys) => some (true, ys)
  | .d (.str s) => some (sz = 1, s.map fun b => .int .u8 b.toNat)
  | .lit (.slice none 0 0) => some (true, [])
  | .nn => some (true, [])
  | .vec k ver off len => match Mem.get m k with
    | some ⟨_, v, .vec _ rows⟩ => some (v = ver ∧ off + len ≤ rows.length, (rows.drop off).take len)
    | _ => none
  | _ => none

/-- The source's cells, whatever is read of the world at the place. -/
structure SrcAt (P : Program) (w : World) (F : Nat → Prop) (sz : Nat) (ys : List D) (x : Value) (news : List Value) : Prop where
  len : ∀ w', (Builtin.lenOf x).run P w' = .ok ys.length w'
  firstn : ∀ n, n ≤ ys.length → ∀ w', (∀ b, b < w.heap.size → w'.heap[b]? = w.heap[b]?) → (Builtin.firstCells sz n x).run P w' = .ok (news.take (n * sz)).toArray w'
  rows : RowsAt w F sz ys news

theorem SrcAt.first {P w F sz ys x news} (h : SrcAt P w F sz ys x news) (w' : World) (hw : ∀ b, b < w.heap.size → w'.heap[b]? = w.heap[b]?) : (Builtin.firstCells sz ys.length x).run P w' = .ok news.toArray w' := by
  rw [h.firstn _ (Nat.le_refl _) w' hw, List.take_of_length_le (by rw [h.rows.1]; exact Nat.le_refl _)]

theorem src_ok {P : Program} {S : St} {φ G w} (hm : MemRel φ G S.mem w) {x : AV} {v : Value} (hx : AVRel φ w (Fo G φ S.mem) x v) {c ys} {sz : Nat} (hs : srcRows S.mem sz x = some (c, ys)) (hc : c = true) (hsz : ∀ d ∈ ys, d.size = sz) :
    ∃ news, SrcAt P w (Fo G φ S.mem) sz ys v news := by
  unfold srcRows at hs
  split at hs
  · rename_i ys'
    simp at hs; obtain ⟨_, rfl⟩ := hs
    cases hx with
    | d _ _ h =>
      have hv : ∃ ao m cap, v = .slice ao m cap := by cases h <;> exact ⟨_, _, _, rfl⟩
      obtain ⟨ao, m, cap, rfl⟩ := hv
      obtain ⟨rfl, cs, hr, hne⟩ := rows_of_list h hsz
      refine ⟨cs, ⟨fun w' => by simp [Builtin.lenOf], fun n hn w' hw => ?_, hr⟩⟩
      by_cases hnil : ys' = []
      · subst hnil
        have : cs = [] := List.eq_nil_of_length_eq_zero (by simpa using hr.1)
        subst this
        have hn0 : n = 0 := by simpa using hn
        subst hn0
        cases ao with
        | none => simp [Builtin.firstCells]
        | some a => simp [Builtin.firstCells, loadCells, loadCellsFrom]
      · obtain ⟨b, off, rfl, hb, _, hcell⟩ := hne hnil
        exact run_firstCells_some (P := P) w' sz n ⟨b, off, none⟩ ys'.length cap _ (hr.take n hn |>.1.trans (by simp [hn])) (fun j u hj => by
          rw [add_none, cell?_congr (hw b hb)]
          rw [List.getElem?_take] at hj
          split at hj
          · exact hcell j u hj
          · cases hj)
  · rename_i s
    simp only [Option.some.injEq, Prod.mk.injEq] at hs
    obtain ⟨rfl, rfl⟩ := hs
    simp only [decide_eq_true_eq] at hc
    subst hc
    cases hx with
    | d _ _ h =>
      cases h with
      | str b _ hb =>
        subst hb
        have hsize : b.size = b.data.toList.length := by rw [Array.length_toList]; rfl
        refine ⟨b.data.toList.map fun x => Value.int .u8 x.toNat, ⟨fun w' => by simp only [Builtin.lenOf, List.length_map, ← hsize]; rfl, fun n hn w' _ => ?_, ?_, ?_, ?_, ?_⟩⟩
        · simp only [Builtin.firstCells, Sem.run_pure]
          congr 1
          apply Array.ext'
          simp
        · simp
        · intro v hv; simp only [List.mem_map] at hv; obtain ⟨y, _, rfl⟩ := hv; rfl
        · exact hsz
        · intro i d hd
          simp only [List.getElem?_map, Option.map_eq_some_iff] at hd
          obtain ⟨y, hy, rfl⟩ := hd
          refine ⟨.int .u8 y.toNat, .int _ _, fun j c hj => ?_⟩
          cases j with
          | zero => simp only [Value.cells] at hj; simp at hj; subst hj; simp only [List.getElem?_map, Nat.mul_one, Nat.add_zero, hy]; rfl
          | succ j => simp [Value.cells] at hj
  · simp at hs; obtain ⟨_, rfl⟩ := hs
    cases hx with
    | lit => exact ⟨[], ⟨fun w' => by simp [Builtin.lenOf], fun n _ w' _ => by simp [Builtin.firstCells], RowsAt.nil ..⟩⟩
  · simp at hs; obtain ⟨_, rfl⟩ := hs
    cases hx with
    | nn a cap => exact ⟨[], ⟨fun w' => by simp [Builtin.lenOf], fun n hn w' _ => by
        have hn0 : n = 0 := by simpa using hn
        subst hn0
        simp [Builtin.firstCells, loadCells, loadCellsFrom], RowsAt.nil ..⟩⟩
  · rename_i k ver off len
    split at hs
    · rename_i key v' sz' rows hg
      simp only [Option.some.injEq, Prod.mk.injEq] at hs
      obtain ⟨rfl, rfl⟩ := hs
      simp only [decide_eq_true_eq] at hc
      obtain ⟨rfl, hle⟩ := hc
      obtain ⟨hmem, hk, L, hL, hver, hcr⟩ := hm.get hg
      have hlen : ((rows.drop off).take len).length = len := by simp; omega
      cases hx with
      | vec _ _ _ _ _ L' hL' _ h h1 =>
        rw [hL] at hL'; cases hL'
        obtain ⟨ao, cap, rfl, hlc, hpl⟩ := h hver.symm
        clear h h1
        by_cases hl0 : len = 0
        · subst hl0
          refine ⟨[], ⟨fun w' => by simp [Builtin.lenOf], fun n hn w' _ => ?_, by simpa using RowsAt.nil ..⟩⟩
          have hn0 : n = 0 := by simpa using hn
          subst hn0
          cases ao with
          | none => simp [Builtin.firstCells]
          | some a => simp [Builtin.firstCells, loadCells, loadCellsFrom]
        · obtain ⟨rfl, hcapeq⟩ := hpl (by omega)
          obtain ⟨arr, elem, hh, hasz, ha1, hr⟩ := rows_of_vec hcr (by omega)
          have hss : sz' = sz := by
            have hl1 : 0 < ((rows.drop off).take len).length := by omega
            have h2 := hsz (((rows.drop off).take len)[0]'hl1) (List.getElem_mem hl1)
            have h3 := hr.2.2.1 (((rows.drop off).take len)[0]'hl1) (List.mem_of_mem_drop (List.mem_of_mem_take (List.getElem_mem hl1)))
            rw [← h2, ← h3]
          subst hss
          have hLs : L.sz = sz' := hcr.1
          have hr2 := (hr.drop off).take len (by simp; omega)
          refine ⟨_, ⟨fun w' => by simp [Builtin.lenOf, hlen], fun n hn w' hw => ?_, hr2⟩⟩
          have hb : L.blk < w.heap.size := hh.lt
          exact run_firstCells_some (P := P) w' sz' n ⟨L.blk, L.base + off * L.sz, none⟩ len cap _ ((hr2.take n hn).1.trans (by rw [List.length_take, Nat.min_eq_left hn])) (fun j u hj => by
            rw [add_none, cell?_congr (hw L.blk hb), cell?_rowA hh, hLs]
            rw [List.getElem?_take] at hj
            split at hj
            · rw [List.getElem?_take] at hj
              split at hj
              · rw [List.getElem?_drop, List.getElem?_take] at hj
                split at hj
                · rw [List.getElem?_drop] at hj
                  rw [Nat.add_assoc]
                  simpa using hj
                · cases hj
              · cases hj
            · cases hj)
    · cases hs
  · cases hs
end Go.Am
end

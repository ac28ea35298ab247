/-
  Texts of one proof, one behind the other.
-/
import Derived.Test.YtmlboljlgaaebaaDoorP5
set_option linter.all false
section
namespace Go.Am

/-- A node from which all ways end. -/
inductive Ends (succ : Nat → List Nat) : Nat → Prop
  | mk (i : Nat) (h : ∀ j ∈ succ i, Ends succ j) : Ends succ i
inductive Way (succ : Nat → List Nat) : Nat → Nat → Prop
  | one {i j} (h : j ∈ succ i) : Way succ i j
  | more {i j k} (h : Way succ i j) (h2 : k ∈ succ j) : Way succ i k
theorem Way.trans {succ : Nat → List Nat} {i j k : Nat} (h : Way succ i j) (h2 : Way succ j k) : Way succ i k := by
  induction h2 with
  | one h3 => exact .more h h3
  | more _ h3 ih => exact .more ih h3
theorem Ends.way {succ : Nat → List Nat} {i j : Nat} (h : Ends succ i) (w : Way succ i j) : Ends succ j := by
  induction w with
  | one h2 => cases h with | mk _ h => exact h _ h2
  | more _ h2 ih => cases ih with | mk _ h => exact h _ h2
theorem Ends.no_round {succ : Nat → List Nat} {i : Nat} (h : Ends succ i) : ¬ Way succ i i := by
  induction h with
  | mk i h ih =>
    intro w
    -- the first step of the way
    have first : ∀ {a b}, Way succ a b → ∃ c ∈ succ a, c = b ∨ Way succ c b := by
      intro a b w
      induction w with
      | one h => exact ⟨_, h, .inl rfl⟩
      | more _ h2 ih =>
        obtain ⟨c, hc, h3⟩ := ih
        rcases h3 with rfl | h3
        · exact ⟨_, hc, .inr (.one h2)⟩
        · exact ⟨_, hc, .inr (.more h3 h2)⟩
    obtain ⟨c, hc, h3⟩ := first w
    rcases h3 with rfl | h3
    · exact ih _ hc w
    · exact ih c hc (h3.trans (.one hc))

/- The search: 0 new, 1 open, 2 done. -/
mutual
def dfs (succ : Nat → List Nat) : Nat → Nat → List Nat → Bool × List Nat
  | 0, _, seen => (true, seen)
  | f + 1, at_, seen => if seen.getD at_ 0 ≠ 0 then (seen.getD at_ 0 == 1, seen) else
    match dfsL succ f (succ at_) (seen.set at_ 1) with
    | (true, s) => (true, s)
    | (false, s) => (false, s.set at_ 2)
def dfsL (succ : Nat → List Nat) : Nat → List Nat → List Nat → Bool × List Nat
  | _, [], seen => (false, seen)
  | f, n :: r, seen => match dfs succ f n seen with
    | (true, s) => (true, s)
    | (false, s) => dfsL succ f r s
end
def fresh (seen : List Nat) : Nat := seen.countP (· == 0)
structure DfsOk (succ : Nat → List Nat) (seen seen' : List Nat) : Prop where
  len : seen'.length = seen.length
  grey : ∀ i, seen'.getD i 0 = 1 ↔ seen.getD i 0 = 1
  black : ∀ i, seen.getD i 0 = 2 → seen'.getD i 0 = 2
  vals : (∀ i, seen.getD i 0 ≤ 2) → ∀ i, seen'.getD i 0 ≤ 2
  ends : (∀ i, seen.getD i 0 = 2 → Ends succ i) → ∀ i, seen'.getD i 0 = 2 → Ends succ i
  fresh : fresh seen' ≤ fresh seen
theorem DfsOk.refl (succ : Nat → List Nat) (s : List Nat) : DfsOk succ s s := ⟨rfl, fun _ => Iff.rfl, fun _ h => h, fun h => h, fun h => h, Nat.le_refl _⟩
theorem DfsOk.trans {succ : Nat → List Nat} {a b c : List Nat} (h : DfsOk succ a b) (k : DfsOk succ b c) : DfsOk succ a c :=
  ⟨by rw [k.len, h.len], fun i => (k.grey i).trans (h.grey i), fun i hi => k.black i (h.black i hi), fun hv => k.vals (h.vals hv), fun he => k.ends (h.ends he), Nat.le_trans k.fresh h.fresh⟩
theorem getD_set (l : List Nat) (i j v : Nat) : (l.set i v).getD j 0 = if i = j ∧ i < l.length then v else l.getD j 0 := by
  simp only [List.getD_eq_getElem?_getD, List.getElem?_set]
  by_cases h : i = j
  · subst h
    by_cases h2 : i < l.length
    · simp [h2]
    · simp [h2]
  · simp [h]
theorem fresh_set {l : List Nat} {i v : Nat} (h : l.getD i 0 = 0) (hi : i < l.length) (hv : v ≠ 0) : fresh (l.set i v) + 1 = fresh l := by
  induction l generalizing i with
  | nil => simp at hi
  | cons x r ih =>
    cases i with
    | zero =>
      simp at h
      subst h
      simp [fresh, hv]
    | succ i =>
      have h1 := ih (i := i) (by simpa using h) (by simpa using hi)
      unfold fresh at h1 ⊢
      simp only [List.set_cons_succ, List.countP_cons]
      omega
theorem fresh_set_le {l : List Nat} {i v : Nat} (hv : v ≠ 0) : fresh (l.set i v) ≤ fresh l := by
  induction l generalizing i with
  | nil => simp
  | cons x r ih =>
    cases i with
    | zero =>
      simp only [fresh, List.set_cons_zero, List.countP_cons]
      simp [hv]
    | succ i =>
      have h1 := ih (i := i)
      unfold fresh at h1 ⊢
      simp only [List.set_cons_succ, List.countP_cons]
      omega

/-- The open nodes all lead to a node. -/
def Lead (succ : Nat → List Nat) (seen : List Nat) (at_ : Nat) : Prop := ∀ i, seen.getD i 0 = 1 → Way succ i at_

theorem dfs_all (succ : Nat → List Nat) : ∀ f : Nat,
    (∀ at_ seen, fresh seen < f → at_ < seen.length → (∀ i < seen.length, ∀ j ∈ succ i, j < seen.length) → (∀ i, seen.getD i 0 ≤ 2) → Lead succ seen at_ →
      ((dfs succ f at_ seen).1 = true → ∃ i, i < seen.length ∧ Way succ i i) ∧ ((dfs succ f at_ seen).1 = false → DfsOk succ seen (dfs succ f at_ seen).2 ∧ (dfs succ f at_ seen).2.getD at_ 0 = 2)) ∧
    (∀ l at_ seen, fresh seen < f → (∀ n ∈ l, n ∈ succ at_) → (∀ n ∈ l, n < seen.length) → seen.getD at_ 0 = 1 → (∀ i < seen.length, ∀ j ∈ succ i, j < seen.length) → (∀ i, seen.getD i 0 ≤ 2) → (∀ i, seen.getD i 0 = 1 → i = at_ ∨ Way succ i at_) →
      ((dfsL succ f l seen).1 = true → ∃ i, i < seen.length ∧ Way succ i i) ∧ ((dfsL succ f l seen).1 = false → DfsOk succ seen (dfsL succ f l seen).2 ∧ ∀ n ∈ l, (dfsL succ f l seen).2.getD n 0 = 2))
  | 0 => ⟨fun _ _ h => by omega, fun _ _ _ h => by omega⟩
  | f + 1 => by
    have hd : ∀ at_ seen, fresh seen < f + 1 → at_ < seen.length → (∀ i < seen.length, ∀ j ∈ succ i, j < seen.length) → (∀ i, seen.getD i 0 ≤ 2) → Lead succ seen at_ →
      ((dfs succ (f + 1) at_ seen).1 = true → ∃ i, i < seen.length ∧ Way succ i i) ∧ ((dfs succ (f + 1) at_ seen).1 = false → DfsOk succ seen (dfs succ (f + 1) at_ seen).2 ∧ (dfs succ (f + 1) at_ seen).2.getD at_ 0 = 2) := by
      intro at_ seen hf hl hs hv hlead
      have ihL := (dfs_all succ f).2 (succ at_) at_ (seen.set at_ 1)
      unfold dfs
      by_cases h0 : seen.getD at_ 0 ≠ 0
      · rw [if_pos h0]
        refine ⟨fun h => ⟨at_, hl, hlead at_ (by simpa using h)⟩, fun h => ⟨DfsOk.refl _ _, ?_⟩⟩
        have := hv at_
        simp only [beq_eq_false_iff_ne] at h
        simp only
        omega
      · rw [if_neg h0]
        have h0' : seen.getD at_ 0 = 0 := by omega
        have hfr := fresh_set (v := 1) h0' hl (by decide)
        have hL := ihL (by omega) (fun n h => h) (fun n h => by simpa using hs at_ hl n h) (by rw [getD_set]; simp [hl]) (by simpa using hs)
          (fun i => by rw [getD_set]; split; omega; exact hv i)
          (fun i hi => by
            rw [getD_set] at hi
            split at hi
            · rename_i h; exact .inl h.1.symm
            · exact .inr (hlead i hi))
        obtain ⟨s, b, he⟩ : ∃ s b, dfsL succ f (succ at_) (seen.set at_ 1) = (b, s) := ⟨_, _, rfl⟩
        rw [he] at hL ⊢
        cases b with
        | true => exact ⟨fun _ => by simpa using hL.1 rfl, fun h => by simp at h⟩
        | false =>
          refine ⟨fun h => by simp at h, fun _ => ?_⟩
          obtain ⟨ok, hall⟩ := hL.2 rfl
          simp only at ok hall ⊢
          have hlen : s.length = seen.length := by rw [ok.len]; simp
          refine ⟨⟨by simp [hlen], fun i => ?_, fun i hi => ?_, fun _ i => ?_, fun hend i hi => ?_, ?_⟩, by rw [getD_set]; simp [hlen, hl]⟩
          · rw [getD_set]
            by_cases hi : at_ = i
            · subst hi
              simp only [hlen, hl, and_self, if_true, h0']
              omega
            · simp only [hi, false_and, if_false]
              rw [ok.grey i, getD_set]
              simp [hi]
          · rw [getD_set]
            split
            · rfl
            · refine ok.black i ?_
              rw [getD_set]
              split
              · rename_i h; rw [← h.1, h0'] at hi; omega
              · exact hi
          · rw [getD_set]
            split
            · omega
            · refine ok.vals (fun i => ?_) i
              rw [getD_set]; split; omega; exact hv i
          · have hend1 : ∀ i, s.getD i 0 = 2 → Ends succ i := ok.ends (fun i hi => by
              rw [getD_set] at hi
              split at hi
              · omega
              · exact hend i hi)
            rw [getD_set] at hi
            split at hi
            · rename_i h
              rw [← h.1]
              exact .mk _ (fun j hj => hend1 j (hall j hj))
            · exact hend1 i hi
          · have h1 := fresh_set_le (l := s) (i := at_) (v := 2) (by decide)
            have h2 := ok.fresh
            omega
    refine ⟨hd, ?_⟩
    intro l
    induction l with
    | nil =>
      intro at_ seen _ _ _ _ _ _ _
      unfold dfsL
      exact ⟨fun h => by simp at h, fun _ => ⟨DfsOk.refl _ _, fun n h => by simp at h⟩⟩
    | cons n r ih =>
      intro at_ seen hf hsub hlt hat hs hv hlead
      have h1 := hd n seen hf (hlt n (by simp)) hs hv (fun i hi => by
        have hn := hsub n (by simp)
        rcases hlead i hi with rfl | h
        · exact .one hn
        · exact .more h hn)
      unfold dfsL
      obtain ⟨s, b, he⟩ : ∃ s b, dfs succ (f + 1) n seen = (b, s) := ⟨_, _, rfl⟩
      rw [he] at h1 ⊢
      cases b with
      | true => exact ⟨fun _ => h1.1 rfl, fun h => by simp at h⟩
      | false =>
        obtain ⟨ok, hn2⟩ := h1.2 rfl
        simp only at ok hn2 ⊢
        have h2 := ih at_ s (Nat.lt_of_le_of_lt ok.fresh hf) (fun m hm => hsub m (by simp [hm])) (fun m hm => by rw [ok.len]; exact hlt m (by simp [hm])) ((ok.grey at_).2 hat)
          (by rw [ok.len]; exact hs) (ok.vals hv) (fun i hi => hlead i ((ok.grey i).1 hi))
        refine ⟨fun h => by have := h2.1 h; rwa [ok.len] at this, fun h => ?_⟩
        obtain ⟨ok2, hall⟩ := h2.2 h
        refine ⟨ok.trans ok2, fun m hm => ?_⟩
        rcases List.mem_cons.1 hm with rfl | hm
        · exact ok2.black _ hn2
        · exact hall m hm

/- All nodes, one behind the other. -/
def rounds (succ : Nat → List Nat) (f : Nat) : List Nat → List Nat → Bool
  | [], _ => false
  | n :: r, seen => match dfs succ f n seen with
    | (true, _) => true
    | (false, s) => rounds succ f r s
theorem rounds_iff (succ : Nat → List Nat) (N f : Nat) (hf : N < f) (hs : ∀ i < N, ∀ j ∈ succ i, j < N) :
    rounds succ f (List.range N) (List.replicate N 0) = true ↔ ∃ i < N, ¬ Ends succ i := by
  have key : ∀ (l : List Nat) (seen : List Nat), seen.length = N → (∀ n ∈ l, n < N) → (∀ i, seen.getD i 0 ≠ 1) → (∀ i, seen.getD i 0 ≤ 2) → (∀ i, seen.getD i 0 = 2 → Ends succ i) → (∀ i < N, i ∈ l ∨ seen.getD i 0 = 2) →
      (rounds succ f l seen = true ↔ ∃ i < N, ¬ Ends succ i) := by
    intro l
    induction l with
    | nil =>
      intro seen _ _ _ _ he hall
      unfold rounds
      refine ⟨fun h => by simp at h, ?_⟩
      rintro ⟨i, hi, hn⟩
      rcases hall i hi with h | h
      · simp at h
      · exact absurd (he i h) hn
    | cons n r ih =>
      intro seen hl hlt hg hv he hall
      have hfr : fresh seen ≤ seen.length := List.countP_le_length
      have h1 := (dfs_all succ f).1 n seen (by omega) (by rw [hl]; exact hlt n (by simp)) (by rw [hl]; exact hs) hv (fun i hi => absurd hi (hg i))
      unfold rounds
      obtain ⟨s, b, hd⟩ : ∃ s b, dfs succ f n seen = (b, s) := ⟨_, _, rfl⟩
      rw [hd] at h1 ⊢
      cases b with
      | true =>
        refine ⟨fun _ => ?_, fun _ => rfl⟩
        obtain ⟨i, hi, w⟩ := h1.1 rfl
        exact ⟨i, by omega, fun h => h.no_round w⟩
      | false =>
        obtain ⟨ok, hn2⟩ := h1.2 rfl
        simp only at ok hn2 ⊢
        refine ih s (by rw [ok.len, hl]) (fun m hm => hlt m (by simp [hm])) (fun i hi => hg i ((ok.grey i).1 hi)) (ok.vals hv) (ok.ends he) (fun i hi => ?_)
        rcases hall i hi with h | h
        · rcases List.mem_cons.1 h with rfl | h
          · exact .inr hn2
          · exact .inl h
        · exact .inr (ok.black i h)
  refine key _ _ (by simp) (by simp) (fun i => ?_) (fun i => ?_) (fun i hi => ?_) (fun i hi => .inl (by simpa using hi))
  · simp [List.getD_eq_getElem?_getD, List.getElem?_replicate]; split <;> simp
  · simp [List.getD_eq_getElem?_getD, List.getElem?_replicate]; split <;> simp
  · simp [List.getD_eq_getElem?_getD, List.getElem?_replicate] at hi
    split at hi <;> simp at hi
/- Striking out. -/
def strike (succ : Nat → List Nat) (s : List Bool × Bool) (i : Nat) : List Bool × Bool :=
  if s.1.getD i true = true then s else if (succ i).all (fun j => s.1.getD j true) = true then (s.1.set i true, true) else s
def strikes (succ : Nat → List Nat) (l : List Nat) (s : List Bool × Bool) : List Bool × Bool := l.foldl (strike succ) s
def struck (succ : Nat → List Nat) (l : List Nat) : Nat → List Bool → List Bool
  | 0, g => g
  | f + 1, g => match strikes succ l (g, false) with
    | (g', true) => struck succ l f g'
    | (g', false) => g'
def left (g : List Bool) : Nat := g.countP (· == false)
theorem getD_setB (l : List Bool) (i j : Nat) (v : Bool) : (l.set i v).getD j true = if i = j ∧ i < l.length then v else l.getD j true := by
  simp only [List.getD_eq_getElem?_getD, List.getElem?_set]
  by_cases h : i = j
  · subst h
    by_cases h2 : i < l.length
    · simp [h2]
    · simp [h2]
  · simp [h]
theorem left_set {l : List Bool} {i : Nat} (h : l.getD i true = false) : left (l.set i true) + 1 = left l := by
  induction l generalizing i with
  | nil => simp at h
  | cons x r ih =>
    cases i with
    | zero =>
      simp at h
      subst h
      simp [left]
    | succ i =>
      have h1 := ih (i := i) (by simpa using h)
      unfold left at h1 ⊢
      simp only [List.set_cons_succ, List.countP_cons]
      omega
structure StrikeOk (succ : Nat → List Nat) (s s' : List Bool × Bool) : Prop where
  len : s'.1.length = s.1.length
  ends : (∀ i < s.1.length, s.1.getD i true = true → Ends succ i) → ∀ i < s.1.length, s'.1.getD i true = true → Ends succ i
  less : s'.2 = true → s.2 = false → left s'.1 < left s.1
  le : left s'.1 ≤ left s.1
  more : s.2 = true → s'.2 = true
  same : s'.2 = false → s' = s
theorem strike_ok {succ : Nat → List Nat} {s : List Bool × Bool} {i : Nat} (hs : ∀ j ∈ succ i, j < s.1.length) : StrikeOk succ s (strike succ s i) := by
  unfold strike
  split
  · exact ⟨rfl, fun h => h, fun a b => (by rw [a] at b; cases b), Nat.le_refl _, fun h => h, fun _ => rfl⟩
  · rename_i h0
    split
    · rename_i h1
      have h2 := left_set (l := s.1) (i := i) (by simpa using h0)
      refine ⟨by simp, fun he j hj h => ?_, fun _ _ => by simp only; omega, by simp only; omega, fun _ => rfl, fun h => by simp at h⟩
      simp only at h
      rw [getD_setB] at h
      split at h
      · rename_i hij
        rw [← hij.1]
        exact .mk _ (fun k hk => he k (hs k hk) (by simpa using List.all_eq_true.1 h1 k hk))
      · exact he j hj h
    · exact ⟨rfl, fun h => h, fun a b => (by rw [a] at b; cases b), Nat.le_refl _, fun h => h, fun _ => rfl⟩
theorem StrikeOk.trans {succ : Nat → List Nat} {a b c : List Bool × Bool} (h : StrikeOk succ a b) (k : StrikeOk succ b c) : StrikeOk succ a c :=
  ⟨by rw [k.len, h.len], fun he => by have := k.ends; rw [h.len] at this; exact this (h.ends he), fun h1 h2 => by
      cases hb : b.2 with
      | true => exact Nat.lt_of_le_of_lt k.le (h.less hb h2)
      | false => exact Nat.lt_of_lt_of_le (k.less h1 hb) h.le, Nat.le_trans k.le h.le, fun h1 => k.more (h.more h1), fun h1 => by
      cases hb : b.2 with
      | true => rw [k.more hb] at h1; cases h1
      | false => rw [k.same h1, h.same hb]⟩
theorem strikes_ok {succ : Nat → List Nat} {N : Nat} (hs : ∀ i < N, ∀ j ∈ succ i, j < N) : ∀ (l : List Nat) (s : List Bool × Bool), s.1.length = N → (∀ i ∈ l, i < N) →
    StrikeOk succ s (strikes succ l s) ∧ ((strikes succ l s).2 = false → ∀ i ∈ l, s.1.getD i true = false → ∃ j ∈ succ i, s.1.getD j true = false)
  | [], s, _, _ => ⟨⟨rfl, fun h => h, fun a b => (by rw [show (strikes succ [] s).2 = s.2 from rfl, b] at a; cases a), Nat.le_refl _, fun h => h, fun _ => rfl⟩, fun _ i h => by simp at h⟩
  | i :: r, s, hl, hlt => by
    have h1 := strike_ok (s := s) (i := i) (by rw [hl]; exact hs i (hlt i (by simp)))
    obtain ⟨h2, h3⟩ := strikes_ok hs r (strike succ s i) (by rw [h1.len, hl]) (fun j hj => hlt j (by simp [hj]))
    have e : strikes succ (i :: r) s = strikes succ r (strike succ s i) := rfl
    rw [e]
    refine ⟨h1.trans h2, fun hf j hj hg => ?_⟩
    have hsame : strike succ s i = s := h1.same (by
      cases hb : (strike succ s i).2 with
      | false => rfl
      | true => rw [h2.more hb] at hf; cases hf)
    rcases List.mem_cons.1 hj with rfl | hj
    · unfold strike at hsame
      rw [if_neg (by rw [hg]; simp)] at hsame
      split at hsame
      · rename_i h4
        have : left (s.1.set j true) = left s.1 := by rw [show s.1.set j true = s.1 from congrArg Prod.fst hsame]
        have := left_set hg
        omega
      · rename_i h4
        simp only [List.all_eq_true, Classical.not_forall] at h4
        obtain ⟨k, hk, h5⟩ := h4
        exact ⟨k, hk, by simpa using h5⟩
    · rw [hsame] at h3 hf
      exact h3 hf j hj hg
theorem struck_all {succ : Nat → List Nat} {N : Nat} (hs : ∀ i < N, ∀ j ∈ succ i, j < N) (l : List Nat) (hl : ∀ i, i ∈ l ↔ i < N) : ∀ (f : Nat) (g : List Bool), g.length = N → left g < f → (∀ i < N, g.getD i true = true → Ends succ i) →
    (struck succ l f g).length = N ∧ ∀ i < N, ((struck succ l f g).getD i true = true ↔ Ends succ i)
  | 0, g, _, h, _ => by omega
  | f + 1, g, hg, hf, he => by
    obtain ⟨ok, hfix⟩ := strikes_ok hs l (g, false) hg (fun i hi => (hl i).1 hi)
    unfold struck
    obtain ⟨g', b, hd⟩ : ∃ g' b, strikes succ l (g, false) = (g', b) := ⟨_, _, rfl⟩
    rw [hd] at ok hfix ⊢
    have hlen : g'.length = N := by have := ok.len; simp only at this; omega
    cases b with
    | true =>
      have := ok.less rfl rfl
      simp only at this
      exact struck_all hs l hl f g' hlen (by omega) (by have := ok.ends; simp only [hg] at this; exact this he)
    | false =>
      have hsame := ok.same rfl
      simp only [Prod.mk.injEq] at hsame
      obtain ⟨rfl, _⟩ := hsame
      refine ⟨hlen, fun i hi => ⟨he i hi, fun h => ?_⟩⟩
      induction h with
      | mk i h ih =>
        simp only
        cases hg2 : g'.getD i true with
        | true => rfl
        | false =>
          obtain ⟨j, hj, hg3⟩ := hfix rfl i ((hl i).2 hi) hg2
          have := ih j hj (hs i hi j hj)
          simp only at this hg3
          rw [this] at hg3; cases hg3
/-- Nodes that lead nowhere may be left out of what is led to. -/
theorem ends_filter {succ : Nat → List Nat} {p : Nat → Bool} (hp : ∀ j, p j = false → Ends succ j) (i : Nat) : Ends (fun i => (succ i).filter p) i ↔ Ends succ i := by
  constructor
  · intro h
    induction h with
    | mk i h ih =>
      refine .mk _ (fun j hj => ?_)
      cases hpj : p j with
      | false => exact hp j hpj
      | true => exact ih j (by simp [hj, hpj])
  · intro h
    induction h with
    | mk i h ih => exact .mk _ (fun j hj => ih j ((List.mem_filter.1 hj).1))
end Go.Am
end
section
namespace Go.Am

structure Ins where
  op : Int
  a : Int
  b : Int
  n : Int
  m : Int

/-- Cells that are there. -/
def cellB (cells at_ n : Int) : Bool := decide (0 ≤ at_) && decide (0 ≤ n) && decide (n ≤ cells) && decide (at_ ≤ cells - n)
def thereB (cells at_ n : Int) : Bool := decide (0 ≤ at_) && decide (at_ ≤ 8192) && decide (at_ + n ≤ cells)
theorem cell_there {cells at_ n : Int} (hc : 0 ≤ cells ∧ cells ≤ 8192) (hn : 1 ≤ n) : cellB cells at_ n = thereB cells at_ n := by
  unfold cellB thereB
  rw [Bool.eq_iff_iff]
  simp only [Bool.and_eq_true, decide_eq_true_eq]
  omega
def doesB (x : Ins) : Bool :=
  if x.a = 0 then decide (x.b = 6) || decide (8 ≤ x.b) && decide (x.b ≤ 18)
  else if x.a = 1 then decide (x.b = 7) || decide (x.b = 13) || decide (x.b = 14) || decide (19 ≤ x.b) && decide (x.b ≤ 21)
  else false
def arrB (cells : Int) (x : Ins) : Bool := decide (0 ≤ x.n) && decide (x.n ≤ x.m) && decide (x.m ≤ 255) && cellB cells x.a (x.m - x.n + 1)
/-- Is an instruction one by itself? pins: how many cells a block of a kind has. -/
def formB (pins : Int → Nat) (cells last at_ : Int) (x : Ins) : Bool :=
  if x.op = 1 ∨ x.op = 11 then true
  else if x.op = 2 ∨ x.op = 3 ∨ x.op = 6 ∨ x.op = 14 then cellB cells x.a 1
  else if x.op = 13 then cellB cells x.a 1 && cellB cells x.b 2
  else if x.op = 4 ∨ x.op = 5 ∨ x.op = 7 then arrB cells x
  else if x.op = 8 then doesB x
  else if x.op = 9 ∨ x.op = 10 then decide (0 ≤ x.a) && decide (x.a ≤ last)
  else if x.op = 12 then decide (0 < pins x.b) && cellB cells x.a (pins x.b)
  else if x.op = 15 then decide (at_ = last)
  else false
def formsB (pins : Int → Nat) (cells last : Int) : Nat → List Ins → Bool
  | _, [] => true
  | i, x :: r => formB pins cells last i x && formsB pins cells last (i + 1) r

/-- What an instruction does with the stack: its truths, the top at the end. -/
def takeS (n : Nat) (t : Bool) (S : List Bool) : Option (List Bool) :=
  if S.length < n then none else if t && (S.drop (S.length - n)).any (fun b => !b) then none else some (S.take (S.length - n))
def giveS (t : Bool) (S : List Bool) : Option (List Bool) := if S.length < 64 then some (S ++ [t]) else none
def emptyS (S : List Bool) : Option (List Bool) := if S = [] then some [] else none
def movesS (x : Ins) (S : List Bool) : Option (List Bool) :=
  if x.op = 1 then giveS (decide (x.n = 0) || decide (x.n = 1)) S
  else if x.op = 2 then giveS false S
  else if x.op = 3 ∨ x.op = 13 ∨ x.op = 14 then giveS true S
  else if x.op = 4 then (takeS 1 false S).bind (giveS false)
  else if x.op = 5 then (takeS 1 false S).bind (giveS true)
  else if x.op = 6 then takeS 1 false S
  else if x.op = 7 then takeS 2 false S
  else if x.op = 8 then (takeS (if x.b = 6 ∨ x.b = 7 then 1 else 2) (decide (x.a = 1)) S).bind (giveS (decide (x.b = 7) || decide (13 ≤ x.b)))
  else if x.op = 10 then (takeS 1 true S).bind emptyS
  else emptyS S
def stackS (led : List Bool) : Nat → List Ins → List Bool → Bool
  | _, [], _ => true
  | i, x :: r, S => if led.getD i false && !S.isEmpty then false else match movesS x S with
    | none => false
    | some S' => stackS led (i + 1) r S'
/-- Where jumps lead. -/
def ledOf (ins : List Ins) : List Bool := ins.foldl (fun l x => if x.op = 9 ∨ x.op = 10 then l.set x.a.toNat true else l) (List.replicate ins.length false)

/-- The next places, those of steps left out. -/
def nextI (ins : List Ins) (i : Nat) : List Nat :=
  match ins[i]? with
  | none => []
  | some x => if x.op = 9 then [x.a.toNat] else if x.op = 10 then [i + 1, x.a.toNat] else if x.op = 15 then [] else [i + 1]
def tickAt (ins : List Ins) (i : Nat) : Bool :=
  match ins[i]? with
  | none => false
  | some x => decide (x.op = 11)
def succI (ins : List Ins) (i : Nat) : List Nat := if tickAt ins i = true then [] else nextI ins i
/-- The program's: without the steps. -/
def succP (ins : List Ins) (i : Nat) : List Nat := (succI ins i).filter fun j => !tickAt ins j
theorem succ_ends (ins : List Ins) (i : Nat) : Ends (succP ins) i ↔ Ends (succI ins) i :=
  ends_filter (p := fun j => !tickAt ins j) (fun j hj => .mk _ (fun k hk => by
    have : tickAt ins j = true := by simpa using hj
    simp [succI, this] at hk)) i
def headB (n vars cells : Int) (lastOp : Int) : Bool := decide (1 ≤ n) && decide (n ≤ 4096) && decide (0 ≤ cells) && decide (cells ≤ 8192) && decide (0 ≤ vars) && decide (vars ≤ cells) && decide (lastOp = 15)
def lastOp (ins : List Ins) : Int := (ins.getLast?.map (·.op)).getD 0
def okForms (pins : Int → Nat) (ins : List Ins) (vars cells : Int) : Bool := headB ins.length vars cells (lastOp ins) && formsB pins cells ((ins.length : Int) - 1) 0 ins
/-- Can it be run? -/
def okCode (pins : Int → Nat) (ins : List Ins) (vars cells : Int) : Bool :=
  okForms pins ins vars cells && stackS (ledOf ins) 0 ins [] && !(rounds (succP ins) (ins.length + 1) (List.range ins.length) (List.replicate ins.length 0))

theorem forms_get {pins : Int → Nat} {cells last : Int} : ∀ {ins : List Ins} {i0 : Nat}, formsB pins cells last i0 ins = true → ∀ i x, ins[i]? = some x → formB pins cells last ((i0 + i : Nat) : Int) x = true
  | y :: r, i0, h, i, x, hx => by
    simp only [formsB, Bool.and_eq_true] at h
    cases i with
    | zero => simp at hx; subst hx; exact h.1
    | succ i =>
      have := forms_get h.2 i x (by simpa using hx)
      rw [show i0 + (i + 1) = i0 + 1 + i by omega]
      exact this
theorem succ_in {pins : Int → Nat} {ins : List Ins} {vars cells : Int} (h : okForms pins ins vars cells = true) : ∀ i < ins.length, ∀ j ∈ succI ins i, j < ins.length := by
  intro i hi j hj
  simp only [okForms, Bool.and_eq_true] at h
  have hx : ins[i]? = some ins[i] := by simp [hi]
  have hf := forms_get h.2 i _ hx
  simp only [Nat.zero_add] at hf
  have hlast : i + 1 = ins.length → ins[i].op = 15 := by
    intro h1
    have h2 := h.1
    simp only [headB, Bool.and_eq_true, decide_eq_true_eq] at h2
    have h3 := h2.2
    unfold lastOp at h3
    rw [List.getLast?_eq_getElem?, show ins.length - 1 = i by omega, hx] at h3
    simpa using h3
  unfold succI at hj
  split at hj
  · simp at hj
  · unfold nextI at hj
    rw [hx] at hj
    simp only at hj
    unfold formB at hf
    by_cases h9 : ins[i].op = 9
    · simp [h9] at hj hf
      omega
    · by_cases h10 : ins[i].op = 10
      · simp [h10] at hj hf
        have : i + 1 ≠ ins.length := fun h => by have := hlast h; omega
        omega
      · by_cases h15 : ins[i].op = 15
        · simp [h15] at hj
        · simp [h9, h10, h15] at hj
          have : i + 1 ≠ ins.length := fun h => h15 (hlast h)
          omega
theorem round_iff {pins : Int → Nat} {ins : List Ins} {vars cells : Int} (h : okForms pins ins vars cells = true) :
    rounds (succP ins) (ins.length + 1) (List.range ins.length) (List.replicate ins.length 0) = true ↔ ∃ i < ins.length, ¬ Ends (succI ins) i := by
  rw [rounds_iff (succP ins) ins.length (ins.length + 1) (by omega) (fun i hi j hj => succ_in h i hi j (List.mem_filter.1 hj).1)]
  simp only [succ_ends]
end Go.Am
end
section
namespace Go.Am
open Go Go.Proofs
set_option maxRecDepth 20000
@[simp] def insD (x : Ins) : D := .agg [.int .i64 x.op, .int .i64 x.a, .int .i64 x.b, .int .i64 x.n, .int .i64 x.m]
@[simp] def kBox (ins : List Ins) (vars cells : Int) (x y : AV) : Cont := .box [.d (.list (ins.map insD)), .d (.int .i64 vars), .d (.int .i64 cells), x, y]
@[simp] def bD (l : List Bool) : List D := l.map .bool

section
variable (ins : List Ins) (vars cells : Int) (s1 o1 n1 s2 o2 n2 : Nat) (S T : List D)
theorem cell_run (at_ n : Int) (hc : 0 ≤ cells ∧ cells ≤ 8192) (hI : I64 n) :
    callT ctx 69 [.ptr 0 0 0, .d (.int .i64 at_), .d (.int .i64 n)] [kBox ins vars cells (.vec 1 0 0 n1) (.vec 2 0 0 n2), .vec 1 S, .vec 1 T] =
      some (.ret (.d (.bool (cellB cells at_ n))), [(0, kBox ins vars cells (.vec 1 0 0 n1) (.vec 2 0 0 n2)), (0, .vec 1 S), (0, .vec 1 T)]) := by
  rw [run69 (by simp)]
  unfold cellB
  by_cases h1 : 0 ≤ at_ <;> by_cases h2 : 0 ≤ n <;> by_cases h3 : n ≤ cells <;> simp [Tryd.f69, h1, h2, h3]
  rw [wrap_id (by unfold I64; omega)]
theorem array_run (x : Ins) (hc : 0 ≤ cells ∧ cells ≤ 8192) :
    callT ctx 70 [.ptr 0 0 0, .d (insD x)] [kBox ins vars cells (.vec 1 0 0 n1) (.vec 2 0 0 n2), .vec 1 S, .vec 1 T] =
      some (.ret (.d (.bool (arrB cells x))), [(0, kBox ins vars cells (.vec 1 0 0 n1) (.vec 2 0 0 n2)), (0, .vec 1 S), (0, .vec 1 T)]) := by
  rw [run70 (by simp)]
  unfold arrB
  by_cases h1 : 0 ≤ x.n
  · by_cases h2 : x.n ≤ x.m
    · by_cases h3 : x.m ≤ 255
      · have h := cell_run ins vars cells n1 n2 S T x.a (x.m - x.n + 1) hc (by unfold I64; omega)
        have w1 : IntKind.i64.wrap (x.m - x.n) = x.m - x.n := wrap_id (by unfold I64; omega)
        have w2 : IntKind.i64.wrap (x.m - x.n + 1) = x.m - x.n + 1 := wrap_id (by unfold I64; omega)
        simp at h
        simp [Tryd.f70, h1, h2, h3, w1, w2, h]
      · simp [Tryd.f70, h1, h2, h3]
    · simp [Tryd.f70, h1, h2]
  · simp [Tryd.f70, h1]
theorem does_run (x : Ins) : callT ctx 71 [.d (insD x)] [] = some (.ret (.d (.bool (doesB x))), []) := by
  rw [run71 (by simp)]
  unfold doesB
  by_cases h0 : x.a = 0
  · by_cases h1 : x.b = 6
    · simp [Tryd.f71, h0, h1]
    · by_cases h2 : 8 ≤ x.b <;> simp [Tryd.f71, h0, h1, h2]
  · by_cases h1 : x.a = 1
    · by_cases h2 : x.b = 7
      · simp [Tryd.f71, h1, h2]
      · by_cases h3 : x.b = 13
        · simp [Tryd.f71, h1, h3]
        · by_cases h4 : x.b = 14
          · simp [Tryd.f71, h1, h4]
          · by_cases h5 : 19 ≤ x.b <;> simp [Tryd.f71, h1, h2, h3, h4, h5]
    · simp [Tryd.f71, h0, h1]
end
end Go.Am
end
section
namespace Go.Am
open Go Go.Proofs
set_option maxRecDepth 20000
def PinsOk (f : Nat) (pins : Int → Nat) : Prop := ∀ b : Int, ∃ l : List D, callT ctx f [.d (.int .i64 b)] [] = some (.ret (.d (.list l)), []) ∧ l.length = pins b ∧ pins b ≤ 100
set_option maxHeartbeats 2000000 in
theorem form_run (pins : Int → Nat) (hp : PinsOk 38 pins) (ins : List Ins) (vars cells : Int) (n1 n2 : Nat) (S T : List D) (at_ : Int) (x : Ins) (hc : 0 ≤ cells ∧ cells ≤ 8192) (hl : ins.length ≤ 5000) :
    callT ctx 48 [.ptr 0 0 0, .d (.int .i64 at_), .d (insD x)] [kBox ins vars cells (.vec 1 0 0 n1) (.vec 2 0 0 n2), .vec 1 S, .vec 1 T] =
      some (.ret (.d (.bool (formB pins cells ((ins.length : Int) - 1) at_ x))), [(0, kBox ins vars cells (.vec 1 0 0 n1) (.vec 2 0 0 n2)), (0, .vec 1 S), (0, .vec 1 T)]) := by
  have hA1 := cell_run ins vars cells n1 n2 S T x.a 1 hc (by unfold I64; omega)
  have w1 : IntKind.i64.wrap ((ins.length : Int) - 1) = (ins.length : Int) - 1 := wrap_id (by unfold I64; omega)
  rw [run48 (by simp)]
  unfold formB
  simp at hA1
  by_cases e1 : x.op = 1
  · simp [Tryd.f48, w1, e1]
  by_cases e11 : x.op = 11
  · simp [Tryd.f48, w1, e11]
  by_cases e2 : x.op = 2
  · simp [Tryd.f48, w1, e2, hA1]
  by_cases e3 : x.op = 3
  · simp [Tryd.f48, w1, e3, hA1]
  by_cases e6 : x.op = 6
  · simp [Tryd.f48, w1, e6, hA1]
  by_cases e14 : x.op = 14
  · simp [Tryd.f48, w1, e14, hA1]
  by_cases e13 : x.op = 13
  · have hB2 := cell_run ins vars cells n1 n2 S T x.b 2 hc (by unfold I64; omega)
    simp at hB2
    cases hq : cellB cells x.a 1 <;> simp [Tryd.f48, w1, e13, hA1, hB2, hq]
  have harr := array_run ins vars cells n1 n2 S T x hc
  simp at harr
  by_cases e4 : x.op = 4
  · simp [e4] at harr
    simp [Tryd.f48, w1, e4, harr]
  by_cases e5 : x.op = 5
  · simp [e5] at harr
    simp [Tryd.f48, w1, e5, harr]
  by_cases e7 : x.op = 7
  · simp [e7] at harr
    simp [Tryd.f48, w1, e7, harr]
  by_cases e8 : x.op = 8
  · have hd := does_run x
    simp [e8] at hd
    simp [Tryd.f48, w1, e8, hd]
  by_cases e9 : x.op = 9
  · by_cases h0 : 0 ≤ x.a <;> simp [Tryd.f48, w1, e9, h0]
  by_cases e10 : x.op = 10
  · by_cases h0 : 0 ≤ x.a <;> simp [Tryd.f48, w1, e10, h0]
  by_cases e12 : x.op = 12
  · obtain ⟨l, hl1, hl2, hl3⟩ := hp x.b
    have hB := cell_run ins vars cells n1 n2 S T x.a (pins x.b) hc (by unfold I64; omega)
    simp at hB
    by_cases h0 : 0 < pins x.b
    · simp [Tryd.f48, w1, e12, h0, hl1, hl2, hB]
    · simp [Tryd.f48, w1, e12, h0, hl1, hl2, hB]
  by_cases e15 : x.op = 15
  · simp [Tryd.f48, w1, e15]
  · simp [Tryd.f48, w1, e1, e2, e3, e4, e5, e6, e7, e8, e9, e10, e11, e12, e13, e14, e15]
end Go.Am
end
section
namespace Go.Am
open Go Go.Proofs
set_option maxRecDepth 20000
def retLen : Option (Out × List (Nat × Cont)) → Option Nat
  | some (.ret (.d (.list l)), []) => some l.length
  | _ => none
theorem retLen_some {r : Option (Out × List (Nat × Cont))} {n : Nat} (h : retLen r = some n) : ∃ l, r = some (.ret (.d (.list l)), []) ∧ l.length = n := by
  unfold retLen at h
  split at h
  · rename_i l; exact ⟨l, rfl, by simpa using h⟩
  · cases h
theorem pins_of {f : FuncId} {b : Int} {n : Nat} (h : retLen (callN ctx 120 f [.d (.int .i64 b)] []) = some n) : ∃ l : List D, callT ctx f [.d (.int .i64 b)] [] = some (.ret (.d (.list l)), []) ∧ l.length = n := by
  obtain ⟨l, h1, h2⟩ := retLen_some h
  exact ⟨l, callT_of 120 h1, h2⟩
theorem pins10 : retLen (callN ctx 120 38 [.d (.int .i64 10)] []) = some 4 := by kernel_rfl
theorem pins11 : retLen (callN ctx 120 38 [.d (.int .i64 11)] []) = some 4 := by kernel_rfl
theorem pins12 : retLen (callN ctx 120 38 [.d (.int .i64 12)] []) = some 6 := by kernel_rfl
theorem pins13 : retLen (callN ctx 120 38 [.d (.int .i64 13)] []) = some 6 := by kernel_rfl
theorem pins14 : retLen (callN ctx 120 38 [.d (.int .i64 14)] []) = some 6 := by kernel_rfl
theorem pins15 : retLen (callN ctx 120 38 [.d (.int .i64 15)] []) = some 3 := by kernel_rfl
theorem pins16 : retLen (callN ctx 120 38 [.d (.int .i64 16)] []) = some 3 := by kernel_rfl
theorem pins17 : retLen (callN ctx 120 38 [.d (.int .i64 17)] []) = some 3 := by kernel_rfl
theorem pins18 : retLen (callN ctx 120 38 [.d (.int .i64 18)] []) = some 3 := by kernel_rfl
theorem pins20 : retLen (callN ctx 120 38 [.d (.int .i64 20)] []) = some 4 := by kernel_rfl
theorem pins21 : retLen (callN ctx 120 38 [.d (.int .i64 21)] []) = some 9 := by kernel_rfl
theorem pins22 : retLen (callN ctx 120 38 [.d (.int .i64 22)] []) = some 9 := by kernel_rfl
theorem pins23 : retLen (callN ctx 120 38 [.d (.int .i64 23)] []) = some 9 := by kernel_rfl
theorem pins24 : retLen (callN ctx 120 38 [.d (.int .i64 24)] []) = some 12 := by kernel_rfl
theorem pins25 : retLen (callN ctx 120 38 [.d (.int .i64 25)] []) = some 12 := by kernel_rfl
theorem pins26 : retLen (callN ctx 120 38 [.d (.int .i64 26)] []) = some 12 := by kernel_rfl
theorem pins27 : retLen (callN ctx 120 38 [.d (.int .i64 27)] []) = some 10 := by kernel_rfl
theorem pins28 : retLen (callN ctx 120 38 [.d (.int .i64 28)] []) = some 12 := by kernel_rfl
theorem pins29 : retLen (callN ctx 120 38 [.d (.int .i64 29)] []) = some 5 := by kernel_rfl
theorem pins30 : retLen (callN ctx 120 38 [.d (.int .i64 30)] []) = some 6 := by kernel_rfl
theorem pins31 : retLen (callN ctx 120 38 [.d (.int .i64 31)] []) = some 4 := by kernel_rfl
def kindsL : List Int := [10, 11, 12, 13, 14, 15, 16, 17, 18, 20, 21, 22, 23, 24, 25, 26, 27, 28, 29, 30, 31]
def pinsN (b : Int) : Nat :=
  if b = 10 then 4 else if b = 11 then 4 else if b = 12 then 6 else if b = 13 then 6 else if b = 14 then 6 else if b = 15 then 3 else if b = 16 then 3 else if b = 17 then 3 else if b = 18 then 3 else if b = 20 then 4 else if b = 21 then 9 else if b = 22 then 9 else if b = 23 then 9 else if b = 24 then 12 else if b = 25 then 12 else if b = 26 then 12 else if b = 27 then 10 else if b = 28 then 12 else if b = 29 then 5 else if b = 30 then 6 else if b = 31 then 4 else 0
def sheetOf : D → Option Int
  | .agg [.int .i64 k, .str _, .str _, .str _, .int .i64 _] => some k
  | _ => none
theorem sheetOf_some {d : D} {k : Int} (h : sheetOf d = some k) : ∃ a b c n, d = .agg [.int .i64 k, .str a, .str b, .str c, .int .i64 n] := by
  unfold sheetOf at h
  split at h
  · rename_i k' a b c n
    cases h
    exact ⟨a, b, c, n, rfl⟩
  · cases h
def sheetsOf : Option (Out × List (Nat × Cont)) → Option (List (Option Int))
  | some (.ret (.d (.list l)), []) => some (l.map sheetOf)
  | _ => none
theorem sheets_n : sheetsOf (callN ctx 120 79 [] []) = some (kindsL.map some) := by kernel_rfl
theorem sheets_run : ∃ l : List D, callT ctx 79 [] [] = some (.ret (.d (.list l)), []) ∧ l.map sheetOf = kindsL.map some := by
  have h := sheets_n
  generalize hr : callN ctx 120 79 [] [] = r at h
  unfold sheetsOf at h
  split at h
  · rename_i l
    exact ⟨l, callT_of 120 hr, by simpa using h⟩
  · cases h
theorem sheet1_run (d : D) (k b : Int) (hd : sheetOf d = some k) : callT ctx 81 [.d d, .ptr 0 0 0] [.box [.d (.int .i64 b)]] = some (.ret (.d (.bool (decide (k = b)))), [(0, .box [.d (.int .i64 b)])]) := by
  obtain ⟨a, e, c, n, rfl⟩ := sheetOf_some hd
  rw [run81 (by simp)]
  simp [Tryd.f81]
theorem sheetIdx_loop (b : Int) : ∀ (rest pre : List D), (∀ d ∈ rest, ∃ k, sheetOf d = some k ∧ k ≠ b) → (pre ++ rest).length < 1000 → ∀ k : Kt,
    denK ctx 80 (.loop (Code.at (codeOf Tryd.f80) [1, 0, 1, 0, 0])) ⟨19, gl0, [(0, true, .d (.list (pre ++ rest))), (1, true, .fn 81 [.ptr 0 0 0]), (7, true, .d (.int .i64 (pre ++ rest).length)), (8, true, .d (.int .i64 pre.length))], [⟨0, 0, .box [.d (.int .i64 b)]⟩]⟩ k =
      k (.exit 0) ⟨19, gl0, [(0, true, .d (.list (pre ++ rest))), (1, true, .fn 81 [.ptr 0 0 0]), (7, true, .d (.int .i64 (pre ++ rest).length)), (8, true, .d (.int .i64 (pre ++ rest).length)), (9, true, .d (.bool false))], [⟨0, 0, .box [.d (.int .i64 b)]⟩]⟩
  | [], pre, h, hl, k => by
    rw [denK_loop]
    simp [Tryd.f80]
  | d :: rest, pre, h, hl, k => by
    obtain ⟨kd, hk, hne⟩ := h d (by simp)
    have hs := sheet1_run d kd b hk
    obtain ⟨a1, a2, a3, a4, rfl⟩ := sheetOf_some hk
    have ih := sheetIdx_loop b rest (pre ++ [.agg [.int .i64 kd, .str a1, .str a2, .str a3, .int .i64 a4]]) (fun d hd => h d (by simp [hd])) (by simpa using hl) k
    have h1 : (pre.length : Int) < pre.length + (rest.length + 1) := by omega
    have h2 : IntKind.i64.wrap ((pre.length : Int) + 1) = pre.length + 1 := wrap_id (by unfold I64; simp at hl; omega)
    simp [hne] at hs
    rw [denK_loop]
    simp [Tryd.f80] at ih ⊢
    simp [h1, h2, hs, ih]
theorem pins_none (b : Int) (hb : b ∉ kindsL) : callT ctx 38 [.d (.int .i64 b)] [] = some (.ret (.d (.list [])), []) := by
  obtain ⟨l, hl, hm⟩ := sheets_run
  have hlen : l.length = 21 := by have := congrArg List.length hm; simpa [kindsL] using this
  have hall : ∀ d ∈ l, ∃ k, sheetOf d = some k ∧ k ≠ b := by
    intro d hd
    have h1 : sheetOf d ∈ l.map sheetOf := List.mem_map_of_mem hd
    rw [hm] at h1
    obtain ⟨k, hk, he⟩ := List.mem_map.1 h1
    exact ⟨k, he.symm, fun h => hb (h ▸ hk)⟩
  have hloop := sheetIdx_loop b l [] hall (by simp; omega)
  have hidx : callT ctx 80 [.d (.list l), .fn 81 [.ptr 0 0 0]] [.box [.d (.int .i64 b)]] = some (.ret (.d (.int .i64 (-1))), [(0, .box [.d (.int .i64 b)])]) := by
    rw [run80 (by simp)]
    simp [Tryd.f80] at hloop ⊢
    simp [hloop]
  have hof : callT ctx 55 [.d (.int .i64 b)] [] = some (.ret (.tup [.d (.agg [.int .i64 0, .str [], .str [], .str [], .int .i64 0]), .d (.bool false)]), []) := by
    rw [run55 (by simp)]
    simp [Tryd.f55, hl, hidx]
  rw [run38 (by simp)]
  simp [Tryd.f38, hof]
theorem pins_ok : PinsOk 38 pinsN := by
  intro b
  by_cases hb : b ∈ kindsL
  · simp only [kindsL, List.mem_cons, List.not_mem_nil, or_false] at hb
    rcases hb with rfl | rfl | rfl | rfl | rfl | rfl | rfl | rfl | rfl | rfl | rfl | rfl | rfl | rfl | rfl | rfl | rfl | rfl | rfl | rfl | rfl
    · obtain ⟨l, h1, h2⟩ := pins_of pins10; exact ⟨l, h1, by rw [h2]; rfl, by decide⟩
    · obtain ⟨l, h1, h2⟩ := pins_of pins11; exact ⟨l, h1, by rw [h2]; rfl, by decide⟩
    · obtain ⟨l, h1, h2⟩ := pins_of pins12; exact ⟨l, h1, by rw [h2]; rfl, by decide⟩
    · obtain ⟨l, h1, h2⟩ := pins_of pins13; exact ⟨l, h1, by rw [h2]; rfl, by decide⟩
    · obtain ⟨l, h1, h2⟩ := pins_of pins14; exact ⟨l, h1, by rw [h2]; rfl, by decide⟩
    · obtain ⟨l, h1, h2⟩ := pins_of pins15; exact ⟨l, h1, by rw [h2]; rfl, by decide⟩
    · obtain ⟨l, h1, h2⟩ := pins_of pins16; exact ⟨l, h1, by rw [h2]; rfl, by decide⟩
    · obtain ⟨l, h1, h2⟩ := pins_of pins17; exact ⟨l, h1, by rw [h2]; rfl, by decide⟩
    · obtain ⟨l, h1, h2⟩ := pins_of pins18; exact ⟨l, h1, by rw [h2]; rfl, by decide⟩
    · obtain ⟨l, h1, h2⟩ := pins_of pins20; exact ⟨l, h1, by rw [h2]; rfl, by decide⟩
    · obtain ⟨l, h1, h2⟩ := pins_of pins21; exact ⟨l, h1, by rw [h2]; rfl, by decide⟩
    · obtain ⟨l, h1, h2⟩ := pins_of pins22; exact ⟨l, h1, by rw [h2]; rfl, by decide⟩
    · obtain ⟨l, h1, h2⟩ := pins_of pins23; exact ⟨l, h1, by rw [h2]; rfl, by decide⟩
    · obtain ⟨l, h1, h2⟩ := pins_of pins24; exact ⟨l, h1, by rw [h2]; rfl, by decide⟩
    · obtain ⟨l, h1, h2⟩ := pins_of pins25; exact ⟨l, h1, by rw [h2]; rfl, by decide⟩
    · obtain ⟨l, h1, h2⟩ := pins_of pins26; exact ⟨l, h1, by rw [h2]; rfl, by decide⟩
    · obtain ⟨l, h1, h2⟩ := pins_of pins27; exact ⟨l, h1, by rw [h2]; rfl, by decide⟩
    · obtain ⟨l, h1, h2⟩ := pins_of pins28; exact ⟨l, h1, by rw [h2]; rfl, by decide⟩
    · obtain ⟨l, h1, h2⟩ := pins_of pins29; exact ⟨l, h1, by rw [h2]; rfl, by decide⟩
    · obtain ⟨l, h1, h2⟩ := pins_of pins30; exact ⟨l, h1, by rw [h2]; rfl, by decide⟩
    · obtain ⟨l, h1, h2⟩ := pins_of pins31; exact ⟨l, h1, by rw [h2]; rfl, by decide⟩
  · refine ⟨[], pins_none b hb, ?_, ?_⟩
    · simp only [kindsL, List.mem_cons, List.not_mem_nil, or_false, not_or] at hb
      simp [pinsN, hb]
    · simp only [kindsL, List.mem_cons, List.not_mem_nil, or_false, not_or] at hb
      simp [pinsN, hb]
end Go.Am
end
section
namespace Go.Am
open Go Go.Proofs
set_option maxRecDepth 20000
theorem clone64_run (c : List Int) (hl : c.length ≤ 100000) : callT ctx 17 [.d (.list (c.map jD))] [] = some (.ret (.vec 0 0 0 c.length), [(0, .vec 1 (c.map jD))]) := by
  rw [run17 (by simp)]
  cases c with
  | nil => simp [Tryd.f17]
  | cons x r =>
    simp at hl
    have h2 : ((r.length : Int) + 1) * 8 ≤ 140737488355328 := by omega
    have h3 : (r.length + 1) * 8 ≤ 140737488355328 := by omega
    have h4 : r.length + 1 ≤ 4611686018427387904 := by omega
    simp [Tryd.f17, h3, h4]
theorem len3 {c : List Int} (h : c.length = 3) : ∃ a b q, c = [a, b, q] := by
  match c, h with
  | [a, b, q], _ => exact ⟨a, b, q, rfl⟩
theorem len4 {c : List Int} (h : c.length = 4) : ∃ a b q e, c = [a, b, q, e] := by
  match c, h with
  | [a, b, q, e], _ => exact ⟨a, b, q, e, rfl⟩
theorem len6 {c : List Int} (h : c.length = 6) : ∃ a b q e p r, c = [a, b, q, e, p, r] := by
  match c, h with
  | [a, b, q, e, p, r], _ => exact ⟨a, b, q, e, p, r, rfl⟩
theorem stepB_other {k : Int} (hk : k < 10 ∨ 18 < k) (c : List Int) : stepB k c = c := by
  unfold stepB
  split
  · unfold step3; simp only [show ¬ k = 15 by omega, show ¬ k = 16 by omega, show ¬ k = 17 by omega, show ¬ k = 18 by omega, if_false]
  · unfold step4; simp only [show ¬ k = 10 by omega, show ¬ k = 11 by omega, if_false]
  · unfold step6; simp only [show ¬ k = 12 by omega, show ¬ k = 13 by omega, show ¬ k = 14 by omega, if_false]
  · rfl
theorem step4_len (k a b q e : Int) : (step4 k a b q e).length = 4 := by unfold step4; (repeat' split) <;> rfl
theorem step6_len (k a b q e p r : Int) : (step6 k a b q e p r).length = 6 := by unfold step6 tpS cuS cdS; dsimp only; (repeat' split) <;> rfl
theorem step3_len (k a b q : Int) : (step3 k a b q).length = 3 := by unfold step3; (repeat' split) <;> rfl
theorem stepB_len (k : Int) (c : List Int) : (stepB k c).length = c.length := by
  unfold stepB
  split
  · exact step3_len ..
  · exact step4_len ..
  · exact step6_len ..
  · rfl
set_option maxHeartbeats 4000000 in
theorem step_run (k : Int) (c : List Int) (hc : c.length = pinsN k) (hI : ∀ x ∈ c, I64 x) : callT ctx 39 [.d (.int .i64 k), .d (.list (c.map jD))] [] = some (.ret (.vec 0 0 0 c.length), [(0, .vec 1 ((stepB k c).map jD))]) := by
  obtain ⟨pl, hp1, hp2, hp3⟩ := pins_ok k
  have hcl := clone64_run c (by omega)
  have ht := struth_run
  have hlen : (pl.length : Int) = c.length := by omega
  rw [run39 (by simp)]
  by_cases hk : k < 10 ∨ 18 < k
  · rw [stepB_other hk]
    try simp at hcl
    try simp at hp1
    simp [Tryd.f39, hcl, hp1, hlen, show ¬ k = 10 by omega, show ¬ k = 11 by omega, show ¬ k = 12 by omega, show ¬ k = 13 by omega, show ¬ k = 14 by omega, show ¬ k = 15 by omega, show ¬ k = 16 by omega, show ¬ k = 17 by omega, show ¬ k = 18 by omega, drwK_end]
  · have hk' : k = 10 ∨ k = 11 ∨ k = 12 ∨ k = 13 ∨ k = 14 ∨ k = 15 ∨ k = 16 ∨ k = 17 ∨ k = 18 := by omega
    clear hk
    have pin : (k = 10 ∨ k = 11 → pinsN k = 4) ∧ (k = 12 ∨ k = 13 ∨ k = 14 → pinsN k = 6) ∧ (k = 15 ∨ k = 16 ∨ k = 17 ∨ k = 18 → pinsN k = 3) := by
      refine ⟨?_, ?_, ?_⟩
      · rintro (rfl | rfl) <;> rfl
      · rintro (rfl | rfl | rfl) <;> rfl
      · rintro (rfl | rfl | rfl | rfl) <;> rfl
    obtain ⟨p4, p6, p3⟩ := pin
    rcases hk' with h | h | h | h | h | h | h | h | h
    · obtain ⟨a, b, q, e, rfl⟩ := len4 (hc.trans (p4 (by omega)))
      have := timer4_run k a b q e (.inl h) (hI _ (by simp)) (hI _ (by simp))
      subst h
      simp at hcl hp1 hlen
      simp [stepB]
      have hz := step4_len 10 a b q e
      generalize step4 10 a b q e = z at *
      have hzt : (z.map jD).take z.length = z.map jD := List.take_of_length_le (by simp)
      rw [hz] at hzt
      try simp at this
      simp [Tryd.f39, hcl, hp1, hlen, this, hz, hzt, drwK_end]
    · obtain ⟨a, b, q, e, rfl⟩ := len4 (hc.trans (p4 (by omega)))
      have := timer4_run k a b q e (.inr h) (hI _ (by simp)) (hI _ (by simp))
      subst h
      simp at hcl hp1 hlen
      simp [stepB]
      have hz := step4_len 11 a b q e
      generalize step4 11 a b q e = z at *
      have hzt : (z.map jD).take z.length = z.map jD := List.take_of_length_le (by simp)
      rw [hz] at hzt
      try simp at this
      simp [Tryd.f39, hcl, hp1, hlen, this, hz, hzt, drwK_end]
    · obtain ⟨a, b, q, e, p, r, rfl⟩ := len6 (hc.trans (p6 (by omega)))
      have := timer6_run a b q e p r (hI _ (by simp)) (hI _ (by simp))
      subst h
      simp at hcl hp1 hlen
      simp [stepB]
      have hz := step6_len 12 a b q e p r
      generalize step6 12 a b q e p r = z at *
      have hzt : (z.map jD).take z.length = z.map jD := List.take_of_length_le (by simp)
      rw [hz] at hzt
      try simp at this
      simp [Tryd.f39, hcl, hp1, hlen, this, hz, hzt, drwK_end]
    · obtain ⟨a, b, q, e, p, r, rfl⟩ := len6 (hc.trans (p6 (by omega)))
      have := counter_run k a b q e p r (.inl h) (hI _ (by simp))
      subst h
      simp at hcl hp1 hlen
      simp [stepB]
      have hz := step6_len 13 a b q e p r
      generalize step6 13 a b q e p r = z at *
      have hzt : (z.map jD).take z.length = z.map jD := List.take_of_length_le (by simp)
      rw [hz] at hzt
      try simp at this
      simp [Tryd.f39, hcl, hp1, hlen, this, hz, hzt, drwK_end]
    · obtain ⟨a, b, q, e, p, r, rfl⟩ := len6 (hc.trans (p6 (by omega)))
      have := counter_run k a b q e p r (.inr h) (hI _ (by simp))
      subst h
      simp at hcl hp1 hlen
      simp [stepB]
      have hz := step6_len 14 a b q e p r
      generalize step6 14 a b q e p r = z at *
      have hzt : (z.map jD).take z.length = z.map jD := List.take_of_length_le (by simp)
      rw [hz] at hzt
      try simp at this
      simp [Tryd.f39, hcl, hp1, hlen, this, hz, hzt, drwK_end]
    · obtain ⟨a, b, q, rfl⟩ := len3 (hc.trans (p3 (by omega)))
      subst h
      simp at hcl hp1 hlen
      clear hI hc p3 p4 p6 hp2 hp3
      rcases Decidable.em (a = 0) with rfl | ha <;> rcases Decidable.em (q = 0) with rfl | hq <;> simp [Tryd.f39, stepB, step3, drwK_end, bne, *]
    · obtain ⟨a, b, q, rfl⟩ := len3 (hc.trans (p3 (by omega)))
      subst h
      simp at hcl hp1 hlen
      clear hI hc p3 p4 p6 hp2 hp3
      rcases Decidable.em (a = 0) with rfl | ha <;> rcases Decidable.em (q = 0) with rfl | hq <;> simp [Tryd.f39, stepB, step3, drwK_end, bne, *]
    · obtain ⟨a, b, q, rfl⟩ := len3 (hc.trans (p3 (by omega)))
      subst h
      simp at hcl hp1 hlen
      clear hI hc p3 p4 p6 hp2 hp3
      rcases Decidable.em (a = 0) with rfl | ha <;> rcases Decidable.em (q = 0) with rfl | hq <;> rcases Decidable.em (b = 0) with rfl | hb <;> simp [Tryd.f39, stepB, step3, drwK_end, bne, *]
    · obtain ⟨a, b, q, rfl⟩ := len3 (hc.trans (p3 (by omega)))
      subst h
      simp at hcl hp1 hlen
      clear hI hc p3 p4 p6 hp2 hp3
      rcases Decidable.em (a = 0) with rfl | ha <;> rcases Decidable.em (q = 0) with rfl | hq <;> rcases Decidable.em (b = 0) with rfl | hb <;> simp [Tryd.f39, stepB, step3, drwK_end, bne, *]
end Go.Am
end
section
namespace Go.Am
open Go Go.Proofs
set_option maxRecDepth 20000
theorem foldOp1_run (op a : Int) (t : Bool) (ha : I64 a) : callT ctx 54 [.d (.int .i64 op), .d (.list [.int .i64 a]), .d (.bool t)] [] = some (.ret (opZ (op1 op a t)), []) := by
  rw [run54 (by simp)]
  by_cases hb : t = true ∧ a ≠ 0 ∧ a ≠ 1
  · obtain ⟨rfl, h0, h1⟩ := hb
    simp [Tryd.f54]
    rw [denK_loop]
    simp [h0, h1, op1, noOp]
  · have h1 := ofOne_run op a t ha (by intro h; subst h; simp at hb; omega)
    have hg : (t && (a != 0)) = true → a = 1 := by simp; intro h1 h2; simp [h1] at hb; exact hb h2
    generalize op1 op a t = p at *
    simp at h1
    cases t
    · simp [Tryd.f54]
      rw [denK_loop]
      simp
      rw [denK_loop]
      simp [h1]
    · have hg' : a = 0 ∨ a = 1 := by simp at hg; omega
      rcases hg' with rfl | rfl
      · simp [Tryd.f54]
        rw [denK_loop]
        simp
        rw [denK_loop]
        simp [h1]
      · simp [Tryd.f54]
        rw [denK_loop]
        simp
        rw [denK_loop]
        simp [h1]
theorem foldOp2_run (op a b : Int) (t : Bool) (ha : I64 a) (hb : I64 b) : callT ctx 54 [.d (.int .i64 op), .d (.list [.int .i64 a, .int .i64 b]), .d (.bool t)] [] = some (.ret (opZ (op2 op a b t)), []) := by
  rw [run54 (by simp)]
  have cmp := fun h => compared_run op a b h
  have rck := fun h => reckoned_run op a b h ha hb
  have tru := fun h1 h2 => ofTruths_run op a b h1 h2
  unfold op2
  cases t
  · have hno : ¬ (8 ≤ op ∧ op ≤ 12) → ¬ (13 ≤ op ∧ op ≤ 18) → opN op a b = noOp := by
      intro h1 h2
      unfold opN
      simp only [show ¬ op = 8 by omega, show ¬ op = 9 by omega, show ¬ op = 10 by omega, show ¬ op = 11 by omega, show ¬ op = 12 by omega, show ¬ op = 13 by omega, show ¬ op = 14 by omega, show ¬ op = 15 by omega, show ¬ op = 16 by omega, show ¬ op = 17 by omega, show ¬ op = 18 by omega, if_false]
    generalize opN op a b = p at *
    simp [Tryd.f54]
    rw [denK_loop]
    simp
    rw [denK_loop]
    simp
    rw [denK_loop]
    simp
    by_cases h1 : 8 ≤ op ∧ op ≤ 12
    · have r := rck h1
      simp at r
      simp [h1.1, h1.2, r, drwK_end]
    · by_cases h2 : 13 ≤ op ∧ op ≤ 18
      · have r := cmp h2
        have h3 : ¬ op ≤ 12 := by omega
        have h4 : 8 ≤ op := by omega
        simp at r
        simp [h2.1, h2.2, h3, h4, r, drwK_end]
      · have hp := hno h1 h2
        subst hp
        by_cases h5 : 8 ≤ op
        · have h6 : ¬ op ≤ 12 := by omega
          have h7 : 13 ≤ op := by omega
          have h8 : ¬ op ≤ 18 := by omega
          simp [h5, h6, h7, h8, noOp]
        · have h7 : ¬ 13 ≤ op := by omega
          simp [h5, h7, noOp]
  · by_cases h1 : a = 0 ∨ a = 1
    · by_cases h2 : b = 0 ∨ b = 1
      · have r := tru h1 h2
        generalize opT op a b = p at *
        rcases h1 with rfl | rfl <;> rcases h2 with rfl | rfl <;>
          (simp at r
           simp [Tryd.f54]
           rw [denK_loop]
           simp
           rw [denK_loop]
           simp
           rw [denK_loop]
           simp [r, drwK_end])
      · have h3 : ¬ b = 0 := by omega
        have h4 : ¬ b = 1 := by omega
        rcases h1 with rfl | rfl <;>
          (simp [Tryd.f54]
           rw [denK_loop]
           simp
           rw [denK_loop]
           simp [h3, h4, noOp])
    · have h3 : ¬ a = 0 := by omega
      have h4 : ¬ a = 1 := by omega
      simp [Tryd.f54]
      rw [denK_loop]
      simp [h3, h4, noOp]
end Go.Am
end
section
namespace Go.Am

def moveI (n : Int) (x : Ins) : Ins := if x.op = 9 ∨ x.op = 10 then { x with a := x.a + n } else x
theorem moveI_op (n : Int) (x : Ins) : (moveI n x).op = x.op := by unfold moveI; split <;> rfl
theorem moveI_n (n : Int) (x : Ins) : (moveI n x).n = x.n := by unfold moveI; split <;> rfl
theorem moveI_b (n : Int) (x : Ins) : (moveI n x).b = x.b := by unfold moveI; split <;> rfl
theorem moveI_else {n : Int} {x : Ins} (h : ¬ (x.op = 9 ∨ x.op = 10)) : moveI n x = x := by unfold moveI; rw [if_neg h]
theorem cell_mono {c c' a n : Int} (h : c ≤ c') (hc : cellB c a n = true) : cellB c' a n = true := by
  unfold cellB at *
  simp only [Bool.and_eq_true, decide_eq_true_eq] at *
  omega
theorem arr_mono {c c' : Int} {x : Ins} (h : c ≤ c') (hc : arrB c x = true) : arrB c' x = true := by
  unfold arrB at *
  simp only [Bool.and_eq_true] at *
  exact ⟨hc.1, cell_mono h hc.2⟩
theorem form_mono {pins : Int → Nat} {c c' last last' at_ at' : Int} {x : Ins} (h : c ≤ c') (hl : last ≤ last') (h15 : x.op = 15 → at' = last') (hf : formB pins c last at_ x = true) : formB pins c' last' at' x = true := by
  unfold formB at *
  by_cases e1 : x.op = 1 ∨ x.op = 11
  · rw [if_pos e1]
  rw [if_neg e1] at hf ⊢
  by_cases e2 : x.op = 2 ∨ x.op = 3 ∨ x.op = 6 ∨ x.op = 14
  · rw [if_pos e2] at hf ⊢; exact cell_mono h hf
  rw [if_neg e2] at hf ⊢
  by_cases e3 : x.op = 13
  · rw [if_pos e3] at hf ⊢
    simp only [Bool.and_eq_true] at *
    exact ⟨cell_mono h hf.1, cell_mono h hf.2⟩
  rw [if_neg e3] at hf ⊢
  by_cases e4 : x.op = 4 ∨ x.op = 5 ∨ x.op = 7
  · rw [if_pos e4] at hf ⊢; exact arr_mono h hf
  rw [if_neg e4] at hf ⊢
  by_cases e5 : x.op = 8
  · rw [if_pos e5] at hf ⊢; exact hf
  rw [if_neg e5] at hf ⊢
  by_cases e6 : x.op = 9 ∨ x.op = 10
  · rw [if_pos e6] at hf ⊢
    simp only [Bool.and_eq_true, decide_eq_true_eq] at *
    omega
  rw [if_neg e6] at hf ⊢
  by_cases e7 : x.op = 12
  · rw [if_pos e7] at hf ⊢
    simp only [Bool.and_eq_true] at *
    exact ⟨hf.1, cell_mono h hf.2⟩
  rw [if_neg e7] at hf ⊢
  by_cases e8 : x.op = 15
  · rw [if_pos e8]; simpa using h15 e8
  · rw [if_neg e8] at hf; cases hf
theorem form_move {pins : Int → Nat} {c last at_ n : Int} {x : Ins} (hn : 0 ≤ n) (hf : formB pins c last at_ x = true) : formB pins c (last + n) (at_ + n) (moveI n x) = true := by
  by_cases e6 : x.op = 9 ∨ x.op = 10
  · unfold formB at *
    rw [moveI_op]
    rcases e6 with e | e
    · simp [e] at hf ⊢
      simp [moveI, e]; omega
    · simp [e] at hf ⊢
      simp [moveI, e]; omega
  · rw [moveI_else e6]
    exact form_mono (Int.le_refl _) (by omega) (fun h15 => by
      unfold formB at hf
      simp [h15] at hf
      omega) hf
theorem forms_iff {pins : Int → Nat} {cells last : Int} : ∀ {ins : List Ins} {i0 : Nat}, formsB pins cells last i0 ins = true ↔ ∀ i x, ins[i]? = some x → formB pins cells last ((i0 + i : Nat) : Int) x = true
  | [], i0 => by simp [formsB]
  | y :: r, i0 => by
    constructor
    · intro h i x hx; exact forms_get h i x hx
    · intro h
      simp only [formsB, Bool.and_eq_true]
      refine ⟨by simpa using h 0 y rfl, forms_iff.2 (fun i x hx => ?_)⟩
      have := h (i + 1) x (by simpa using hx)
      rw [show i0 + 1 + i = i0 + (i + 1) by omega]
      exact this

/- The stack, run through. -/
def runS (led : List Bool) : Nat → List Ins → List Bool → Option (List Bool)
  | _, [], S => some S
  | i, x :: r, S => if led.getD i false && !S.isEmpty then none else (movesS x S).bind (runS led (i + 1) r)
theorem stack_run (led : List Bool) : ∀ (l : List Ins) (i : Nat) (S : List Bool), stackS led i l S = (runS led i l S).isSome
  | [], i, S => rfl
  | x :: r, i, S => by
    unfold stackS runS
    split
    · rfl
    · cases movesS x S with
      | none => rfl
      | some S' => exact stack_run led r (i + 1) S'
theorem run_append (led : List Bool) : ∀ (l1 l2 : List Ins) (i : Nat) (S : List Bool), runS led i (l1 ++ l2) S = (runS led i l1 S).bind (runS led (i + l1.length) l2)
  | [], l2, i, S => rfl
  | x :: r, l2, i, S => by
    simp only [List.cons_append, runS, List.length_cons]
    split
    · rfl
    · cases movesS x S with
      | none => rfl
      | some S' =>
        simp only [Option.bind_some]
        rw [run_append led r l2 (i + 1) S', show i + 1 + r.length = i + (r.length + 1) by omega]
theorem run_congr {led led' : List Bool} : ∀ (l : List Ins) (i : Nat) (S : List Bool), (∀ j, i ≤ j → j < i + l.length → led.getD j false = led'.getD j false) → runS led i l S = runS led' i l S
  | [], i, S, _ => rfl
  | x :: r, i, S, h => by
    simp only [runS]
    rw [h i (Nat.le_refl _) (by simp)]
    split
    · rfl
    · cases movesS x S with
      | none => rfl
      | some S' =>
        simp only [Option.bind_some]
        exact run_congr r (i + 1) S' (fun j h1 h2 => h j (by omega) (by simp; omega))
theorem moves_move (n : Int) (x : Ins) (S : List Bool) : movesS (moveI n x) S = movesS x S := by
  by_cases e : x.op = 9 ∨ x.op = 10
  · unfold movesS
    rw [moveI_op]
    rcases e with e | e <;> simp [e]
  · rw [moveI_else e]
theorem run_move {led led' : List Bool} (n : Int) (k : Nat) : ∀ (l : List Ins) (i : Nat) (S : List Bool), (∀ j, i ≤ j → 1 ≤ j → led'.getD (k + j) false = led.getD j false) → (i = 0 → S = []) →
    runS led' (k + i) (l.map (moveI n)) S = runS led i l S
  | [], i, S, _, _ => rfl
  | x :: r, i, S, h, h0 => by
    simp only [List.map_cons, runS, moves_move]
    have e : (led'.getD (k + i) false && !S.isEmpty) = (led.getD i false && !S.isEmpty) := by
      cases i with
      | zero => rw [h0 rfl]; simp
      | succ i => rw [h (i + 1) (Nat.le_refl _) (by omega)]
    rw [e]
    split
    · rfl
    · cases movesS x S with
      | none => rfl
      | some S' =>
        simp only [Option.bind_some]
        exact run_move n k r (i + 1) S' (fun j h1 h2 => h j (by omega) h2) (fun h => by omega)
def jumpTo (i : Nat) (x : Ins) : Bool := decide (x.op = 9 ∨ x.op = 10) && decide (x.a.toNat = i)
theorem led_get (i : Nat) : ∀ (l : List Ins) (T : List Bool), i < T.length →
    (l.foldl (fun l x => if x.op = 9 ∨ x.op = 10 then l.set x.a.toNat true else l) T).getD i false = (T.getD i false || l.any (jumpTo i))
  | [], T, h => by simp
  | x :: r, T, h => by
    simp only [List.foldl_cons, List.any_cons]
    by_cases e : x.op = 9 ∨ x.op = 10
    · rw [if_pos e, led_get i r _ (by simpa using h)]
      have : (T.set x.a.toNat true).getD i false = (T.getD i false || jumpTo i x) := by
        simp only [List.getD_eq_getElem?_getD, List.getElem?_set, jumpTo, e, decide_true, Bool.true_and]
        by_cases h2 : x.a.toNat = i
        · subst h2; simp [h]
        · simp [h2]
      rw [this, Bool.or_assoc]
    · rw [if_neg e, led_get i r _ h]
      simp [jumpTo, e]
theorem ledOf_get {ins : List Ins} {i : Nat} (h : i < ins.length) : (ledOf ins).getD i false = ins.any (jumpTo i) := by
  unfold ledOf
  rw [led_get i ins _ (by simpa using h)]
  simp [List.getD_eq_getElem?_getD, h]
theorem ledOf_out {ins : List Ins} {i : Nat} (h : ins.length ≤ i) : (ledOf ins).getD i false = false := by
  have hl : ∀ (l : List Ins) (T : List Bool), (l.foldl (fun l x => if x.op = 9 ∨ x.op = 10 then l.set x.a.toNat true else l) T).length = T.length := by
    intro l
    induction l with
    | nil => intro T; rfl
    | cons x r ih => intro T; simp only [List.foldl_cons]; rw [ih]; split <;> simp
  have : (ledOf ins).length = ins.length := by unfold ledOf; rw [hl]; simp
  simp [List.getD_eq_getElem?_getD, List.getElem?_eq_none (by omega : (ledOf ins).length ≤ i)]
end Go.Am
end
section
namespace Go.Am
/- Ranks. -/
def Bd (succ : Nat → List Nat) : Nat → Nat → Prop
  | 0, i => succ i = []
  | h + 1, i => ∀ j ∈ succ i, Bd succ h j
theorem Bd.succ {succ : Nat → List Nat} : ∀ {h i : Nat}, Bd succ h i → Bd succ (h + 1) i
  | 0, i, hb => fun j hj => by rw [show succ i = [] from hb] at hj; simp at hj
  | h + 1, i, hb => fun j hj => (hb j hj).succ
theorem Bd.le {succ : Nat → List Nat} {h h' i : Nat} (hb : Bd succ h i) (hl : h ≤ h') : Bd succ h' i := by
  induction hl with
  | refl => exact hb
  | step _ ih => exact ih.succ
theorem bd_list {succ : Nat → List Nat} : ∀ (l : List Nat), (∀ j ∈ l, ∃ h, Bd succ h j) → ∃ h, ∀ j ∈ l, Bd succ h j
  | [], _ => ⟨0, fun j h => by simp at h⟩
  | x :: r, h => by
    obtain ⟨h1, k1⟩ := h x (by simp)
    obtain ⟨h2, k2⟩ := bd_list r (fun j hj => h j (by simp [hj]))
    refine ⟨max h1 h2, fun j hj => ?_⟩
    rcases List.mem_cons.1 hj with rfl | hj
    · exact k1.le (by omega)
    · exact (k2 j hj).le (by omega)
theorem ends_bd {succ : Nat → List Nat} {i : Nat} (h : Ends succ i) : ∃ h, Bd succ h i := by
  induction h with
  | mk i _ ih =>
    obtain ⟨h, hb⟩ := bd_list (succ i) ih
    exact ⟨h + 1, hb⟩
theorem least {P : Nat → Prop} (h : ∃ n, P n) : ∃ n, P n ∧ ∀ m, m < n → ¬ P m := by
  obtain ⟨n, hn⟩ := h
  induction n using Nat.strongRecOn with
  | ind n ih =>
    by_cases hm : ∃ m, m < n ∧ P m
    · obtain ⟨m, h1, h2⟩ := hm
      exact ih m h1 h2
    · exact ⟨n, hn, fun m h1 h2 => hm ⟨m, h1, h2⟩⟩
theorem ranked {succ : Nat → List Nat} : ∃ r : Nat → Nat, ∀ i, Ends succ i → ∀ j ∈ succ i, r j < r i := by
  classical
  let r : Nat → Nat := fun i => if h : ∃ n, Bd succ n i then Classical.choose (least h) else 0
  refine ⟨r, fun i hi j hj => ?_⟩
  have hi2 := ends_bd hi
  have hj2 : ∃ n, Bd succ n j := ends_bd (by cases hi with | mk _ h => exact h j hj)
  have hir : r i = Classical.choose (least hi2) := dif_pos hi2
  have hjr : r j = Classical.choose (least hj2) := dif_pos hj2
  obtain ⟨a1, a2⟩ := Classical.choose_spec (least hi2)
  obtain ⟨b1, b2⟩ := Classical.choose_spec (least hj2)
  rw [← hir] at a1 a2
  rw [← hjr] at b1 b2
  cases hri : r i with
  | zero =>
    rw [hri] at a1
    rw [show succ i = [] from a1] at hj
    simp at hj
  | succ n =>
    rw [hri] at a1
    have h3 : Bd succ n j := a1 j hj
    exact Classical.byContradiction fun hn => b2 n (by omega) h3
theorem ends_of_rank {succ : Nat → List Nat} {N : Nat} {r : Nat → Nat} (h : ∀ i < N, ∀ j ∈ succ i, j < N ∧ r j < r i) : ∀ i < N, Ends succ i := by
  have key : ∀ (m i : Nat), r i < m → i < N → Ends succ i := by
    intro m
    induction m with
    | zero => intro i hi; omega
    | succ m ih =>
      intro i hi hN
      exact .mk i (fun j hj => ih j (by have := (h i hN j hj).2; omega) (h i hN j hj).1)
  exact fun i hi => key _ i (Nat.lt_succ_self _) hi

def isJ (x : Ins) : Prop := x.op = 9 ∨ x.op = 10
instance (x : Ins) : Decidable (isJ x) := inferInstanceAs (Decidable (_ ∨ _))
/-- Code that can be run: ranks of its instructions, the stack ahead of each. -/
structure Good (pins : Int → Nat) (cells : Int) (l : List Ins) (r : Nat → Nat) (st : Nat → List Bool) : Prop where
  len : 1 ≤ l.length ∧ l.length ≤ 4096
  last : ∀ x, l[l.length - 1]? = some x → x.op = 15
  form : ∀ (i : Nat) x, l[i]? = some x → formB pins cells ((l.length : Int) - 1) i x = true
  st0 : st 0 = []
  mv : ∀ (i : Nat) x, l[i]? = some x → movesS x (st i) = some (st (i + 1))
  led : ∀ (i : Nat) x, l[i]? = some x → isJ x → st x.a.toNat = []
  rank : ∀ (i : Nat) x, l[i]? = some x → x.op ≠ 11 → ∀ j ∈ nextI l i, r j < r i
theorem Good.tgt {pins cells l r st} (h : Good pins cells l r st) {i : Nat} {x : Ins} (hx : l[i]? = some x) (hj : isJ x) : 0 ≤ x.a ∧ x.a.toNat < l.length := by
  have := h.form i x hx
  unfold formB at this
  have h1 := h.len.1
  rcases hj with e | e
  · simp [e] at this; omega
  · simp [e] at this; omega
theorem Good.fifteen {pins cells l r st} (h : Good pins cells l r st) {i : Nat} {x : Ins} (hx : l[i]? = some x) : x.op = 15 ↔ i + 1 = l.length := by
  constructor
  · intro e
    have := h.form i x hx
    unfold formB at this
    simp [e] at this
    have := h.len.1
    omega
  · intro e
    exact h.last x (by rw [show l.length - 1 = i by omega]; exact hx)
theorem stack_st (led : List Bool) : ∀ (l : List Ins) (i : Nat) (S : List Bool), stackS led i l S = true → ∃ st : Nat → List Bool, st i = S ∧ ∀ k x, l[k]? = some x → (led.getD (i + k) false = true → st (i + k) = []) ∧ movesS x (st (i + k)) = some (st (i + k + 1))
  | [], i, S, _ => ⟨fun _ => S, rfl, fun k x h => by simp at h⟩
  | x :: r, i, S, h => by
    unfold stackS at h
    split at h
    · cases h
    · rename_i hl
      cases hm : movesS x S with
      | none => rw [hm] at h; cases h
      | some S' =>
        rw [hm] at h
        obtain ⟨st, h1, h2⟩ := stack_st led r (i + 1) S' h
        refine ⟨fun k => if k = i then S else st k, by simp, fun k y hy => ?_⟩
        cases k with
        | zero =>
          simp at hy
          subst hy
          simp only [Nat.add_zero, if_true]
          refine ⟨fun hled => ?_, by rw [if_neg (by omega), h1]; exact hm⟩
          rw [hled] at hl
          simpa using hl
        | succ k =>
          have := h2 k y (by simpa using hy)
          simp only [show ¬ (i + (k + 1) = i) by omega, show ¬ (i + (k + 1) + 1 = i) by omega, if_false]
          rw [show i + 1 + k = i + (k + 1) by omega] at this
          exact this
theorem st_stack (led : List Bool) (st : Nat → List Bool) : ∀ (l : List Ins) (i : Nat), (∀ k x, l[k]? = some x → (led.getD (i + k) false = true → st (i + k) = []) ∧ movesS x (st (i + k)) = some (st (i + k + 1))) → stackS led i l (st i) = true
  | [], i, _ => rfl
  | x :: r, i, h => by
    have h0 := h 0 x rfl
    simp only [Nat.add_zero] at h0
    unfold stackS
    rw [if_neg, h0.2]
    · exact st_stack led st r (i + 1) (fun k y hy => by
        have := h (k + 1) y (by simpa using hy)
        rw [show i + (k + 1) = i + 1 + k by omega] at this
        exact this)
    · intro hc
      simp only [Bool.and_eq_true, Bool.not_eq_true', List.isEmpty_eq_false_iff] at hc
      exact hc.2 (h0.1 hc.1)
theorem good_of {pins : Int → Nat} {l : List Ins} {vars cells : Int} (h : okCode pins l vars cells = true) : (0 ≤ cells ∧ cells ≤ 8192 ∧ 0 ≤ vars ∧ vars ≤ cells) ∧ ∃ r st, Good pins cells l r st := by
  simp only [okCode, Bool.and_eq_true] at h
  obtain ⟨⟨h1, h2⟩, h3⟩ := h
  have h1' := h1
  simp only [okForms, headB, Bool.and_eq_true, decide_eq_true_eq] at h1
  obtain ⟨⟨⟨⟨⟨⟨⟨a1, a2⟩, a3⟩, a4⟩, a5⟩, a6⟩, a7⟩, a8⟩ := h1
  refine ⟨⟨a3, a4, a5, a6⟩, ?_⟩
  obtain ⟨r, hr⟩ := ranked (succ := succI l)
  obtain ⟨st, s0, hs⟩ := stack_st _ _ _ _ h2
  have hends : ∀ i < l.length, Ends (succI l) i := by
    intro i hi
    exact Classical.byContradiction fun hn => by
      have := (round_iff h1').2 ⟨i, hi, hn⟩
      rw [this] at h3
      cases h3
  refine ⟨r, st, ⟨by omega, by omega⟩, fun x hx => ?_, fun i x hx => ?_, s0, fun i x hx => ?_, fun i x hx hj => ?_, fun i x hx hne j hj => ?_⟩
  · unfold lastOp at a7
    rw [List.getLast?_eq_getElem?, hx] at a7
    simpa using a7
  · have := forms_get a8 i x hx
    simpa using this
  · have := (hs i x hx).2
    simpa using this
  · have hf := forms_get a8 i x hx
    have hi := (List.getElem?_eq_some_iff.1 hx).1
    have hlt : x.a.toNat < l.length := by
      unfold formB at hf
      rcases hj with e | e
      · simp [e] at hf; omega
      · simp [e] at hf; omega
    have hled := ledOf_get hlt
    have : l.any (jumpTo x.a.toNat) = true := by
      rw [List.any_eq_true]
      refine ⟨x, List.mem_of_getElem? hx, ?_⟩
      unfold jumpTo
      have : (x.op = 9 ∨ x.op = 10) := hj
      simp [this]
    rw [this] at hled
    obtain ⟨y, hy⟩ : ∃ y, l[x.a.toNat]? = some y := ⟨_, List.getElem?_eq_getElem hlt⟩
    have := (hs _ y hy).1
    simp only [Nat.zero_add] at this
    exact this hled
  · have hi := (List.getElem?_eq_some_iff.1 hx).1
    refine hr i (hends i hi) j ?_
    unfold succI
    rw [if_neg]
    · exact hj
    · unfold tickAt
      rw [hx]
      simpa using hne
theorem nextI_in {pins cells l r st} (h : Good pins cells l r st) {i j : Nat} (hi : i < l.length) (hj : j ∈ nextI l i) : j < l.length := by
  have hx : l[i]? = some l[i] := by simp [hi]
  unfold nextI at hj
  rw [hx] at hj
  simp only at hj
  have h15 := h.fifteen hx
  by_cases e9 : l[i].op = 9
  · have := h.tgt hx (.inl e9)
    simp [e9] at hj
    omega
  · by_cases e10 : l[i].op = 10
    · have := h.tgt hx (.inr e10)
      simp [e10] at hj
      omega
    · by_cases e15 : l[i].op = 15
      · simp [e15] at hj
      · simp [e9, e10, e15] at hj
        have : ¬ (i + 1 = l.length) := fun h => e15 (h15.2 h)
        omega
theorem ok_of {pins : Int → Nat} {l : List Ins} {vars cells : Int} {r : Nat → Nat} {st : Nat → List Bool} (hv : 0 ≤ cells ∧ cells ≤ 8192 ∧ 0 ≤ vars ∧ vars ≤ cells) (h : Good pins cells l r st) : okCode pins l vars cells = true := by
  have hf : okForms pins l vars cells = true := by
    simp only [okForms, headB, Bool.and_eq_true, decide_eq_true_eq]
    have h1 := h.len
    refine ⟨⟨⟨⟨⟨⟨⟨by omega, by omega⟩, by omega⟩, by omega⟩, by omega⟩, by omega⟩, ?_⟩, forms_iff.2 (fun i x hx => by simpa using h.form i x hx)⟩
    unfold lastOp
    rw [List.getLast?_eq_getElem?, List.getElem?_eq_getElem (by omega)]
    have := h.last l[l.length - 1] (by rw [List.getElem?_eq_getElem (by omega)])
    simpa using this
  have hs : stackS (ledOf l) 0 l [] = true := by
    have := st_stack (ledOf l) st l 0 (fun k x hx => by
      refine ⟨fun hled => ?_, by simpa using h.mv k x hx⟩
      simp only [Nat.zero_add] at hled ⊢
      have hk := (List.getElem?_eq_some_iff.1 hx).1
      rw [ledOf_get hk, List.any_eq_true] at hled
      obtain ⟨y, hy, hyj⟩ := hled
      unfold jumpTo at hyj
      simp only [Bool.and_eq_true, decide_eq_true_eq] at hyj
      obtain ⟨i, hi, rfl⟩ := List.getElem_of_mem hy
      have := h.led i l[i] (by simp [hi]) hyj.1
      rw [hyj.2] at this
      exact this)
    rw [h.st0] at this
    exact this
  have hr : rounds (succP l) (l.length + 1) (List.range l.length) (List.replicate l.length 0) = false := by
    cases hq : rounds (succP l) (l.length + 1) (List.range l.length) (List.replicate l.length 0) with
    | false => rfl
    | true =>
      obtain ⟨i, hi, hn⟩ := (round_iff hf).1 hq
      refine absurd (ends_of_rank (N := l.length) (r := r) (fun i hi j hj => ?_) i hi) hn
      unfold succI at hj
      split at hj
      · simp at hj
      · rename_i ht
        refine ⟨nextI_in h hi hj, h.rank i l[i] (by simp [hi]) (fun e => ht ?_) j hj⟩
        unfold tickAt
        rw [List.getElem?_eq_getElem hi]
        simpa using e
  unfold okCode
  rw [hf, hs, hr]
  rfl
end Go.Am
end
section
namespace Go.Am
open Go Go.Proofs
set_option maxRecDepth 20000
@[simp] def iA (n : Int) : AV := .d (.int .i64 n)
/-- The program's machine: its code, its cells, what is on the stack (and behind it), how high that is, the place, the fuel, the fault. -/
def mB (I : AV) (vr cl : Int) (cv : AV) (S G : List Int) (h a f x : Int) : List AV :=
  I :: .d (.int .i64 vr) :: .d (.int .i64 cl) :: cv :: ((S ++ G).map iA ++ [.d (.int .i64 h), .d (.int .i64 a), .d (.int .i64 f), .d (.int .i64 x)])
section
variable {I : AV} {vr cl : Int} {cv : AV} {S G : List Int} {h a f x : Int}
theorem mB_len (hs : S.length + G.length = 64) : (mB I vr cl cv S G h a f x).length = 72 := by simp [mB]; omega
theorem mB_0 : (mB I vr cl cv S G h a f x)[0]? = some I := rfl
theorem mB_1 : (mB I vr cl cv S G h a f x)[1]? = some (.d (.int .i64 vr)) := rfl
theorem mB_2 : (mB I vr cl cv S G h a f x)[2]? = some (.d (.int .i64 cl)) := rfl
theorem mB_3 : (mB I vr cl cv S G h a f x)[3]? = some cv := rfl
theorem mB_get (hs : S.length + G.length = 64) (k : Nat) (hk : 68 ≤ k) : (mB I vr cl cv S G h a f x)[k]? = [AV.d (.int .i64 h), .d (.int .i64 a), .d (.int .i64 f), .d (.int .i64 x)][k - 68]? := by
  obtain ⟨j, rfl⟩ : ∃ j, k = 68 + j := ⟨k - 68, by omega⟩
  have e : 68 + j = (64 + j) + 1 + 1 + 1 + 1 := by omega
  rw [mB, e]
  simp only [List.getElem?_cons_succ]
  rw [List.getElem?_append_right (by simp; omega)]
  congr 1
  simp; omega
theorem mB_68 (hs : S.length + G.length = 64) : (mB I vr cl cv S G h a f x)[68]? = some (.d (.int .i64 h)) := by rw [mB_get hs 68 (by omega)]; rfl
theorem mB_69 (hs : S.length + G.length = 64) : (mB I vr cl cv S G h a f x)[69]? = some (.d (.int .i64 a)) := by rw [mB_get hs 69 (by omega)]; rfl
theorem mB_70 (hs : S.length + G.length = 64) : (mB I vr cl cv S G h a f x)[70]? = some (.d (.int .i64 f)) := by rw [mB_get hs 70 (by omega)]; rfl
theorem mB_71 (hs : S.length + G.length = 64) : (mB I vr cl cv S G h a f x)[71]? = some (.d (.int .i64 x)) := by rw [mB_get hs 71 (by omega)]; rfl
theorem mB_stk (k : Nat) (hk : k < (S ++ G).length) : (mB I vr cl cv S G h a f x)[4 + k]? = some (.d (.int .i64 (S ++ G)[k])) := by
  rw [mB, show 4 + k = k + 1 + 1 + 1 + 1 by omega]
  simp only [List.getElem?_cons_succ]
  rw [List.getElem?_append_left (by simpa using hk), List.getElem?_map, List.getElem?_eq_getElem hk]
  rfl
theorem gE {l : List AV} {k : Nat} {y : AV} (h : l[k]? = some y) (hk : k < l.length) : l[k] = y := by
  rw [List.getElem?_eq_getElem hk] at h
  exact Option.some.inj h
theorem mB_g0 (hk) : (mB I vr cl cv S G h a f x)[0]'hk = I := rfl
theorem mB_g1 (hk) : (mB I vr cl cv S G h a f x)[1]'hk = .d (.int .i64 vr) := rfl
theorem mB_g2 (hk) : (mB I vr cl cv S G h a f x)[2]'hk = .d (.int .i64 cl) := rfl
theorem mB_g3 (hk) : (mB I vr cl cv S G h a f x)[3]'hk = cv := rfl
theorem mB_g68 (hs : S.length + G.length = 64) (hk) : (mB I vr cl cv S G h a f x)[68]'hk = .d (.int .i64 h) := gE (mB_68 hs) hk
theorem mB_g69 (hs : S.length + G.length = 64) (hk) : (mB I vr cl cv S G h a f x)[69]'hk = .d (.int .i64 a) := gE (mB_69 hs) hk
theorem mB_g70 (hs : S.length + G.length = 64) (hk) : (mB I vr cl cv S G h a f x)[70]'hk = .d (.int .i64 f) := gE (mB_70 hs) hk
theorem mB_g71 (hs : S.length + G.length = 64) (hk) : (mB I vr cl cv S G h a f x)[71]'hk = .d (.int .i64 x) := gE (mB_71 hs) hk
theorem mB_set3 (y : AV) : (mB I vr cl cv S G h a f x).set 3 y = mB I vr cl y S G h a f x := rfl
theorem mB_setK (hs : S.length + G.length = 64) (k : Nat) (y : AV) : (mB I vr cl cv S G h a f x).set (68 + k) y = I :: .d (.int .i64 vr) :: .d (.int .i64 cl) :: cv :: ((S ++ G).map iA ++ [AV.d (.int .i64 h), .d (.int .i64 a), .d (.int .i64 f), .d (.int .i64 x)].set k y) := by
  rw [mB, show 68 + k = (64 + k) + 1 + 1 + 1 + 1 by omega]
  simp only [List.set_cons_succ]
  rw [List.set_append_right _ _ (by simp; omega)]
  congr 6
  simp; omega
theorem mB_set68 (hs : S.length + G.length = 64) (n : Int) : (mB I vr cl cv S G h a f x).set 68 (.d (.int .i64 n)) = mB I vr cl cv S G n a f x := mB_setK hs 0 _
theorem mB_set69 (hs : S.length + G.length = 64) (n : Int) : (mB I vr cl cv S G h a f x).set 69 (.d (.int .i64 n)) = mB I vr cl cv S G h n f x := mB_setK hs 1 _
theorem mB_set70 (hs : S.length + G.length = 64) (n : Int) : (mB I vr cl cv S G h a f x).set 70 (.d (.int .i64 n)) = mB I vr cl cv S G h a n x := mB_setK hs 2 _
theorem mB_set71 (hs : S.length + G.length = 64) (n : Int) : (mB I vr cl cv S G h a f x).set 71 (.d (.int .i64 n)) = mB I vr cl cv S G h a f n := mB_setK hs 3 _
theorem mB_push (g n : Int) : (mB I vr cl cv S (g :: G) h a f x).set (4 + S.length) (.d (.int .i64 n)) = mB I vr cl cv (S ++ [n]) G h a f x := by
  rw [mB, show 4 + S.length = S.length + 1 + 1 + 1 + 1 by omega]
  simp only [List.set_cons_succ]
  rw [List.set_append_left _ _ (by simp)]
  simp [mB]
theorem mB_top (n : Int) : (mB I vr cl cv (S ++ [n]) G h a f x)[4 + S.length]? = some (.d (.int .i64 n)) := by
  rw [mB_stk _ (by simp)]
  simp
theorem mB_gtop (n : Int) (hk) : (mB I vr cl cv (S ++ [n]) G h a f x)[4 + S.length]'hk = .d (.int .i64 n) := gE (mB_top n) hk
theorem mB_gtop2 (n : Int) (hk) : (mB I vr cl cv S (n :: G) h a f x)[4 + S.length]'hk = .d (.int .i64 n) := gE (by rw [mB_stk _ (by simp)]; simp) hk
theorem mB_pop (n : Int) : mB I vr cl cv (S ++ [n]) G h a f x = mB I vr cl cv S (n :: G) h a f x := by simp [mB]
theorem avsKeys_map (L : List Int) (r : List AV) : avsKeys (L.map iA ++ r) = avsKeys r := by
  induction L with
  | nil => rfl
  | cons x t ih => simpa [avsKeys, avKeys, iA] using ih
theorem mB_keys (i : D) : avsKeys (mB (.d i) vr cl cv S G h a f x) = avKeys cv := by
  simp only [mB, avsKeys, avKeys, avsKeys_map, List.nil_append]
  simp
theorem vws_map (m : Mem) (ρ : List Nat) (bor : Nat → Bool) (nv : Nat → Nat → Nat) (L : List Int) (r : List AV) : vws m ρ bor nv (L.map iA ++ r) = L.map iA ++ vws m ρ bor nv r := by
  induction L with
  | nil => rfl
  | cons x t ih => simpa [vws, vw, iA] using ih
theorem mB_vws (m : Mem) (ρ : List Nat) (bor : Nat → Bool) (nv : Nat → Nat → Nat) (i : D) : vws m ρ bor nv (mB (.d i) vr cl cv S G h a f x) = mB (.d i) vr cl (vw m ρ bor nv cv) S G h a f x := by
  simp only [mB, vws, vw, vws_map]
theorem ups_map (ρ bs : List Nat) (L : List Int) (r : List AV) : ups ρ bs (L.map iA ++ r) = L.map iA ++ ups ρ bs r := by
  induction L with
  | nil => rfl
  | cons x t ih => simpa [ups, up, iA] using ih
theorem mB_ups (ρ bs : List Nat) (i : D) : ups ρ bs (mB (.d i) vr cl cv S G h a f x) = mB (.d i) vr cl (up ρ bs cv) S G h a f x := by
  simp only [mB, ups, up, ups_map]
end
theorem push_run (i : D) (vr cl : Int) (C S G : List Int) (g a f x n : Int) (hs : S.length + (G.length + 1) = 64) :
    callT ctx 33 [.ptr 0 0 0, .d (.int .i64 n)] [.box (mB (.d i) vr cl (.vec 1 0 0 C.length) S (g :: G) S.length a f x), .vec 1 (C.map jD)] =
      some (.ret (.tup []), [(0, .box (mB (.d i) vr cl (.vec 1 0 0 C.length) (S ++ [n]) G ((S ++ [n]).length : Nat) a f x)), (0, .vec 1 (C.map jD))]) := by
  have h1 : S.length + (g :: G).length = 64 := by simpa using hs
  have h2 : (S ++ [n]).length + G.length = 64 := by simp; omega
  have hl : S.length < 64 := by omega
  have h5 : 4 + S.length ≤ 71 := by omega
  have w1 : IntKind.i64.wrap ((S.length : Int) + 1) = (S.length : Int) + 1 := wrap_id (by unfold I64; omega)
  rw [run33 (by simp)]
  simp [Tryd.f33, drwK_end, mB_len h1, mB_g68 h1, mB_push, mB_len h2, mB_g68 h2, mB_set68 h2, mB_keys, mB_vws, mB_ups, hl, h5, w1]
theorem pop_run (i : D) (vr cl : Int) (C S G : List Int) (a f x n : Int) (hs : S.length + (G.length + 1) = 64) :
    callT ctx 36 [.ptr 0 0 0] [.box (mB (.d i) vr cl (.vec 1 0 0 C.length) (S ++ [n]) G ((S ++ [n]).length : Nat) a f x), .vec 1 (C.map jD)] =
      some (.ret (.d (.int .i64 n)), [(0, .box (mB (.d i) vr cl (.vec 1 0 0 C.length) S (n :: G) S.length a f x)), (0, .vec 1 (C.map jD))]) := by
  have h1 : S.length + (n :: G).length = 64 := by simpa using hs
  have hl : S.length < 64 := by omega
  have h5 : 4 + S.length < 72 := by omega
  have w1 : IntKind.i64.wrap (S.length : Int) = (S.length : Int) := wrap_id (by unfold I64; omega)
  rw [run36 (by simp), mB_pop]
  simp [Tryd.f36, drwK_end, mB_len h1, mB_g68 h1, mB_set68 h1, mB_gtop2, mB_keys, mB_vws, mB_ups, hl, h5, w1]
theorem truth_run (b : Bool) : callT ctx 34 [.d (.bool b)] [] = some (.ret (.d (.int .i64 (if b = true then 1 else 0))), []) := by
  rw [run34 (by simp)]
  cases b <;> simp [Tryd.f34]
/-- A place in an array: what is read, and the fault. -/
def inArr (x : Ins) (n : Int) : Bool := decide (x.n ≤ n) && decide (n ≤ x.m)
theorem place_run (i : D) (vr cl : Int) (C S G : List Int) (h a f x0 : Int) (x : Ins) (n : Int) (hs : S.length + G.length = 64) (hx : 0 ≤ x.n ∧ x.m ≤ 255 ∧ 0 ≤ x.a ∧ x.a ≤ 8192) :
    callT ctx 35 [.ptr 0 0 0, .d (insD x), .d (.int .i64 n)] [.box (mB (.d i) vr cl (.vec 1 0 0 C.length) S G h a f x0), .vec 1 (C.map jD)] =
      some (if inArr x n = true then .ret (.tup [.d (.int .i64 (x.a + (n - x.n))), .d (.bool true)]) else .ret (.tup [.d (.int .i64 0), .d (.bool false)]),
        [(0, .box (mB (.d i) vr cl (.vec 1 0 0 C.length) S G h a f (if inArr x n = true then x0 else 3))), (0, .vec 1 (C.map jD))]) := by
  rw [run35 (by simp)]
  unfold inArr
  by_cases h1 : x.n ≤ n
  · by_cases h2 : n ≤ x.m
    · have w1 : IntKind.i64.wrap (n - x.n) = n - x.n := wrap_id (by unfold I64; omega)
      have w2 : IntKind.i64.wrap (x.a + (n - x.n)) = x.a + (n - x.n) := wrap_id (by unfold I64; omega)
      have n1 : ¬ n < x.n := by omega
      have n2 : ¬ x.m < n := by omega
      simp [Tryd.f35, drwK_end, mB_len hs, mB_g71 hs, mB_set71 hs, mB_keys, mB_vws, mB_ups, h1, h2, n1, n2, w1, w2]
    · have n1 : ¬ n < x.n := by omega
      have n2 : x.m < n := by omega
      simp [Tryd.f35, drwK_end, mB_len hs, mB_g71 hs, mB_set71 hs, mB_keys, mB_vws, mB_ups, h1, h2, n1, n2]
  · have n1 : n < x.n := by omega
    simp [Tryd.f35, drwK_end, mB_len hs, mB_g71 hs, mB_set71 hs, mB_keys, mB_vws, mB_ups, h1, n1]
def atI (C : List Int) (k : Int) : Int := C[k.toNat]?.getD 0
theorem cellAt {C : List Int} {k : Int} (h : k.toNat < C.length) : C[k.toNat] = atI C k := by unfold atI; rw [List.getElem?_eq_getElem h]; rfl
def upToS (C : List Int) (x : Ins) : Bool := decide (0 ≤ atI C (x.b + 1) ∧ atI C x.a ≤ atI C x.b) || decide (atI C (x.b + 1) < 0 ∧ atI C x.b ≤ atI C x.a)
theorem upTo_run (i : D) (vr cl : Int) (C S G : List Int) (h a f x0 : Int) (x : Ins) (hs : S.length + G.length = 64) (hx : 0 ≤ x.a ∧ x.a.toNat < C.length ∧ 0 ≤ x.b ∧ x.b.toNat + 1 < C.length ∧ C.length ≤ 8192) :
    callT ctx 40 [.ptr 0 0 0, .d (insD x)] [.box (mB (.d i) vr cl (.vec 1 0 0 C.length) S G h a f x0), .vec 1 (C.map jD)] =
      some (.ret (.d (.bool (upToS C x))), [(0, .box (mB (.d i) vr cl (.vec 1 0 0 C.length) S G h a f x0)), (0, .vec 1 (C.map jD))]) := by
  obtain ⟨a1, a2, b1, b2, hc⟩ := hx
  have w1 : IntKind.i64.wrap (x.b + 1) = x.b + 1 := wrap_id (by unfold I64; omega)
  have b3 : (x.b + 1).toNat < C.length := by omega
  have b4 : 0 ≤ x.b + 1 := by omega
  have b5 : x.b.toNat < C.length := by omega
  rw [run40 (by simp)]
  simp [Tryd.f40, drwK_end, mB_len hs, mB_g3, mB_keys, mB_vws, mB_ups, a1, a2, b1, b3, b4, b5, w1, cellAt]
  unfold upToS
  grind
end Go.Am
end
section
namespace Go.Am
open Go Go.Proofs
/-- A state of a run. -/
structure Ms where
  cells : List Int
  stk : List Int
  at_ : Int
  fuel : Int
  fault : Int
def Ms.pop (s : Ms) : Ms := { s with stk := s.stk.dropLast }
def Ms.push (s : Ms) (n : Int) : Ms := { s with stk := s.stk ++ [n] }
def Ms.top (s : Ms) : Int := s.stk.getLast?.getD 0
def setI (C : List Int) (k n : Int) : List Int := C.set k.toNat n
/-- An instruction of those that move cells. -/
def moveF (x : Ins) (s : Ms) : Option Ms :=
  if x.op = 1 then some (s.push x.n)
  else if x.op = 2 then some (s.push (atI s.cells x.a))
  else if x.op = 3 then some (s.push (oneZ (decide (atI s.cells x.a ≠ 0))))
  else if x.op = 4 ∨ x.op = 5 then
    (if inArr x s.top = true then some (s.pop.push (if x.op = 4 then atI s.cells (x.a + (s.top - x.n)) else oneZ (decide (atI s.cells (x.a + (s.top - x.n)) ≠ 0)))) else some { s.pop with fault := 3 })
  else if x.op = 6 then some { s.pop with cells := setI s.cells x.a s.top }
  else if x.op = 7 then
    (if inArr x s.pop.top = true then some { s.pop.pop with cells := setI s.cells (x.a + (s.pop.top - x.n)) s.top } else some { s.pop.pop with fault := 3 })
  else none
def doF (x : Ins) (s : Ms) : Ms :=
  if x.b = 6 ∨ x.b = 7 then
    (if (op1 x.b s.top (decide (x.a = 1))).2.2 = 0 then s.pop.push (op1 x.b s.top (decide (x.a = 1))).1 else { s.pop with fault := (op1 x.b s.top (decide (x.a = 1))).2.2 })
  else
    (if (op2 x.b s.pop.top s.top (decide (x.a = 1))).2.2 = 0 then s.pop.pop.push (op2 x.b s.pop.top s.top (decide (x.a = 1))).1 else { s.pop.pop with fault := (op2 x.b s.pop.top s.top (decide (x.a = 1))).2.2 })
def blockF (x : Ins) (C : List Int) : List Int := C.take x.a.toNat ++ stepB x.b ((C.drop x.a.toNat).take (pinsN x.b)) ++ C.drop (x.a.toNat + pinsN x.b)
def ctlF (x : Ins) (s : Ms) : Ms :=
  if x.op = 8 then doF x s
  else if x.op = 9 then { s with at_ := x.a }
  else if x.op = 10 then (if s.top = 0 then { s.pop with at_ := x.a } else s.pop)
  else if x.op = 11 then (if s.fuel = 0 then { s with fault := 4 } else { s with fuel := s.fuel - 1 })
  else if x.op = 12 then { s with cells := blockF x s.cells }
  else if x.op = 13 then s.push (oneZ (upToS s.cells x))
  else if x.op = 14 then s.push (oneZ (decide (x.n ≤ atI s.cells x.a ∧ atI s.cells x.a ≤ x.m)))
  else s
/-- A step: the place is moved on first. -/
def stepF (x : Ins) (s : Ms) : Ms :=
  match moveF x { s with at_ := s.at_ + 1 } with
  | some t => t
  | none => ctlF x { s with at_ := s.at_ + 1 }
end Go.Am
end
section
namespace Go.Am
open Go Go.Proofs
set_option maxRecDepth 20000
def cellOk (n : Nat) (k : Int) : Prop := 0 ≤ k ∧ k.toNat < n
def arrOk (n : Nat) (x : Ins) : Prop := 0 ≤ x.n ∧ x.n ≤ x.m ∧ x.m ≤ 255 ∧ 0 ≤ x.a ∧ x.a + (x.m - x.n) < n
/-- What an instruction needs of the cells and the stack. -/
structure Fit (x : Ins) (n h : Nat) : Prop where
  top : h ≤ 64
  i1 : x.op = 1 → h < 64
  i2 : x.op = 2 ∨ x.op = 3 ∨ x.op = 14 → h < 64 ∧ cellOk n x.a
  i4 : x.op = 4 ∨ x.op = 5 → 1 ≤ h ∧ arrOk n x
  i6 : x.op = 6 → 1 ≤ h ∧ cellOk n x.a
  i7 : x.op = 7 → 2 ≤ h ∧ arrOk n x
  i8 : x.op = 8 → (x.b = 6 ∨ x.b = 7 → 1 ≤ h) ∧ (¬ (x.b = 6 ∨ x.b = 7) → 2 ≤ h)
  i10 : x.op = 10 → 1 ≤ h
  i12 : x.op = 12 → 0 ≤ x.a ∧ x.a.toNat + pinsN x.b ≤ n
  i13 : x.op = 13 → h < 64 ∧ cellOk n x.a ∧ cellOk n x.b ∧ cellOk n (x.b + 1)
theorem snoc_of {l : List Int} (h : 1 ≤ l.length) : ∃ S n, l = S ++ [n] := by
  have hne : l ≠ [] := by intro h0; subst h0; simp at h
  exact ⟨l.dropLast, l.getLast hne, (List.dropLast_concat_getLast hne).symm⟩
theorem snoc2_of {l : List Int} (h : 2 ≤ l.length) : ∃ S m n, l = S ++ [m, n] := by
  obtain ⟨T, n, rfl⟩ := snoc_of (l := l) (by omega)
  obtain ⟨S, m, rfl⟩ := snoc_of (l := T) (by simp at h; omega)
  exact ⟨S, m, n, by simp⟩
theorem room_of {S G : List Int} (hs : S.length + G.length = 64) (h : S.length < 64) : ∃ g G', G = g :: G' ∧ S.length + (G'.length + 1) = 64 := by
  match G, hs with
  | [], hs => simp at hs; omega
  | g :: G', hs => exact ⟨g, G', rfl, by simpa using hs⟩
theorem set_jD (C : List Int) (i : Nat) (n : Int) : (C.map jD).set i (.int .i64 n) = (C.set i n).map jD := by rw [List.map_set]; rfl
/-- The machine that runs, by its state. -/
def mC (i : D) (vr cl : Int) (s : Ms) (G : List Int) : List Cont := [.box (mB (.d i) vr cl (.vec 1 0 0 s.cells.length) s.stk G s.stk.length s.at_ s.fuel s.fault), .vec 1 (s.cells.map jD)]
def mC2 (i : D) (vr cl : Int) (s : Ms) (G : List Int) : List (Nat × Cont) := [(0, .box (mB (.d i) vr cl (.vec 1 0 0 s.cells.length) s.stk G s.stk.length s.at_ s.fuel s.fault)), (0, .vec 1 (s.cells.map jD))]
theorem mv_1 (i : D) (vr cl : Int) (x : Ins) (s : Ms) (G : List Int) (hs : s.stk.length + G.length = 64) (hf : Fit x s.cells.length s.stk.length) (hop : x.op = 1) :
    ∃ G', (s.push x.n).stk.length + G'.length = 64 ∧ callT ctx 18 [.ptr 0 0 0, .d (insD x)] (mC i vr cl s G) = some (.ret (.d (.bool true)), mC2 i vr cl (s.push x.n) G') := by
  obtain ⟨C, S, a, f, x0⟩ := s
  simp only at hs hf
  obtain ⟨g, G', rfl, hs'⟩ := room_of hs (hf.i1 hop)
  refine ⟨G', by simp [Ms.push]; omega, ?_⟩
  have hp := push_run i vr cl C S G' g a f x0 x.n hs'
  have h1 : S.length + (g :: G').length = 64 := by simpa using hs'
  simp at hp
  rw [run18 (by simp [mC])]
  simp [Tryd.f18, mC, mC2, Ms.push, hop, hp, mB_keys, mB_vws, mB_ups, drwK_end]
theorem mv_2 (i : D) (vr cl : Int) (x : Ins) (s : Ms) (G : List Int) (hs : s.stk.length + G.length = 64) (hf : Fit x s.cells.length s.stk.length) (hop : x.op = 2) :
    ∃ G', (s.push (atI s.cells x.a)).stk.length + G'.length = 64 ∧ callT ctx 18 [.ptr 0 0 0, .d (insD x)] (mC i vr cl s G) = some (.ret (.d (.bool true)), mC2 i vr cl (s.push (atI s.cells x.a)) G') := by
  obtain ⟨C, S, a, f, x0⟩ := s
  simp only at hs hf
  obtain ⟨hl, hc1, hc2⟩ := hf.i2 (.inl hop)
  obtain ⟨g, G', rfl, hs'⟩ := room_of hs hl
  refine ⟨G', by simp [Ms.push]; omega, ?_⟩
  have hp := push_run i vr cl C S G' g a f x0 (atI C x.a) hs'
  have h1 : S.length + (g :: G').length = 64 := by simpa using hs'
  simp at hp
  rw [run18 (by simp [mC])]
  simp [Tryd.f18, mC, mC2, Ms.push, hop, hp, mB_keys, mB_vws, mB_ups, mB_len h1, mB_g3, hc1, hc2, cellAt, drwK_end]
theorem mv_3 (i : D) (vr cl : Int) (x : Ins) (s : Ms) (G : List Int) (hs : s.stk.length + G.length = 64) (hf : Fit x s.cells.length s.stk.length) (hop : x.op = 3) :
    ∃ G', (s.push (oneZ (decide (atI s.cells x.a ≠ 0)))).stk.length + G'.length = 64 ∧ callT ctx 18 [.ptr 0 0 0, .d (insD x)] (mC i vr cl s G) = some (.ret (.d (.bool true)), mC2 i vr cl (s.push (oneZ (decide (atI s.cells x.a ≠ 0)))) G') := by
  obtain ⟨C, S, a, f, x0⟩ := s
  simp only at hs hf
  obtain ⟨hl, hc1, hc2⟩ := hf.i2 (.inr (.inl hop))
  obtain ⟨g, G', rfl, hs'⟩ := room_of hs hl
  refine ⟨G', by simp [Ms.push]; omega, ?_⟩
  have hp := push_run i vr cl C S G' g a f x0 (oneZ (decide (atI C x.a ≠ 0))) hs'
  have ht := truth_run (decide (atI C x.a ≠ 0))
  have ho : (if decide (atI C x.a ≠ 0) = true then (1 : Int) else 0) = oneZ (decide (atI C x.a ≠ 0)) := rfl
  rw [ho] at ht
  have h1 : S.length + (g :: G').length = 64 := by simpa using hs'
  have hb : (atI C x.a != 0) = decide (atI C x.a ≠ 0) := by by_cases h : atI C x.a = 0 <;> simp [h]
  generalize decide (atI C x.a ≠ 0) = b at *
  simp at hp
  rw [run18 (by simp [mC])]
  simp [Tryd.f18, mC, mC2, Ms.push, hop, hp, ht, hb, mB_keys, mB_vws, mB_ups, mB_len h1, mB_g3, hc1, hc2, cellAt, drwK_end]
theorem snoc_top (S : List Int) (n : Int) : (S ++ [n]).getLast?.getD 0 = n := by simp
theorem mv_4 (i : D) (vr cl : Int) (x : Ins) (s : Ms) (G : List Int) (hs : s.stk.length + G.length = 64) (hcl : s.cells.length ≤ 8192) (hf : Fit x s.cells.length s.stk.length) (hop : x.op = 4 ∨ x.op = 5) :
    ∃ t G', moveF x s = some t ∧ t.stk.length + G'.length = 64 ∧ callT ctx 18 [.ptr 0 0 0, .d (insD x)] (mC i vr cl s G) = some (.ret (.d (.bool true)), mC2 i vr cl t G') := by
  obtain ⟨C, S0, a, f, x0⟩ := s
  simp only at hs hf hcl
  obtain ⟨hl, k1, k2, k3, k4, k5⟩ := hf.i4 hop
  obtain ⟨S, n, rfl⟩ := snoc_of hl
  have hs' : S.length + (G.length + 1) = 64 := by simp at hs; omega
  have hpop := pop_run i vr cl C S G a f x0 n hs'
  have hs2 : S.length + (n :: G).length = 64 := by simpa using hs'
  have hpl := place_run i vr cl C S (n :: G) S.length a f x0 x n hs2 ⟨k1, k3, k4, by omega⟩
  have hpush := fun v => push_run i vr cl C S G n a f x0 v hs'
  have h1 : x.op ≠ 1 := by omega
  have h2 : x.op ≠ 2 := by omega
  have h3 : x.op ≠ 3 := by omega
  by_cases hin : inArr x n = true
  · have hr : 0 ≤ x.a + (n - x.n) ∧ (x.a + (n - x.n)).toNat < C.length := by
      unfold inArr at hin
      simp at hin
      omega
    obtain ⟨r1, r2⟩ := hr
    rw [if_pos hin, if_pos hin] at hpl
    generalize hv : x.a + (n - x.n) = v at *
    rcases hop with hop | hop
    · have hpush := hpush (atI C v)
      refine ⟨_, G, by simp [moveF, hop, Ms.top, Ms.pop, hin, hv]; rfl, by simp [Ms.push]; omega, ?_⟩
      simp [hop] at hpop hpl hpush
      rw [run18 (by simp [mC])]
      simp [Tryd.f18, mC, mC2, Ms.push, Ms.pop, hop, hpop, hpl, hpush, mB_keys, mB_vws, mB_ups, mB_len hs2, mB_g3, r1, r2, cellAt, drwK_end]
    · have hpush := hpush (oneZ (decide (atI C v ≠ 0)))
      have ht := truth_run (decide (atI C v ≠ 0))
      have ho : (if decide (atI C v ≠ 0) = true then (1 : Int) else 0) = oneZ (decide (atI C v ≠ 0)) := rfl
      rw [ho] at ht
      have hb : (atI C v != 0) = decide (atI C v ≠ 0) := by by_cases h : atI C v = 0 <;> simp [h]
      refine ⟨_, G, by simp only [moveF, hop, Ms.top, Ms.pop]; simp [hin, hv]; rfl, by simp [Ms.push]; omega, ?_⟩
      have hd : decide (atI C v ≠ 0) = !decide (atI C v = 0) := by simp
      rw [hd] at hpush ht hb
      generalize (!decide (atI C v = 0)) = b at *
      simp [hop] at hpop hpl hpush
      rw [run18 (by simp [mC])]
      simp [Tryd.f18, mC, mC2, Ms.push, Ms.pop, hop, hpop, hpl, hpush, ht, hb, mB_keys, mB_vws, mB_ups, mB_len hs2, mB_g3, r1, r2, cellAt, drwK_end]
  · rw [if_neg hin, if_neg hin] at hpl
    have hin' : inArr x n = false := by simpa using hin
    refine ⟨_, n :: G, by simp only [moveF, Ms.top, Ms.pop]; simp [h1, h2, h3, hop, hin']; rfl, by simpa using hs', ?_⟩
    rw [run18 (by simp [mC])]
    rcases hop with hop | hop <;> simp [hop] at hpop hpl <;>
    simp [Tryd.f18, mC, mC2, Ms.push, Ms.pop, hop, hpop, hpl, mB_keys, mB_vws, mB_ups, mB_len hs2, mB_g3, drwK_end]
theorem mv_6 (i : D) (vr cl : Int) (x : Ins) (s : Ms) (G : List Int) (hs : s.stk.length + G.length = 64) (hf : Fit x s.cells.length s.stk.length) (hop : x.op = 6) :
    ∃ t G', moveF x s = some t ∧ t.stk.length + G'.length = 64 ∧ callT ctx 18 [.ptr 0 0 0, .d (insD x)] (mC i vr cl s G) = some (.ret (.d (.bool true)), mC2 i vr cl t G') := by
  obtain ⟨C, S0, a, f, x0⟩ := s
  simp only at hs hf
  obtain ⟨hl, hc1, hc2⟩ := hf.i6 hop
  obtain ⟨S, n, rfl⟩ := snoc_of hl
  have hs' : S.length + (G.length + 1) = 64 := by simp at hs; omega
  have hpop := pop_run i vr cl C S G a f x0 n hs'
  have hs2 : S.length + (n :: G).length = 64 := by simpa using hs'
  refine ⟨_, n :: G, by simp only [moveF, Ms.top, Ms.pop]; simp [hop]; rfl, by simpa using hs', ?_⟩
  simp at hpop
  rw [run18 (by simp [mC])]
  simp [Tryd.f18, mC, mC2, setI, hop, hpop, mB_keys, mB_vws, mB_ups, mB_len hs2, mB_g3, hc1, hc2, drwK_end]
theorem top2 (S : List Int) (m n : Int) : (S ++ [m, n]).getLast? = some n := by
  rw [show S ++ [m, n] = (S ++ [m]) ++ [n] by simp]; simp
theorem pop2 (S : List Int) (m n : Int) : (S ++ [m, n]).dropLast = S ++ [m] := by
  rw [show S ++ [m, n] = (S ++ [m]) ++ [n] by simp, List.dropLast_concat]
theorem mv_7 (i : D) (vr cl : Int) (x : Ins) (s : Ms) (G : List Int) (hs : s.stk.length + G.length = 64) (hcl : s.cells.length ≤ 8192) (hf : Fit x s.cells.length s.stk.length) (hop : x.op = 7) :
    ∃ t G', moveF x s = some t ∧ t.stk.length + G'.length = 64 ∧ callT ctx 18 [.ptr 0 0 0, .d (insD x)] (mC i vr cl s G) = some (.ret (.d (.bool true)), mC2 i vr cl t G') := by
  obtain ⟨C, S0, a, f, x0⟩ := s
  simp only at hs hf hcl
  obtain ⟨hl, k1, k2, k3, k4, k5⟩ := hf.i7 hop
  obtain ⟨S, m, n, rfl⟩ := snoc2_of hl
  have hs' : S.length + (G.length + 1 + 1) = 64 := by simp at hs; omega
  have hpop := pop_run i vr cl C (S ++ [m]) G a f x0 n (by simp; omega)
  have hpop2 := pop_run i vr cl C S (n :: G) a f x0 m (by simp; omega)
  have hs2 : S.length + (m :: n :: G).length = 64 := by simpa using hs'
  have hpl := place_run i vr cl C S (m :: n :: G) S.length a f x0 x m hs2 ⟨k1, k3, k4, by omega⟩
  by_cases hin : inArr x m = true
  · have hr : 0 ≤ x.a + (m - x.n) ∧ (x.a + (m - x.n)).toNat < C.length := by
      unfold inArr at hin
      simp at hin
      omega
    obtain ⟨r1, r2⟩ := hr
    rw [if_pos hin, if_pos hin] at hpl
    generalize hv : x.a + (m - x.n) = v at *
    refine ⟨_, m :: n :: G, by simp only [moveF, Ms.top, Ms.pop]; simp [hop, hin, hv, top2, pop2]; rfl, by simpa using hs', ?_⟩
    simp [hop] at hpop hpop2 hpl
    rw [run18 (by simp [mC])]
    simp [Tryd.f18, mC, mC2, setI, hop, hpop, hpop2, hpl, mB_keys, mB_vws, mB_ups, mB_len hs2, mB_g3, r1, r2, drwK_end]
  · rw [if_neg hin, if_neg hin] at hpl
    have hin' : inArr x m = false := by simpa using hin
    refine ⟨_, m :: n :: G, by simp only [moveF, Ms.top, Ms.pop]; simp [hop, hin', top2, pop2]; rfl, by simpa using hs', ?_⟩
    simp [hop] at hpop hpop2 hpl
    rw [run18 (by simp [mC])]
    simp [Tryd.f18, mC, mC2, hop, hpop, hpop2, hpl, mB_keys, mB_vws, mB_ups, mB_len hs2, mB_g3, drwK_end]
theorem vmoves_run (i : D) (vr cl : Int) (x : Ins) (s : Ms) (G : List Int) (hs : s.stk.length + G.length = 64) (hcl : s.cells.length ≤ 8192) (hf : Fit x s.cells.length s.stk.length) (hop : 1 ≤ x.op ∧ x.op ≤ 7) :
    ∃ t G', moveF x s = some t ∧ t.stk.length + G'.length = 64 ∧ callT ctx 18 [.ptr 0 0 0, .d (insD x)] (mC i vr cl s G) = some (.ret (.d (.bool true)), mC2 i vr cl t G') := by
  have hc : x.op = 1 ∨ x.op = 2 ∨ x.op = 3 ∨ (x.op = 4 ∨ x.op = 5) ∨ x.op = 6 ∨ x.op = 7 := by omega
  rcases hc with h | h | h | h | h | h
  · obtain ⟨G', h1, h2⟩ := mv_1 i vr cl x s G hs hf h
    exact ⟨_, G', by simp [moveF, h], h1, h2⟩
  · obtain ⟨G', h1, h2⟩ := mv_2 i vr cl x s G hs hf h
    exact ⟨_, G', by simp [moveF, h], h1, h2⟩
  · obtain ⟨G', h1, h2⟩ := mv_3 i vr cl x s G hs hf h
    exact ⟨_, G', by simp only [moveF, h]; rfl, h1, h2⟩
  · exact mv_4 i vr cl x s G hs hcl hf h
  · exact mv_6 i vr cl x s G hs hf h
  · exact mv_7 i vr cl x s G hs hcl hf h
theorem vmoves_none (i : D) (vr cl : Int) (x : Ins) (s : Ms) (G : List Int) (hop : 8 ≤ x.op) :
    moveF x s = none ∧ callT ctx 18 [.ptr 0 0 0, .d (insD x)] (mC i vr cl s G) = some (.ret (.d (.bool false)), mC2 i vr cl s G) := by
  have h1 : x.op ≠ 1 := by omega
  have h2 : x.op ≠ 2 := by omega
  have h3 : x.op ≠ 3 := by omega
  have h4 : x.op ≠ 4 := by omega
  have h5 : x.op ≠ 5 := by omega
  have h6 : x.op ≠ 6 := by omega
  have h7 : x.op ≠ 7 := by omega
  refine ⟨by simp [moveF, h1, h2, h3, h4, h5, h6, h7], ?_⟩
  obtain ⟨C, S, a, f, x0⟩ := s
  rw [run18 (by simp [mC])]
  simp [Tryd.f18, mC, mC2, h1, h2, h3, h4, h5, h6, h7, mB_keys, mB_vws, mB_ups]
end Go.Am
end
section
namespace Go.Am
open Go Go.Proofs
set_option maxRecDepth 20000
theorem flats_map : ∀ T : List Int, flats (T.map iA) = some (T.map jD)
  | [] => rfl
  | x :: r => by
    have := flats_map r
    simp only [List.map_cons, iA] at this ⊢
    rw [flats.eq_2, this]
    rfl
theorem mB_drop {I : AV} {vr cl : Int} {cv : AV} {S T G : List Int} {h a f x : Int} : (mB I vr cl cv (S ++ T) G h a f x).drop (4 + S.length) = T.map iA ++ (G.map iA ++ [.d (.int .i64 h), .d (.int .i64 a), .d (.int .i64 f), .d (.int .i64 x)]) := by
  rw [mB, show 4 + S.length = S.length + 1 + 1 + 1 + 1 by omega]
  simp only [List.drop_succ_cons, List.map_append, List.append_assoc]
  rw [List.drop_append_of_le_length (by simp), show S.length = (S.map iA).length by simp, List.drop_length]
  rfl
theorem flatsT {I : AV} {vr cl : Int} {cv : AV} {S T G : List Int} {h a f x : Int} {n : Nat} (hn : n = T.length) : flats (((mB I vr cl cv (S ++ T) G h a f x).drop (4 + S.length)).take n) = some (T.map jD) := by
  rw [mB_drop, hn, List.take_append_of_le_length (by simp), show T.length = (T.map iA).length by simp, List.take_length]
  exact flats_map T
theorem clone64_eq (L : List Int) (hl : L.length ≤ 100000) : callT ctx 17 [.d (.list (L.map jD))] [] = some (.ret (.vec 0 0 0 L.length), [(0, .vec 1 (L.map jD))]) := clone64_run L hl
theorem does_1 (i : D) (vr cl : Int) (x : Ins) (C S G : List Int) (a f x0 n : Int) (hs : S.length + (G.length + 1) = 64) (hn : I64 n) (hb : x.b = 6 ∨ x.b = 7) :
    callT ctx 37 [.ptr 0 0 0, .d (insD x)] [.box (mB (.d i) vr cl (.vec 1 0 0 C.length) (S ++ [n]) G ((S ++ [n]).length : Nat) a f x0), .vec 1 (C.map jD)] =
      some (.ret (.tup []), if (op1 x.b n (decide (x.a = 1))).2.2 = 0 then [(0, .box (mB (.d i) vr cl (.vec 1 0 0 C.length) (S ++ [(op1 x.b n (decide (x.a = 1))).1]) G ((S ++ [n]).length : Nat) a f x0)), (0, .vec 1 (C.map jD))]
        else [(0, .box (mB (.d i) vr cl (.vec 1 0 0 C.length) S (n :: G) S.length a f (op1 x.b n (decide (x.a = 1))).2.2)), (0, .vec 1 (C.map jD))]) := by
  have hop := foldOp1_run x.b n (decide (x.a = 1)) hn
  have hcl := clone64_eq [n] (by simp)
  have hfl : ∀ h, flats (((mB (.d i) vr cl (.vec 1 0 0 C.length) (S ++ [n]) G h a f x0).drop (4 + S.length)).take 1) = some [D.int .i64 n] := fun h => flatsT rfl
  simp only [mB_pop] at hfl
  have g1 : (S.length : Int) ≤ (S.length : Int) + 1 := by omega
  have h1 : (S ++ [n]).length + G.length = 64 := by simp; omega
  have h2 : S.length + (n :: G).length = 64 := by simpa using hs
  have hlt : 4 + S.length + 1 ≤ 72 := by omega
  have hle : S.length + 1 ≤ 64 := by omega
  have hpush := fun v => push_run i vr cl C S G n a f x0 v hs
  have w1 : IntKind.i64.wrap (S.length : Int) = (S.length : Int) := wrap_id (by unfold I64; omega)
  have g0 : (0 : Int) ≤ (S.length : Int) := by omega
  have hbb : (decide (x.b = 6) || decide (x.b = 7)) = true := by simpa using hb
  generalize op1 x.b n (decide (x.a = 1)) = p at *
  have hpush := hpush p.1
  simp at hop hcl hpush
  rw [run37 (by simp)]
  by_cases hp : p.2.2 = 0
  · rcases hb with hb | hb <;> simp only [hb] at hop <;>
    simp [Tryd.f37, hb, hop, hcl, hfl, hp, hpush, mB_keys, mB_vws, mB_ups, mB_len h1, mB_len h2, mB_g68 h1, mB_g68 h2, mB_set68 h1, mB_set68 h2, mB_pop, hlt, hle, w1, g0, g1, drwK_end]
  · rcases hb with hb | hb <;> simp only [hb] at hop <;>
    simp [Tryd.f37, hb, hop, hcl, hfl, hp, mB_keys, mB_vws, mB_ups, mB_len h1, mB_len h2, mB_g68 h1, mB_g68 h2, mB_set68 h1, mB_set68 h2, mB_set71 h2, mB_pop, hlt, hle, w1, g0, g1, drwK_end]
theorem mB_pop2 {I : AV} {vr cl : Int} {cv : AV} {S G : List Int} {h a f x : Int} (m n : Int) : mB I vr cl cv (S ++ [m, n]) G h a f x = mB I vr cl cv S (m :: n :: G) h a f x := by simp [mB]
theorem does_2 (i : D) (vr cl : Int) (x : Ins) (C S G : List Int) (a f x0 m n : Int) (hs : S.length + (G.length + 2) = 64) (hm : I64 m) (hn : I64 n) (hb : ¬ (x.b = 6 ∨ x.b = 7)) :
    callT ctx 37 [.ptr 0 0 0, .d (insD x)] [.box (mB (.d i) vr cl (.vec 1 0 0 C.length) (S ++ [m, n]) G ((S ++ [m, n]).length : Nat) a f x0), .vec 1 (C.map jD)] =
      some (.ret (.tup []), if (op2 x.b m n (decide (x.a = 1))).2.2 = 0 then [(0, .box (mB (.d i) vr cl (.vec 1 0 0 C.length) (S ++ [(op2 x.b m n (decide (x.a = 1))).1]) (n :: G) ((S ++ [n]).length : Nat) a f x0)), (0, .vec 1 (C.map jD))]
        else [(0, .box (mB (.d i) vr cl (.vec 1 0 0 C.length) S (m :: n :: G) S.length a f (op2 x.b m n (decide (x.a = 1))).2.2)), (0, .vec 1 (C.map jD))]) := by
  have hop := foldOp2_run x.b m n (decide (x.a = 1)) hm hn
  have hcl := clone64_eq [m, n] (by simp)
  have hfl : ∀ h, flats (((mB (.d i) vr cl (.vec 1 0 0 C.length) (S ++ [m, n]) G h a f x0).drop (4 + S.length)).take 2) = some [D.int .i64 m, D.int .i64 n] := fun h => flatsT rfl
  simp only [mB_pop2] at hfl
  have g1 : (S.length : Int) ≤ (S.length : Int) + 2 := by omega
  have h2 : S.length + (m :: n :: G).length = 64 := by simpa using hs
  have hlt : 4 + S.length + 2 ≤ 72 := by omega
  have hle : S.length + 2 ≤ 64 := by omega
  have tn : ((S.length : Int) + 2).toNat = S.length + 2 := by omega
  have tn2 : ((S.length : Int) + 2).toNat - S.length = 2 := by omega
  have hle2 : (S.length : Int) + 2 ≤ 64 := by omega
  have hpush := fun v => push_run i vr cl C S (n :: G) m a f x0 v (by simpa using hs)
  have w1 : IntKind.i64.wrap ((S.length : Int) + 2 - 2) = (S.length : Int) := by rw [show (S.length : Int) + 2 - 2 = S.length by omega]; exact wrap_id (by unfold I64; omega)
  have w2 : IntKind.i64.wrap (S.length : Int) = (S.length : Int) := wrap_id (by unfold I64; omega)
  have g0 : (0 : Int) ≤ (S.length : Int) := by omega
  have hb1 : ¬ x.b = 6 := fun h => hb (.inl h)
  have hb2 : ¬ x.b = 7 := fun h => hb (.inr h)
  generalize op2 x.b m n (decide (x.a = 1)) = p at *
  have hpush := hpush p.1
  simp at hop hcl hpush
  rw [run37 (by simp)]
  by_cases hp : p.2.2 = 0
  · simp [Tryd.f37, hb1, hb2, hop, hcl, hfl, hp, hpush, mB_keys, mB_vws, mB_ups, mB_len h2, mB_g68 h2, mB_set68 h2, mB_pop2, mB_pop, hlt, hle, hle2, tn, tn2, w1, w2, g0, g1, drwK_end]
  · simp [Tryd.f37, hb1, hb2, hop, hcl, hfl, hp, mB_keys, mB_vws, mB_ups, mB_len h2, mB_g68 h2, mB_set68 h2, mB_set71 h2, mB_pop2, mB_pop, hlt, hle, hle2, tn, tn2, w1, w2, g0, g1, drwK_end]
end Go.Am
end
section
namespace Go.Am
open Go Go.Proofs
set_option maxRecDepth 20000
/-- Numbers of a state that have room. -/
structure NumsOk (s : Ms) : Prop where
  cells : ∀ n ∈ s.cells, I64 n
  stk : ∀ n ∈ s.stk, I64 n
  few : s.cells.length ≤ 8192
  fuel : 0 ≤ s.fuel ∧ s.fuel ≤ 16384
  place : 0 ≤ s.at_ ∧ s.at_ ≤ 5000
def CtlOk (i : D) (vr cl : Int) (x : Ins) (s : Ms) (G : List Int) : Prop :=
  ∃ G', (ctlF x s).stk.length + G'.length = 64 ∧ callT ctx 19 [.ptr 0 0 0, .d (insD x)] (mC i vr cl s G) = some (.ret (.tup []), mC2 i vr cl (ctlF x s) G')
theorem ct_8 (i : D) (vr cl : Int) (x : Ins) (s : Ms) (G : List Int) (hs : s.stk.length + G.length = 64) (hf : Fit x s.cells.length s.stk.length) (hN : NumsOk s) (hop : x.op = 8) : CtlOk i vr cl x s G := by
  obtain ⟨C, S0, a, f, x0⟩ := s
  simp only at hs hf
  obtain ⟨f1, f2⟩ := hf.i8 hop
  have hstk := hN.stk
  simp only at hstk
  unfold CtlOk
  have hct : ctlF x ⟨C, S0, a, f, x0⟩ = doF x ⟨C, S0, a, f, x0⟩ := by simp [ctlF, hop]
  rw [hct]
  rw [run19 (by simp [mC])]
  by_cases hb : x.b = 6 ∨ x.b = 7
  · obtain ⟨S, n, rfl⟩ := snoc_of (f1 hb)
    have hd := does_1 i vr cl x C S G a f x0 n (by simp at hs; omega) (hstk n (by simp)) hb
    unfold doF
    rw [if_pos hb]
    simp only [Ms.top, Ms.pop, Ms.push, List.getLast?_concat, Option.getD_some, List.dropLast_concat]
    generalize op1 x.b n (decide (x.a = 1)) = p at *
    by_cases hp : p.2.2 = 0
    · rw [if_pos hp] at hd ⊢
      refine ⟨G, by simpa using hs, ?_⟩
      simp [hop] at hd
      simp [Tryd.f19, mC, mC2, hop, hd, mB_keys, mB_vws, mB_ups, drwK_end]
    · rw [if_neg hp] at hd ⊢
      refine ⟨n :: G, by simp at hs ⊢; omega, ?_⟩
      simp [hop] at hd
      simp [Tryd.f19, mC, mC2, hop, hd, mB_keys, mB_vws, mB_ups, drwK_end]
  · obtain ⟨S, m, n, rfl⟩ := snoc2_of (f2 hb)
    have hd := does_2 i vr cl x C S G a f x0 m n (by simp at hs; omega) (hstk m (by simp)) (hstk n (by simp)) hb
    unfold doF
    rw [if_neg hb]
    simp only [Ms.top, Ms.pop, Ms.push, top2, pop2, List.getLast?_concat, Option.getD_some, List.dropLast_concat]
    generalize op2 x.b m n (decide (x.a = 1)) = p at *
    by_cases hp : p.2.2 = 0
    · rw [if_pos hp] at hd ⊢
      refine ⟨n :: G, by simp at hs ⊢; omega, ?_⟩
      simp [hop] at hd
      simp [Tryd.f19, mC, mC2, hop, hd, mB_keys, mB_vws, mB_ups, drwK_end]
    · rw [if_neg hp] at hd ⊢
      refine ⟨m :: n :: G, by simp at hs ⊢; omega, ?_⟩
      simp [hop] at hd
      simp [Tryd.f19, mC, mC2, hop, hd, mB_keys, mB_vws, mB_ups, drwK_end]
theorem ct_9 (i : D) (vr cl : Int) (x : Ins) (s : Ms) (G : List Int) (hs : s.stk.length + G.length = 64) (hop : x.op = 9) : CtlOk i vr cl x s G := by
  obtain ⟨C, S, a, f, x0⟩ := s
  simp only at hs
  unfold CtlOk
  refine ⟨G, by simpa [ctlF, hop] using hs, ?_⟩
  rw [run19 (by simp [mC])]
  simp [Tryd.f19, ctlF, mC, mC2, hop, mB_keys, mB_vws, mB_ups, mB_len hs, mB_set69 hs, drwK_end]
theorem ct_10 (i : D) (vr cl : Int) (x : Ins) (s : Ms) (G : List Int) (hs : s.stk.length + G.length = 64) (hf : Fit x s.cells.length s.stk.length) (hop : x.op = 10) : CtlOk i vr cl x s G := by
  obtain ⟨C, S0, a, f, x0⟩ := s
  simp only at hs hf
  obtain ⟨S, n, rfl⟩ := snoc_of (hf.i10 hop)
  have hs' : S.length + (G.length + 1) = 64 := by simp at hs; omega
  have hpop := pop_run i vr cl C S G a f x0 n hs'
  have hs2 : S.length + (n :: G).length = 64 := by simpa using hs'
  unfold CtlOk
  rw [run19 (by simp [mC])]
  simp at hpop
  by_cases hn : n = 0
  · refine ⟨n :: G, by simp [ctlF, hop, Ms.top, Ms.pop, hn]; omega, ?_⟩
    subst hn
    simp [Tryd.f19, ctlF, Ms.top, Ms.pop, mC, mC2, hop, hpop, mB_keys, mB_vws, mB_ups, mB_len hs2, mB_set69 hs2, drwK_end]
  · refine ⟨n :: G, by simp [ctlF, hop, Ms.top, Ms.pop, hn]; omega, ?_⟩
    simp [Tryd.f19, ctlF, Ms.top, Ms.pop, mC, mC2, hop, hpop, hn, mB_keys, mB_vws, mB_ups, drwK_end]
theorem ct_11 (i : D) (vr cl : Int) (x : Ins) (s : Ms) (G : List Int) (hs : s.stk.length + G.length = 64) (hN : NumsOk s) (hop : x.op = 11) : CtlOk i vr cl x s G := by
  obtain ⟨C, S, a, f, x0⟩ := s
  have hfu := hN.fuel
  simp only at hs hfu
  unfold CtlOk
  rw [run19 (by simp [mC])]
  by_cases hn : f = 0
  · refine ⟨G, by simpa [ctlF, hop, hn] using hs, ?_⟩
    simp [Tryd.f19, ctlF, mC, mC2, hop, hn, mB_keys, mB_vws, mB_ups, mB_len hs, mB_g70 hs, mB_set71 hs, drwK_end]
  · have w : IntKind.i64.wrap (f - 1) = f - 1 := wrap_id (by unfold I64; omega)
    refine ⟨G, by simpa [ctlF, hop, hn] using hs, ?_⟩
    simp [Tryd.f19, ctlF, mC, mC2, hop, hn, w, mB_keys, mB_vws, mB_ups, mB_len hs, mB_g70 hs, mB_set70 hs, drwK_end]
theorem ct_13 (i : D) (vr cl : Int) (x : Ins) (s : Ms) (G : List Int) (hs : s.stk.length + G.length = 64) (hf : Fit x s.cells.length s.stk.length) (hN : NumsOk s) (hop : x.op = 13) : CtlOk i vr cl x s G := by
  obtain ⟨C, S, a, f, x0⟩ := s
  have hfew := hN.few
  simp only at hs hf hfew
  obtain ⟨h1, ⟨a1, a2⟩, ⟨b1, b2⟩, ⟨c1, c2⟩⟩ := hf.i13 hop
  obtain ⟨g, G', rfl, hs'⟩ := room_of hs h1
  have hu := upTo_run i vr cl C S (g :: G') S.length a f x0 x hs ⟨a1, a2, b1, by omega, hfew⟩
  have ht := truth_run (upToS C x)
  have ho : (if upToS C x = true then (1 : Int) else 0) = oneZ (upToS C x) := rfl
  rw [ho] at ht
  have hpush := push_run i vr cl C S G' g a f x0 (oneZ (upToS C x)) hs'
  unfold CtlOk
  rw [run19 (by simp [mC])]
  refine ⟨G', by simp [ctlF, hop, Ms.push]; omega, ?_⟩
  simp [hop] at hu hpush
  simp [Tryd.f19, ctlF, Ms.push, mC, mC2, hop, hu, ht, hpush, mB_keys, mB_vws, mB_ups, drwK_end]
theorem ct_14 (i : D) (vr cl : Int) (x : Ins) (s : Ms) (G : List Int) (hs : s.stk.length + G.length = 64) (hf : Fit x s.cells.length s.stk.length) (hop : x.op = 14) : CtlOk i vr cl x s G := by
  obtain ⟨C, S, a, f, x0⟩ := s
  simp only at hs hf
  obtain ⟨hl, hc1, hc2⟩ := hf.i2 (.inr (.inr hop))
  obtain ⟨g, G', rfl, hs'⟩ := room_of hs hl
  have hpush := fun v => push_run i vr cl C S G' g a f x0 v hs'
  unfold CtlOk
  rw [run19 (by simp [mC])]
  refine ⟨G', by simp [ctlF, hop, Ms.push]; omega, ?_⟩
  have ht := truth_run
  by_cases h1 : x.n ≤ atI C x.a
  · by_cases h2 : atI C x.a ≤ x.m
    · have hpush := hpush 1
      simp at hpush
      simp [Tryd.f19, ctlF, Ms.push, mC, mC2, hop, ht, oneZ, hpush, h1, h2, hc1, hc2, cellAt, mB_keys, mB_vws, mB_ups, mB_len hs, mB_g3, drwK_end]
    · have hpush := hpush 0
      simp at hpush
      simp [Tryd.f19, ctlF, Ms.push, mC, mC2, hop, ht, oneZ, hpush, h1, h2, hc1, hc2, cellAt, mB_keys, mB_vws, mB_ups, mB_len hs, mB_g3, drwK_end]
  · have hpush := hpush 0
    simp at hpush
    simp [Tryd.f19, ctlF, Ms.push, mC, mC2, hop, ht, oneZ, hpush, h1, hc1, hc2, cellAt, mB_keys, mB_vws, mB_ups, mB_len hs, mB_g3, drwK_end]
theorem plainDs_jD : ∀ Y : List Int, plainDs (Y.map jD) = true
  | [] => rfl
  | x :: r => by simp [plainDs, plainD, plainDs_jD r]
theorem putC_map (C Y : List Int) (a : Nat) (h : a + Y.length ≤ C.length) : putCells (C.map jD) a (Y.map jD) = (C.take a ++ Y ++ C.drop (a + Y.length)).map jD := by
  rw [putCells_eq _ _ _ (by simpa using h)]
  simp [List.map_take, List.map_drop]
theorem ct_12 (i : D) (vr cl : Int) (x : Ins) (s : Ms) (G : List Int) (hs : s.stk.length + G.length = 64) (hf : Fit x s.cells.length s.stk.length) (hN : NumsOk s) (hop : x.op = 12) : CtlOk i vr cl x s G := by
  obtain ⟨C, S, a, f, x0⟩ := s
  have hfew := hN.few
  have hcI := hN.cells
  simp only at hs hf hfew hcI
  obtain ⟨k1, k2⟩ := hf.i12 hop
  obtain ⟨pl, hp1, hp2, hp3⟩ := pins_ok x.b
  obtain ⟨o, ho⟩ : ∃ o : Nat, x.a = (o : Int) := ⟨x.a.toNat, by omega⟩
  have k2' : o + pl.length ≤ C.length := by rw [ho] at k2; simp at k2; omega
  have hlen : ((C.drop o).take pl.length).length = pl.length := by simp; omega
  have hst := step_run x.b ((C.drop o).take pl.length) (by rw [hlen, hp2]) (fun y hy => hcI y (List.mem_of_mem_drop (List.mem_of_mem_take hy)))
  have hYl : (stepB x.b ((C.drop o).take pl.length)).length = pl.length := by rw [stepB_len, hlen]
  have hblk : blockF x C = C.take o ++ stepB x.b ((C.drop o).take pl.length) ++ C.drop (o + (stepB x.b ((C.drop o).take pl.length)).length) := by
    unfold blockF
    rw [ho, hYl, ← hp2]
    simp
  have hput := putC_map C (stepB x.b ((C.drop o).take pl.length)) o (by omega)
  rw [← hblk] at hput
  have hbl : (blockF x C).length = C.length := by
    rw [hblk]
    simp only [List.length_append, List.length_take, List.length_drop, hYl]
    omega
  rw [hlen] at hst
  generalize hY : stepB x.b ((C.drop o).take pl.length) = Y at *
  have htk : (Y.map jD).take (C.length - o) = Y.map jD := List.take_of_length_le (by simp; omega)
  have htk2 : (Y.map jD).take pl.length = Y.map jD := List.take_of_length_le (by simp; omega)
  have wa : IntKind.i64.wrap ((o : Int) + (pl.length : Int)) = (o : Int) + (pl.length : Int) := wrap_id (by unfold I64; omega)
  have tn : ((o : Int) + (pl.length : Int)).toNat = o + pl.length := by omega
  have ho1 : o ≤ C.length := by omega
  have ho2 : (o : Int) ≤ (C.length : Int) := by omega
  have ho3 : (0 : Int) ≤ (o : Int) + (pl.length : Int) := by omega
  have ho4 : (o : Int) ≤ (o : Int) + (pl.length : Int) := by omega
  have ho5 : o + (C.length - o) ≤ C.length := by omega
  unfold CtlOk
  refine ⟨G, by simpa [ctlF, hop] using hs, ?_⟩
  rw [run19 (by simp [mC])]
  clear hN hf hcI hY hblk
  try simp at hp1
  simp only [List.map_take, List.map_drop] at hst
  simp [Tryd.f19, ctlF, mC, mC2, hop, ho, hp1, hst, hYl, htk, htk2, hput, hbl, wa, tn, ho1, ho2, ho3, ho4, ho5, k2', mB_keys, mB_vws, mB_ups, mB_len hs, mB_g3, plainDs_jD, drwK_end]
theorem control_run (i : D) (vr cl : Int) (x : Ins) (s : Ms) (G : List Int) (hs : s.stk.length + G.length = 64) (hf : Fit x s.cells.length s.stk.length) (hN : NumsOk s) (hop : 8 ≤ x.op ∧ x.op ≤ 14) : CtlOk i vr cl x s G := by
  have hc : x.op = 8 ∨ x.op = 9 ∨ x.op = 10 ∨ x.op = 11 ∨ x.op = 12 ∨ x.op = 13 ∨ x.op = 14 := by omega
  rcases hc with h | h | h | h | h | h | h
  · exact ct_8 i vr cl x s G hs hf hN h
  · exact ct_9 i vr cl x s G hs h
  · exact ct_10 i vr cl x s G hs hf h
  · exact ct_11 i vr cl x s G hs hN h
  · exact ct_12 i vr cl x s G hs hf hN h
  · exact ct_13 i vr cl x s G hs hf hN h
  · exact ct_14 i vr cl x s G hs hf h
end Go.Am
end
section
namespace Go.Am
open Go Go.Proofs
inductive RunsF (l : List Ins) : Ms → Ms → Prop
  | fault (s : Ms) (h : s.fault ≠ 0) : RunsF l s s
  | fin (s : Ms) (x : Ins) (h0 : s.fault = 0) (hx : l[s.at_.toNat]? = some x) (h : x.op = 15) : RunsF l s s
  | step (s : Ms) (x : Ins) (t : Ms) (h0 : s.fault = 0) (hx : l[s.at_.toNat]? = some x) (h : x.op ≠ 15) (h' : RunsF l (stepF x s) t) : RunsF l s t
structure VInv (l : List Ins) (st : Nat → List Bool) (n : Nat) (s : Ms) : Prop where
  nums : NumsOk s
  len : s.cells.length = n
  h64 : s.stk.length ≤ 64
  here : s.fault = 0 → s.at_.toNat < l.length ∧ s.stk.length = (st s.at_.toNat).length
theorem giveS_some {t : Bool} {S S' : List Bool} (h : giveS t S = some S') : S.length < 64 ∧ S'.length = S.length + 1 := by
  unfold giveS at h
  split at h
  · rename_i hl; cases h; exact ⟨hl, by simp⟩
  · cases h
theorem takeS_some {n : Nat} {t : Bool} {S S' : List Bool} (h : takeS n t S = some S') : n ≤ S.length ∧ S'.length = S.length - n := by
  unfold takeS at h
  split at h
  · cases h
  · rename_i hl
    split at h
    · cases h
    · cases h; exact ⟨by omega, by simp⟩
theorem emptyS_some {S S' : List Bool} (h : emptyS S = some S') : S = [] ∧ S' = [] := by
  unfold emptyS at h
  split at h
  · rename_i hl; cases h; exact ⟨hl, rfl⟩
  · cases h
theorem cellB_ok {cells n : Nat} {a : Int} (h : cellB cells a n = true) : 0 ≤ a ∧ a.toNat + n ≤ cells := by
  unfold cellB at h
  simp only [Bool.and_eq_true, decide_eq_true_eq] at h
  omega
/-- What an instruction does to the stack's height. -/
def hgt (x : Ins) (h : Nat) : Nat :=
  if x.op = 1 ∨ x.op = 2 ∨ x.op = 3 ∨ x.op = 13 ∨ x.op = 14 then h + 1 else if x.op = 4 ∨ x.op = 5 then h else if x.op = 6 ∨ x.op = 10 then h - 1 else if x.op = 7 then h - 2
  else if x.op = 8 then (if x.b = 6 ∨ x.b = 7 then h else h - 1) else h
theorem arrB_ok {n : Nat} {x : Ins} (h : arrB n x = true) : arrOk n x := by
  unfold arrB cellB at h
  unfold arrOk
  simp only [Bool.and_eq_true, decide_eq_true_eq] at h
  omega
theorem fit_of {n : Nat} {last at_ : Int} {x : Ins} {S S' : List Bool} (hfm : formB pinsN n last at_ x = true) (hmv : movesS x S = some S') (h64 : S.length ≤ 64) :
    Fit x n S.length ∧ S'.length = hgt x S.length ∧ (x.op = 10 → S'.length = 0) ∧ (x.op = 9 → S'.length = 0) ∧ (1 ≤ x.op ∧ x.op ≤ 15) := by
  have hop : x.op = 1 ∨ x.op = 2 ∨ x.op = 3 ∨ x.op = 4 ∨ x.op = 5 ∨ x.op = 6 ∨ x.op = 7 ∨ x.op = 8 ∨ x.op = 9 ∨ x.op = 10 ∨ x.op = 11 ∨ x.op = 12 ∨ x.op = 13 ∨ x.op = 14 ∨ x.op = 15 := by
    apply Classical.byContradiction
    intro hc
    simp only [not_or] at hc
    unfold formB at hfm
    simp [hc] at hfm
  unfold formB at hfm
  unfold movesS at hmv
  have one : ∀ {a : Int}, cellB n a 1 = true → cellOk n a := fun h => by
    have := cellB_ok (n := 1) h
    exact ⟨this.1, by omega⟩
  rcases hop with e | e | e | e | e | e | e | e | e | e | e | e | e | e | e <;> simp [e] at hfm hmv
  · obtain ⟨h1, h2⟩ := giveS_some hmv
    exact ⟨⟨h64, fun _ => h1, by simp [e], by simp [e], by simp [e], by simp [e], by simp [e], by simp [e], by simp [e], by simp [e]⟩, by simp [hgt, e, h2], by simp [e], by simp [e], by simp [e]⟩
  · obtain ⟨h1, h2⟩ := giveS_some hmv
    exact ⟨⟨h64, by simp [e], fun _ => ⟨h1, one hfm⟩, by simp [e], by simp [e], by simp [e], by simp [e], by simp [e], by simp [e], by simp [e]⟩, by simp [hgt, e, h2], by simp [e], by simp [e], by simp [e]⟩
  · obtain ⟨h1, h2⟩ := giveS_some hmv
    exact ⟨⟨h64, by simp [e], fun _ => ⟨h1, one hfm⟩, by simp [e], by simp [e], by simp [e], by simp [e], by simp [e], by simp [e], by simp [e]⟩, by simp [hgt, e, h2], by simp [e], by simp [e], by simp [e]⟩
  · obtain ⟨T, t1, t2⟩ := Option.bind_eq_some_iff.1 hmv
    obtain ⟨h1, h2⟩ := takeS_some t1
    obtain ⟨h3, h4⟩ := giveS_some t2
    exact ⟨⟨h64, by simp [e], by simp [e], fun _ => ⟨h1, arrB_ok hfm⟩, by simp [e], by simp [e], by simp [e], by simp [e], by simp [e], by simp [e]⟩, by simp [hgt, e]; omega, by simp [e], by simp [e], by simp [e]⟩
  · obtain ⟨T, t1, t2⟩ := Option.bind_eq_some_iff.1 hmv
    obtain ⟨h1, h2⟩ := takeS_some t1
    obtain ⟨h3, h4⟩ := giveS_some t2
    exact ⟨⟨h64, by simp [e], by simp [e], fun _ => ⟨h1, arrB_ok hfm⟩, by simp [e], by simp [e], by simp [e], by simp [e], by simp [e], by simp [e]⟩, by simp [hgt, e]; omega, by simp [e], by simp [e], by simp [e]⟩
  · obtain ⟨h1, h2⟩ := takeS_some hmv
    exact ⟨⟨h64, by simp [e], by simp [e], by simp [e], fun _ => ⟨h1, one hfm⟩, by simp [e], by simp [e], by simp [e], by simp [e], by simp [e]⟩, by simp [hgt, e]; omega, by simp [e], by simp [e], by simp [e]⟩
  · obtain ⟨h1, h2⟩ := takeS_some hmv
    exact ⟨⟨h64, by simp [e], by simp [e], by simp [e], by simp [e], fun _ => ⟨h1, arrB_ok hfm⟩, by simp [e], by simp [e], by simp [e], by simp [e]⟩, by simp [hgt, e]; omega, by simp [e], by simp [e], by simp [e]⟩
  · obtain ⟨T, t1, t2⟩ := Option.bind_eq_some_iff.1 hmv
    obtain ⟨h1, h2⟩ := takeS_some t1
    obtain ⟨h3, h4⟩ := giveS_some t2
    by_cases hb : x.b = 6 ∨ x.b = 7
    · rw [if_pos hb] at h1 h2
      exact ⟨⟨h64, by simp [e], by simp [e], by simp [e], by simp [e], by simp [e], fun _ => ⟨fun _ => h1, fun h => absurd hb h⟩, by simp [e], by simp [e], by simp [e]⟩, by simp [hgt, e, hb]; omega, by simp [e], by simp [e], by simp [e]⟩
    · rw [if_neg hb] at h1 h2
      exact ⟨⟨h64, by simp [e], by simp [e], by simp [e], by simp [e], by simp [e], fun _ => ⟨fun h => absurd h hb, fun _ => h1⟩, by simp [e], by simp [e], by simp [e]⟩, by simp [hgt, e, hb]; omega, by simp [e], by simp [e], by simp [e]⟩
  · obtain ⟨h1, h2⟩ := emptyS_some hmv
    exact ⟨⟨h64, by simp [e], by simp [e], by simp [e], by simp [e], by simp [e], by simp [e], by simp [e], by simp [e], by simp [e]⟩, by simp [hgt, e, h1, h2], by simp [e], fun _ => by simp [h2], by simp [e]⟩
  · obtain ⟨T, t1, t2⟩ := Option.bind_eq_some_iff.1 hmv
    obtain ⟨h1, h2⟩ := takeS_some t1
    obtain ⟨h3, h4⟩ := emptyS_some t2
    subst h3
    subst h4
    exact ⟨⟨h64, by simp [e], by simp [e], by simp [e], by simp [e], by simp [e], by simp [e], fun _ => h1, by simp [e], by simp [e]⟩, by simp [hgt, e]; simpa using h2, fun _ => rfl, by simp [e], by simp [e]⟩
  · obtain ⟨h1, h2⟩ := emptyS_some hmv
    exact ⟨⟨h64, by simp [e], by simp [e], by simp [e], by simp [e], by simp [e], by simp [e], by simp [e], by simp [e], by simp [e]⟩, by simp [hgt, e, h1, h2], by simp [e], by simp [e], by simp [e]⟩
  · obtain ⟨h1, h2⟩ := emptyS_some hmv
    have hc := cellB_ok hfm.2
    exact ⟨⟨h64, by simp [e], by simp [e], by simp [e], by simp [e], by simp [e], by simp [e], by simp [e], fun _ => hc, by simp [e]⟩, by simp [hgt, e, h1, h2], by simp [e], by simp [e], by simp [e]⟩
  · obtain ⟨h1, h2⟩ := giveS_some hmv
    have hb := cellB_ok (n := 2) hfm.2
    exact ⟨⟨h64, by simp [e], by simp [e], by simp [e], by simp [e], by simp [e], by simp [e], by simp [e], by simp [e], fun _ => ⟨h1, one hfm.1, ⟨hb.1, by omega⟩, ⟨by omega, by omega⟩⟩⟩, by simp [hgt, e, h2], by simp [e], by simp [e], by simp [e]⟩
  · obtain ⟨h1, h2⟩ := giveS_some hmv
    exact ⟨⟨h64, by simp [e], fun _ => ⟨h1, one hfm⟩, by simp [e], by simp [e], by simp [e], by simp [e], by simp [e], by simp [e], by simp [e]⟩, by simp [hgt, e, h2], by simp [e], by simp [e], by simp [e]⟩
  · obtain ⟨h1, h2⟩ := emptyS_some hmv
    exact ⟨⟨h64, by simp [e], by simp [e], by simp [e], by simp [e], by simp [e], by simp [e], by simp [e], by simp [e], by simp [e]⟩, by simp [hgt, e, h1, h2], by simp [e], by simp [e], by simp [e]⟩
end Go.Am
end
section
namespace Go.Am
open Go Go.Proofs
theorem I64_0 : I64 0 := by unfold I64; omega
theorem I64_1 : I64 1 := by unfold I64; omega
theorem oneZ_I (b : Bool) : I64 (oneZ b) := by unfold oneZ; split; exact I64_1; exact I64_0
theorem fitZ_I (z : Int) : I64 (fitZ z).1 := by
  unfold fitZ
  split
  · rename_i h; exact h
  · exact I64_0
theorem fitR_I {p : Int × Bool} (h : I64 p.1) : I64 (fitR p).1 := by
  unfold fitR
  split
  · exact h
  · exact I64_0
theorem tdiv_I {a b : Int} (ha : I64 a) (hb : b ≠ 0) (h : ¬ (a = -9223372036854775808 ∧ b = -1)) : I64 (a.tdiv b) := by
  have hq := tdiv_abs a b
  unfold I64 at *
  have hdl : a.natAbs / b.natAbs ≤ a.natAbs := Nat.div_le_self _ _
  have hle2 : decide (a < 0) = decide (b < 0) → a.natAbs / b.natAbs ≤ 9223372036854775807 := by
    intro hd
    by_cases ha1 : a = -9223372036854775808
    · have hb2 : 2 ≤ b.natAbs := by
        have : b < 0 := by rw [ha1] at hd; simpa using hd
        omega
      have h3 := Nat.div_le_div_left hb2 (by decide) (a := a.natAbs)
      omega
    · omega
  generalize a.natAbs / b.natAbs = q at *
  split at hq
  · rename_i hd
    have := hle2 hd
    omega
  · omega
theorem tmod_I {a b : Int} (ha : I64 a) (hb : b ≠ 0) : I64 (a.tmod b) := by
  have hq := tmod_abs a b
  unfold I64 at *
  have hml2 : a.natAbs % b.natAbs ≤ a.natAbs := Nat.mod_le _ _
  have hml : a.natAbs % b.natAbs < b.natAbs := Nat.mod_lt _ (by omega)
  generalize a.natAbs % b.natAbs = q at *
  split at hq <;> omega
theorem errR_I {p : Int × Int} (h : I64 p.1) : I64 (errR p).1 := by
  unfold errR
  split
  · exact I64_0
  · split
    · exact h
    · exact I64_0
theorem divZ_I {a b : Int} (ha : I64 a) : I64 (divZ a b).1 := by
  unfold divZ
  split
  · exact I64_0
  · rename_i hb
    split
    · exact I64_0
    · rename_i h; exact tdiv_I ha hb h
theorem modZ_I {a b : Int} (ha : I64 a) : I64 (modZ a b).1 := by
  unfold modZ
  split
  · exact I64_0
  · rename_i hb; exact tmod_I ha hb
theorem op1_I (op a : Int) (t : Bool) : I64 (op1 op a t).1 := by
  unfold op1 noOp
  repeat' split
  all_goals first | exact I64_0 | exact oneZ_I _ | exact fitR_I (fitZ_I _)
theorem opT_I (op a b : Int) : I64 (opT op a b).1 := by
  unfold opT noOp
  repeat' split
  all_goals first | exact I64_0 | exact oneZ_I _
theorem opN_I (op a b : Int) (ha : I64 a) : I64 (opN op a b).1 := by
  have k1 := fitR_I (fitZ_I (a + b))
  have k2 := fitR_I (fitZ_I (a - b))
  have k3 := fitR_I (fitZ_I (a * b))
  have k4 := errR_I (divZ_I (b := b) ha)
  have k5 := errR_I (modZ_I (b := b) ha)
  unfold opN noOp
  by_cases h8 : op = 8
  · rw [if_pos h8]; exact k1
  rw [if_neg h8]
  by_cases h9 : op = 9
  · rw [if_pos h9]; exact k2
  rw [if_neg h9]
  by_cases h10 : op = 10
  · rw [if_pos h10]; exact k3
  rw [if_neg h10]
  by_cases h11 : op = 11
  · rw [if_pos h11]; exact k4
  rw [if_neg h11]
  by_cases h12 : op = 12
  · rw [if_pos h12]; exact k5
  rw [if_neg h12]
  repeat' split
  all_goals first | exact I64_0 | exact oneZ_I _
theorem op2_I (op a b : Int) (t : Bool) (ha : I64 a) : I64 (op2 op a b t).1 := by
  unfold op2
  split
  · split
    · exact I64_0
    · exact opT_I ..
  · exact opN_I _ _ _ ha
theorem upZ_I {e b : Int} (he : I64 e) (hb : I64 b) : I64 (upZ e b) := by unfold upZ I64 at *; split <;> omega
theorem stepB_I (k : Int) (c : List Int) (h : ∀ n ∈ c, I64 n) : ∀ n ∈ stepB k c, I64 n := by
  unfold stepB
  split
  · rename_i a b q
    have ha := h a (by simp)
    have hb := h b (by simp)
    have hq := h q (by simp)
    unfold step3
    repeat' split
    all_goals (simp only [List.forall_mem_cons]; simp [ha, hb, hq, oneZ_I])
  · rename_i a b q e
    have ha := h a (by simp)
    have hb := h b (by simp)
    have hq := h q (by simp)
    have he := h e (by simp)
    have hu := upZ_I he hb
    unfold step4
    repeat' split
    all_goals (simp only [List.forall_mem_cons]; simp [ha, hb, hq, he, hu, oneZ_I, I64_0, I64_1])
  · rename_i a b q e p r
    have ha := h a (by simp)
    have hb := h b (by simp)
    have hq := h q (by simp)
    have he := h e (by simp)
    have hp := h p (by simp)
    have hr := h r (by simp)
    have hu := upZ_I he hb
    have hu0 := upZ_I I64_0 hb
    have w1 : p < 9223372036854775807 → I64 (p + 1) := fun _ => by unfold I64 at *; omega
    have w2 : -9223372036854775808 < p → I64 (p - 1) := fun _ => by unfold I64 at *; omega
    have c1 : I64 (if b ≠ 0 then 0 else if a ≠ 0 ∧ r = 0 ∧ p < 9223372036854775807 then p + 1 else p) := by
      split
      · exact I64_0
      · split
        · rename_i h; exact w1 h.2.2
        · exact hp
    have c2 : I64 (if b ≠ 0 then q else if a ≠ 0 ∧ r = 0 ∧ -9223372036854775808 < p then p - 1 else p) := by
      split
      · exact hq
      · split
        · rename_i h; exact w2 h.2.2
        · exact hp
    have c3 : I64 (if a ≠ 0 ∧ p = 0 ∧ r = 0 then 1 else r) := by split; exact I64_1; exact hr
    have c4 : I64 (if a ≠ 0 ∧ p = 0 ∧ r = 0 then 0 else e) := by split; exact I64_0; exact he
    unfold step6 tpS cuS cdS
    dsimp only
    generalize (if b ≠ 0 then 0 else if a ≠ 0 ∧ r = 0 ∧ p < 9223372036854775807 then p + 1 else p) = v1 at *
    generalize (if b ≠ 0 then q else if a ≠ 0 ∧ r = 0 ∧ -9223372036854775808 < p then p - 1 else p) = v2 at *
    generalize (if a ≠ 0 ∧ p = 0 ∧ r = 0 then (1 : Int) else r) = v3 at *
    generalize (if a ≠ 0 ∧ p = 0 ∧ r = 0 then (0 : Int) else e) = v4 at *
    have hu4 := upZ_I c4 hb
    repeat' split
    all_goals (simp only [List.forall_mem_cons]; simp [ha, hb, hq, he, hp, hr, hu, hu4, c1, c2, c3, c4, oneZ_I, I64_0, I64_1])
  · exact h
theorem atI_I {C : List Int} (h : ∀ n ∈ C, I64 n) (k : Int) : I64 (atI C k) := by
  unfold atI
  cases hk : C[k.toNat]? with
  | none => exact I64_0
  | some v => exact h v (List.mem_of_getElem? hk)
theorem setI_I {C : List Int} (h : ∀ n ∈ C, I64 n) (k : Int) {v : Int} (hv : I64 v) : ∀ n ∈ setI C k v, I64 n := by
  intro n hn
  unfold setI at hn
  rcases List.mem_or_eq_of_mem_set hn with hn | rfl
  · exact h n hn
  · exact hv
theorem top_I {S : List Int} (h : ∀ n ∈ S, I64 n) : I64 (S.getLast?.getD 0) := by
  cases hk : S.getLast? with
  | none => exact I64_0
  | some v => exact h v (List.mem_of_getLast? hk)
theorem pop_I {S : List Int} (h : ∀ n ∈ S, I64 n) : ∀ n ∈ S.dropLast, I64 n := fun n hn => h n (by rw [List.dropLast_eq_take] at hn; exact List.mem_of_mem_take hn)
theorem push_I {S : List Int} (h : ∀ n ∈ S, I64 n) {v : Int} (hv : I64 v) : ∀ n ∈ S ++ [v], I64 n := by
  intro n hn
  rcases List.mem_append.1 hn with hn | hn
  · exact h n hn
  · simp at hn; subst hn; exact hv
theorem blockF_I {C : List Int} (h : ∀ n ∈ C, I64 n) (x : Ins) : ∀ n ∈ blockF x C, I64 n := by
  intro n hn
  unfold blockF at hn
  rcases List.mem_append.1 hn with hn | hn
  · rcases List.mem_append.1 hn with hn | hn
    · exact h n (List.mem_of_mem_take hn)
    · exact stepB_I _ _ (fun m hm => h m (List.mem_of_mem_drop (List.mem_of_mem_take hm))) n hn
  · exact h n (List.mem_of_mem_drop hn)
theorem blockF_len {C : List Int} {x : Ins} (h : x.a.toNat + pinsN x.b ≤ C.length) : (blockF x C).length = C.length := by
  unfold blockF
  simp only [List.length_append, List.length_take, List.length_drop, stepB_len]
  omega
end Go.Am
end
section
namespace Go.Am
open Go Go.Proofs
structure StepFacts (x : Ins) (s t : Ms) : Prop where
  len : t.cells.length = s.cells.length
  cI : ∀ n ∈ t.cells, I64 n
  sI : ∀ n ∈ t.stk, I64 n
  h64 : t.stk.length ≤ 64
  fuel : t.fuel = s.fuel ∨ (x.op = 11 ∧ t.fuel + 1 = s.fuel ∧ s.fuel ≠ 0)
  at_ : t.at_ = s.at_ + 1 ∨ ((x.op = 9 ∨ x.op = 10) ∧ t.at_ = x.a)
  ok : t.fault = 0 → t.stk.length = hgt x s.stk.length ∧ (x.op = 9 → t.at_ = x.a) ∧ (x.op = 11 → t.fuel + 1 = s.fuel)
theorem step_facts {x : Ins} {s : Ms} (hf : Fit x s.cells.length s.stk.length) (hN : NumsOk s) (h0 : s.fault = 0) (hop : 1 ≤ x.op ∧ x.op ≤ 14) (hxn : x.op = 1 → I64 x.n) : StepFacts x s (stepF x s) := by
  obtain ⟨C, S, a, f, x0⟩ := s
  obtain ⟨hC, hS, _, _, _⟩ := hN
  simp only at hf hC hS h0
  subst h0
  have h64 := hf.top
  have oI := oneZ_I
  have aI := fun k => atI_I hC k
  have hc : x.op = 1 ∨ x.op = 2 ∨ x.op = 3 ∨ x.op = 4 ∨ x.op = 5 ∨ x.op = 6 ∨ x.op = 7 ∨ x.op = 8 ∨ x.op = 9 ∨ x.op = 10 ∨ x.op = 11 ∨ x.op = 12 ∨ x.op = 13 ∨ x.op = 14 := by omega
  rcases hc with e | e | e | e | e | e | e | e | e | e | e | e | e | e
  · have := hf.i1 e
    have hst : stepF x ⟨C, S, a, f, 0⟩ = ⟨C, S ++ [x.n], a + 1, f, 0⟩ := by simp [stepF, moveF, e, Ms.push]
    rw [hst]
    exact ⟨rfl, hC, push_I hS (hxn e), by simp; omega, .inl rfl, .inl rfl, fun _ => ⟨by simp [hgt, e], by omega, by omega⟩⟩
  · have := hf.i2 (by omega)
    have hst : stepF x ⟨C, S, a, f, 0⟩ = ⟨C, S ++ [atI C x.a], a + 1, f, 0⟩ := by simp [stepF, moveF, e, Ms.push]
    rw [hst]
    exact ⟨rfl, hC, push_I hS (aI _), by simp; omega, .inl rfl, .inl rfl, fun _ => ⟨by simp [hgt, e], by omega, by omega⟩⟩
  · have := hf.i2 (by omega)
    have hst : stepF x ⟨C, S, a, f, 0⟩ = ⟨C, S ++ [oneZ (decide (atI C x.a ≠ 0))], a + 1, f, 0⟩ := by simp [stepF, moveF, e, Ms.push]
    rw [hst]
    exact ⟨rfl, hC, push_I hS (oI _), by simp; omega, .inl rfl, .inl rfl, fun _ => ⟨by simp [hgt, e], by omega, by omega⟩⟩
  · have := hf.i4 (by omega)
    by_cases hin : inArr x (S.getLast?.getD 0) = true
    · have hst : stepF x ⟨C, S, a, f, 0⟩ = ⟨C, S.dropLast ++ [atI C (x.a + (S.getLast?.getD 0 - x.n))], a + 1, f, 0⟩ := by simp [stepF, moveF, e, Ms.push, Ms.pop, Ms.top, hin]
      rw [hst]
      exact ⟨rfl, hC, push_I (pop_I hS) (aI _), by simp; omega, .inl rfl, .inl rfl, fun _ => ⟨by simp [hgt, e]; omega, by omega, by omega⟩⟩
    · have hst : stepF x ⟨C, S, a, f, 0⟩ = ⟨C, S.dropLast, a + 1, f, 3⟩ := by simp [stepF, moveF, e, Ms.push, Ms.pop, Ms.top, hin]
      rw [hst]
      exact ⟨rfl, hC, pop_I hS, by simp; omega, .inl rfl, .inl rfl, fun h => by simp at h⟩
  · have := hf.i4 (by omega)
    by_cases hin : inArr x (S.getLast?.getD 0) = true
    · have hst : stepF x ⟨C, S, a, f, 0⟩ = ⟨C, S.dropLast ++ [oneZ (decide (atI C (x.a + (S.getLast?.getD 0 - x.n)) ≠ 0))], a + 1, f, 0⟩ := by by_cases hz : atI C (x.a + (S.getLast?.getD 0 - x.n)) = 0 <;> simp [stepF, moveF, e, Ms.push, Ms.pop, Ms.top, hin, hz]
      rw [hst]
      exact ⟨rfl, hC, push_I (pop_I hS) (oI _), by simp; omega, .inl rfl, .inl rfl, fun _ => ⟨by simp [hgt, e]; omega, by omega, by omega⟩⟩
    · have hst : stepF x ⟨C, S, a, f, 0⟩ = ⟨C, S.dropLast, a + 1, f, 3⟩ := by simp [stepF, moveF, e, Ms.push, Ms.pop, Ms.top, hin]
      rw [hst]
      exact ⟨rfl, hC, pop_I hS, by simp; omega, .inl rfl, .inl rfl, fun h => by simp at h⟩
  · have := hf.i6 e
    have hst : stepF x ⟨C, S, a, f, 0⟩ = ⟨setI C x.a (S.getLast?.getD 0), S.dropLast, a + 1, f, 0⟩ := by simp [stepF, moveF, e, Ms.pop, Ms.top]
    rw [hst]
    exact ⟨by simp [setI], setI_I hC _ (top_I hS), pop_I hS, by simp; omega, .inl rfl, .inl rfl, fun _ => ⟨by simp [hgt, e], by omega, by omega⟩⟩
  · have := hf.i7 e
    by_cases hin : inArr x (S.dropLast.getLast?.getD 0) = true
    · have hst : stepF x ⟨C, S, a, f, 0⟩ = ⟨setI C (x.a + (S.dropLast.getLast?.getD 0 - x.n)) (S.getLast?.getD 0), S.dropLast.dropLast, a + 1, f, 0⟩ := by simp [stepF, moveF, e, Ms.push, Ms.pop, Ms.top, hin]
      rw [hst]
      exact ⟨by simp [setI], setI_I hC _ (top_I hS), pop_I (pop_I hS), by simp; omega, .inl rfl, .inl rfl, fun _ => ⟨by simp [hgt, e]; omega, by omega, by omega⟩⟩
    · have hst : stepF x ⟨C, S, a, f, 0⟩ = ⟨C, S.dropLast.dropLast, a + 1, f, 3⟩ := by simp [stepF, moveF, e, Ms.push, Ms.pop, Ms.top, hin]
      rw [hst]
      exact ⟨rfl, hC, pop_I (pop_I hS), by simp; omega, .inl rfl, .inl rfl, fun h => by simp at h⟩
  · obtain ⟨f1, f2⟩ := hf.i8 e
    have hst : stepF x ⟨C, S, a, f, 0⟩ = doF x ⟨C, S, a + 1, f, 0⟩ := by simp [stepF, moveF, ctlF, e]
    rw [hst]
    unfold doF
    by_cases hb : x.b = 6 ∨ x.b = 7
    · have := f1 hb
      rw [if_pos hb]
      have key : ∀ p : Int × Bool × Int, I64 p.1 → StepFacts x ⟨C, S, a, f, 0⟩ (if p.2.2 = 0 then ⟨C, S.dropLast ++ [p.1], a + 1, f, 0⟩ else ⟨C, S.dropLast, a + 1, f, p.2.2⟩) := by
        intro p hI
        by_cases hp : p.2.2 = 0
        · rw [if_pos hp]
          exact ⟨rfl, hC, push_I (pop_I hS) hI, by simp; omega, .inl rfl, .inl rfl, fun _ => ⟨by simp [hgt, e, hb]; omega, by omega, by omega⟩⟩
        · rw [if_neg hp]
          exact ⟨rfl, hC, pop_I hS, by simp; omega, .inl rfl, .inl rfl, fun h => absurd h hp⟩
      exact key _ (op1_I x.b (S.getLast?.getD 0) (decide (x.a = 1)))
    · have := f2 hb
      rw [if_neg hb]
      have key : ∀ p : Int × Bool × Int, I64 p.1 → StepFacts x ⟨C, S, a, f, 0⟩ (if p.2.2 = 0 then ⟨C, S.dropLast.dropLast ++ [p.1], a + 1, f, 0⟩ else ⟨C, S.dropLast.dropLast, a + 1, f, p.2.2⟩) := by
        intro p hI
        by_cases hp : p.2.2 = 0
        · rw [if_pos hp]
          exact ⟨rfl, hC, push_I (pop_I (pop_I hS)) hI, by simp; omega, .inl rfl, .inl rfl, fun _ => ⟨by simp [hgt, e, hb]; omega, by omega, by omega⟩⟩
        · rw [if_neg hp]
          exact ⟨rfl, hC, pop_I (pop_I hS), by simp; omega, .inl rfl, .inl rfl, fun h => absurd h hp⟩
      exact key _ (op2_I x.b (S.dropLast.getLast?.getD 0) (S.getLast?.getD 0) (decide (x.a = 1)) (top_I (pop_I hS)))
  · have hst : stepF x ⟨C, S, a, f, 0⟩ = ⟨C, S, x.a, f, 0⟩ := by simp [stepF, moveF, ctlF, e]
    rw [hst]
    exact ⟨rfl, hC, hS, h64, .inl rfl, .inr ⟨.inl e, rfl⟩, fun _ => ⟨by simp [hgt, e], fun _ => rfl, by omega⟩⟩
  · have := hf.i10 e
    by_cases hz : S.getLast?.getD 0 = 0
    · have hst : stepF x ⟨C, S, a, f, 0⟩ = ⟨C, S.dropLast, x.a, f, 0⟩ := by simp [stepF, moveF, ctlF, e, Ms.top, Ms.pop, hz]
      rw [hst]
      exact ⟨rfl, hC, pop_I hS, by simp; omega, .inl rfl, .inr ⟨.inr e, rfl⟩, fun _ => ⟨by simp [hgt, e], by omega, by omega⟩⟩
    · have hst : stepF x ⟨C, S, a, f, 0⟩ = ⟨C, S.dropLast, a + 1, f, 0⟩ := by simp [stepF, moveF, ctlF, e, Ms.top, Ms.pop, hz]
      rw [hst]
      exact ⟨rfl, hC, pop_I hS, by simp; omega, .inl rfl, .inl rfl, fun _ => ⟨by simp [hgt, e], by omega, by omega⟩⟩
  · by_cases hz : f = 0
    · have hst : stepF x ⟨C, S, a, f, 0⟩ = ⟨C, S, a + 1, f, 4⟩ := by simp [stepF, moveF, ctlF, e, hz]
      rw [hst]
      exact ⟨rfl, hC, hS, h64, .inl rfl, .inl rfl, fun h => by simp at h⟩
    · have hst : stepF x ⟨C, S, a, f, 0⟩ = ⟨C, S, a + 1, f - 1, 0⟩ := by simp [stepF, moveF, ctlF, e, hz]
      rw [hst]
      exact ⟨rfl, hC, hS, h64, .inr ⟨e, by simp, hz⟩, .inl rfl, fun _ => ⟨by simp [hgt, e], by omega, fun _ => by simp⟩⟩
  · have := hf.i12 e
    have hst : stepF x ⟨C, S, a, f, 0⟩ = ⟨blockF x C, S, a + 1, f, 0⟩ := by simp [stepF, moveF, ctlF, e]
    rw [hst]
    exact ⟨blockF_len this.2, blockF_I hC x, hS, h64, .inl rfl, .inl rfl, fun _ => ⟨by simp [hgt, e], by omega, by omega⟩⟩
  · have := hf.i13 e
    have hst : stepF x ⟨C, S, a, f, 0⟩ = ⟨C, S ++ [oneZ (upToS C x)], a + 1, f, 0⟩ := by simp [stepF, moveF, ctlF, e, Ms.push]
    rw [hst]
    exact ⟨rfl, hC, push_I hS (oI _), by simp; omega, .inl rfl, .inl rfl, fun _ => ⟨by simp [hgt, e], by omega, by omega⟩⟩
  · have := hf.i2 (by omega)
    have hst : stepF x ⟨C, S, a, f, 0⟩ = ⟨C, S ++ [oneZ (decide (x.n ≤ atI C x.a ∧ atI C x.a ≤ x.m))], a + 1, f, 0⟩ := by simp [stepF, moveF, ctlF, e, Ms.push]
    rw [hst]
    exact ⟨rfl, hC, push_I hS (oI _), by simp; omega, .inl rfl, .inl rfl, fun _ => ⟨by simp [hgt, e], by omega, by omega⟩⟩
/-- Numbers in code have room. -/
def InsOk (l : List Ins) : Prop := ∀ x ∈ l, I64 x.n
theorem step_inv {l : List Ins} {r : Nat → Nat} {st : Nat → List Bool} {n : Nat} {s : Ms} {x : Ins} (hg : Good pinsN n l r st) (hl : InsOk l) (hv : VInv l st n s) (h0 : s.fault = 0) (hx : l[s.at_.toNat]? = some x) (h15 : x.op ≠ 15) :
    Fit x s.cells.length s.stk.length ∧ (1 ≤ x.op ∧ x.op ≤ 14) ∧ VInv l st n (stepF x s) ∧ ((stepF x s).fault = 0 → (stepF x s).fuel + 1 = s.fuel ∨ ((stepF x s).fuel = s.fuel ∧ r (stepF x s).at_.toNat < r s.at_.toNat)) := by
  obtain ⟨hh1, hh2⟩ := hv.here h0
  have hp := hv.nums.place
  have hlen := hg.len
  obtain ⟨hfit, hS', hs10, hs9, hop⟩ := fit_of (S' := st (s.at_.toNat + 1)) (hg.form _ x hx) (hg.mv _ x hx) (by rw [← hh2]; exact hv.h64)
  rw [← hh2] at hfit hS'
  have hfit' : Fit x s.cells.length s.stk.length := by rw [hv.len]; exact hfit
  have hop' : 1 ≤ x.op ∧ x.op ≤ 14 := by omega
  have hF := step_facts hfit' hv.nums h0 hop' (fun _ => hl x (List.mem_of_getElem? hx))
  have hnl : s.at_.toNat + 1 < l.length := by
    have : ¬ s.at_.toNat + 1 = l.length := fun h => h15 ((hg.fifteen hx).2 h)
    omega
  have hja : (x.op = 9 ∨ x.op = 10) → 0 ≤ x.a ∧ x.a.toNat < l.length := fun hj => hg.tgt hx hj
  have hat : 0 ≤ (stepF x s).at_ ∧ (stepF x s).at_.toNat < l.length := by
    rcases hF.at_ with h | ⟨h1, h2⟩
    · rw [h]; omega
    · rw [h2]; exact hja h1
  have hnext : (stepF x s).at_.toNat ∈ nextI l s.at_.toNat ∨ (stepF x s).fault ≠ 0 := by
    by_cases hfz : (stepF x s).fault = 0
    · left
      unfold nextI
      rw [hx]
      simp only
      by_cases e9 : x.op = 9
      · rw [if_pos e9, (hF.ok hfz).2.1 e9]; simp
      · rw [if_neg e9]
        by_cases e10 : x.op = 10
        · rw [if_pos e10]
          rcases hF.at_ with h | ⟨_, h2⟩
          · rw [h]; simp; left; omega
          · rw [h2]; simp
        · rw [if_neg e10, if_neg h15]
          rcases hF.at_ with h | ⟨h1, _⟩
          · rw [h]; simp; omega
          · omega
    · exact .inr hfz
  refine ⟨hfit', hop', ⟨⟨hF.cI, hF.sI, by rw [hF.len]; exact hv.nums.few, ?_, by omega⟩, by rw [hF.len]; exact hv.len, hF.h64, fun hfz => ⟨hat.2, ?_⟩⟩, fun hfz => ?_⟩
  · have := hv.nums.fuel
    rcases hF.fuel with h | ⟨_, h, h2⟩ <;> omega
  · obtain ⟨k1, k2, k3⟩ := hF.ok hfz
    rw [k1]
    by_cases hj : x.op = 9 ∨ x.op = 10
    · have hled := hg.led _ x hx hj
      rcases hF.at_ with h | ⟨_, h⟩
      · rw [h, ← hS']
        congr 2
        omega
      · rw [h, hled]
        rcases hj with e | e
        · rw [← hS', hs9 e]; rfl
        · rw [← hS', hs10 e]; rfl
    · rcases hF.at_ with h | ⟨h1, _⟩
      · rw [h, ← hS']
        congr 2
        omega
      · exact absurd h1 hj
  · by_cases e11 : x.op = 11
    · exact .inl ((hF.ok hfz).2.2 e11)
    · right
      refine ⟨?_, ?_⟩
      · rcases hF.fuel with h | ⟨h, _⟩
        · exact h
        · exact absurd h e11
      · rcases hnext with h | h
        · exact hg.rank _ x hx e11 _ h
        · exact absurd hfz h
theorem runs_ex {l : List Ins} {r : Nat → Nat} {st : Nat → List Bool} {n : Nat} (hg : Good pinsN n l r st) (hl : InsOk l) : ∀ (f k : Nat) (s : Ms), VInv l st n s → s.fuel = (f : Int) → r s.at_.toNat ≤ k → ∃ t, RunsF l s t ∧ VInv l st n t := by
  intro f
  induction f with
  | zero =>
    intro k
    induction k with
    | zero =>
      intro s hv hf hr
      by_cases h0 : s.fault = 0
      · obtain ⟨x, hx⟩ : ∃ x, l[s.at_.toNat]? = some x := ⟨_, List.getElem?_eq_getElem (hv.here h0).1⟩
        by_cases h15 : x.op = 15
        · exact ⟨s, .fin s x h0 hx h15, hv⟩
        · obtain ⟨_, _, hv', hd⟩ := step_inv hg hl hv h0 hx h15
          by_cases hfz : (stepF x s).fault = 0
          · have := hd hfz
            have := hv'.nums.fuel
            omega
          · exact ⟨_, .step s x _ h0 hx h15 (.fault _ hfz), hv'⟩
      · exact ⟨s, .fault s h0, hv⟩
    | succ k ih =>
      intro s hv hf hr
      by_cases h0 : s.fault = 0
      · obtain ⟨x, hx⟩ : ∃ x, l[s.at_.toNat]? = some x := ⟨_, List.getElem?_eq_getElem (hv.here h0).1⟩
        by_cases h15 : x.op = 15
        · exact ⟨s, .fin s x h0 hx h15, hv⟩
        · obtain ⟨_, _, hv', hd⟩ := step_inv hg hl hv h0 hx h15
          by_cases hfz : (stepF x s).fault = 0
          · have hd := hd hfz
            have := hv'.nums.fuel
            obtain ⟨t, h1, h2⟩ := ih (stepF x s) hv' (by omega) (by omega)
            exact ⟨t, .step s x _ h0 hx h15 h1, h2⟩
          · exact ⟨_, .step s x _ h0 hx h15 (.fault _ hfz), hv'⟩
      · exact ⟨s, .fault s h0, hv⟩
  | succ f ihf =>
    intro k
    induction k with
    | zero =>
      intro s hv hf hr
      by_cases h0 : s.fault = 0
      · obtain ⟨x, hx⟩ : ∃ x, l[s.at_.toNat]? = some x := ⟨_, List.getElem?_eq_getElem (hv.here h0).1⟩
        by_cases h15 : x.op = 15
        · exact ⟨s, .fin s x h0 hx h15, hv⟩
        · obtain ⟨_, _, hv', hd⟩ := step_inv hg hl hv h0 hx h15
          by_cases hfz : (stepF x s).fault = 0
          · have hd := hd hfz
            obtain ⟨t, h1, h2⟩ := ihf (r (stepF x s).at_.toNat) (stepF x s) hv' (by omega) (Nat.le_refl _)
            exact ⟨t, .step s x _ h0 hx h15 h1, h2⟩
          · exact ⟨_, .step s x _ h0 hx h15 (.fault _ hfz), hv'⟩
      · exact ⟨s, .fault s h0, hv⟩
    | succ k ih =>
      intro s hv hf hr
      by_cases h0 : s.fault = 0
      · obtain ⟨x, hx⟩ : ∃ x, l[s.at_.toNat]? = some x := ⟨_, List.getElem?_eq_getElem (hv.here h0).1⟩
        by_cases h15 : x.op = 15
        · exact ⟨s, .fin s x h0 hx h15, hv⟩
        · obtain ⟨_, _, hv', hd⟩ := step_inv hg hl hv h0 hx h15
          by_cases hfz : (stepF x s).fault = 0
          · rcases hd hfz with hd | ⟨hd1, hd2⟩
            · obtain ⟨t, h1, h2⟩ := ihf (r (stepF x s).at_.toNat) (stepF x s) hv' (by omega) (Nat.le_refl _)
              exact ⟨t, .step s x _ h0 hx h15 h1, h2⟩
            · obtain ⟨t, h1, h2⟩ := ih (stepF x s) hv' (by omega) (by omega)
              exact ⟨t, .step s x _ h0 hx h15 h1, h2⟩
          · exact ⟨_, .step s x _ h0 hx h15 (.fault _ hfz), hv'⟩
      · exact ⟨s, .fault s h0, hv⟩
end Go.Am
end
section
namespace Go.Am
open Go Go.Proofs
set_option maxRecDepth 20000
theorem forms_loop (pins : Int → Nat) (hp : PinsOk 38 pins) (vars cells : Int) (n1 n2 : Nat) (S T : List D) (B : Cont) (hc : 0 ≤ cells ∧ cells ≤ 8192) (L : Int) : ∀ (rest pre : List Ins) (v : Nat) (ct : Cont), ((pre ++ rest).length : Int) - 1 = L → (pre ++ rest).length ≤ 5000 → ∀ k : Kt,
    ∃ v' ct', denK ctx 25 (.loop (Code.at (codeOf Tryd.f25) [1, 1, 1, 1, 0, 1, 0, 0])) ⟨66, gl0, [(0, true, .ptr 0 0 0), (53, true, .d (.list ((pre ++ rest).map insD))), (54, true, .d (.int .i64 (pre ++ rest).length)), (55, true, .d (.int .i64 pre.length))],
        [⟨0, 0, kBox (pre ++ rest) vars cells (.vec 1 0 0 n1) (.vec 2 0 0 n2)⟩, ⟨1, 0, .vec 1 S⟩, ⟨2, 0, .vec 1 T⟩, ⟨250, 1, B⟩, ⟨400, v, ct⟩]⟩ k =
      if formsB pins cells L pre.length rest = true then
        k (.exit 0) ⟨66, gl0, [(0, true, .ptr 0 0 0), (53, true, .d (.list ((pre ++ rest).map insD))), (54, true, .d (.int .i64 (pre ++ rest).length)), (55, true, .d (.int .i64 (pre ++ rest).length)), (56, true, .d (.bool false))],
        [⟨0, 0, kBox (pre ++ rest) vars cells (.vec 1 0 0 n1) (.vec 2 0 0 n2)⟩, ⟨1, 0, .vec 1 S⟩, ⟨2, 0, .vec 1 T⟩, ⟨250, 1, B⟩, ⟨400, v', ct'⟩]⟩
      else k .ret ⟨66, gl0, [(2, true, .d (.bool false))], [⟨0, 0, kBox (pre ++ rest) vars cells (.vec 1 0 0 n1) (.vec 2 0 0 n2)⟩, ⟨1, 0, .vec 1 S⟩, ⟨2, 0, .vec 1 T⟩, ⟨250, 1, B⟩, ⟨400, v', ct'⟩]⟩
  | [], pre, v, ct, hL, hl, k => by
    refine ⟨v, ct, ?_⟩
    rw [denK_loop]
    simp [Tryd.f25, formsB]
  | x :: rest, pre, v, ct, hL, hl, k => by
    have hf := form_run pins hp (pre ++ x :: rest) vars cells n1 n2 S T pre.length x hc hl
    rw [hL] at hf
    have h1 : (pre.length : Int) < pre.length + (rest.length + 1) := by omega
    have h2 : IntKind.i64.wrap ((pre.length : Int) + 1) = pre.length + 1 := wrap_id (by unfold I64; simp at hl; omega)
    cases hq : formB pins cells L pre.length x
    · refine ⟨v + 1, .box [.d (.int .i64 x.op), .d (.int .i64 x.a), .d (.int .i64 x.b), .d (.int .i64 x.n), .d (.int .i64 x.m)], ?_⟩
      rw [denK_loop]
      simp [hq] at hf
      simp [Tryd.f25, formsB, hq]
      simp [h1, hf]
    · obtain ⟨v', ct', ih⟩ := forms_loop pins hp vars cells n1 n2 S T B hc L rest (pre ++ [x]) (v + 1) (.box [.d (.int .i64 x.op), .d (.int .i64 x.a), .d (.int .i64 x.b), .d (.int .i64 x.n), .d (.int .i64 x.m)]) (by simpa using hL) (by simpa using hl) k
      refine ⟨v', ct', ?_⟩
      rw [denK_loop]
      simp [hq] at hf
      simp [Tryd.f25, formsB, hq] at ih ⊢
      simp [h1, h2, hf, ih]
theorem forms_run (pins : Int → Nat) (hp : PinsOk 38 pins) (ins : List Ins) (vars cells : Int) (n1 n2 : Nat) (S T : List D) (hl : ins.length ≤ 5000) :
    callT ctx 25 [.ptr 0 0 0] [kBox ins vars cells (.vec 1 0 0 n1) (.vec 2 0 0 n2), .vec 1 S, .vec 1 T] =
      some (.ret (.d (.bool (okForms pins ins vars cells))), [(0, kBox ins vars cells (.vec 1 0 0 n1) (.vec 2 0 0 n2)), (0, .vec 1 S), (0, .vec 1 T)]) := by
  rw [run25 (by simp)]
  unfold okForms headB
  by_cases h1 : 1 ≤ (ins.length : Int)
  · have c1 : ¬ ((ins.length : Int) < 1) := by omega
    obtain ⟨ini, last, rfl⟩ : ∃ ini last, ins = ini ++ [last] := ⟨ins.dropLast, ins.getLast (by intro h; simp [h] at h1), (List.dropLast_concat_getLast _).symm⟩
    have hlast : lastOp (ini ++ [last]) = last.op := by simp [lastOp]
    rw [hlast]
    have w1 : IntKind.i64.wrap ((ini.length : Int) + 1 - 1) = ini.length := by rw [wrap_id (by unfold I64; simp at hl; omega)]; omega
    simp at w1
    simp only [List.length_append, List.length_cons, List.length_nil] at hl
    by_cases h2 : (ini.length : Int) + 1 ≤ 4096
    rotate_left
    · have h2' : (4096 : Int) < (ini.length : Int) + 1 := by omega
      simp [Tryd.f25, h2, h2', w1]
    have h2' : ¬ ((4096 : Int) < (ini.length : Int) + 1) := by omega
    by_cases h3 : 0 ≤ cells
    rotate_left
    · simp [Tryd.f25, h2, h2', h3, w1]
    by_cases h4 : cells ≤ 8192
    rotate_left
    · simp [Tryd.f25, h2, h2', h3, h4, w1]
    by_cases h5 : 0 ≤ vars
    rotate_left
    · simp [Tryd.f25, h2, h2', h3, h4, h5, w1]
    by_cases h6 : vars ≤ cells
    rotate_left
    · simp [Tryd.f25, h2, h2', h3, h4, h5, h6, w1]
    by_cases h7 : last.op = 15
    rotate_left
    · simp [Tryd.f25, h2, h2', h3, h4, h5, h6, h7, w1]
    have h8 : (1 : Int) ≤ (ini.length : Int) + 1 := by omega
    have hloop := fun B => forms_loop pins hp vars cells n1 n2 S T B ⟨h3, h4⟩ ini.length (ini ++ [last]) [] 0 .dead (by simp) (by simp; omega)
    simp [Tryd.f25, h2, h2', h3, h4, h5, h6, h7, h8, w1] at hloop ⊢
    obtain ⟨v', ct', h9⟩ := hloop _ _
    rw [h9]
    split
    · rename_i q; simp [q]
    · rename_i q; simp [q]
  · have c1 : (ins.length : Int) < 1 := by omega
    simp [Tryd.f25, c1, h1]
end Go.Am
end
section
namespace Go.Am
open Go Go.Proofs
set_option maxRecDepth 20000
section
variable (ins : List Ins) (vars cells : Int) (n2 : Nat) (T : List D)
theorem give_run (t : Bool) (S : List Bool) (hl : S.length ≤ 5000) :
    callT ctx 72 [.ptr 0 0 0, .d (.bool t)] [kBox ins vars cells (.vec 1 0 0 S.length) (.vec 2 0 0 n2), .vec 1 (bD S), .vec 1 T] =
      some (.ret (.d (.bool (decide (S.length < 64)))), [(0, kBox ins vars cells (.vec 1 1 0 (S.length + 1)) (.vec 2 0 0 n2)), (1, .vec 1 (bD (S ++ [t]))), (0, .vec 1 T)]) := by
  have g1 : S.length + 1 ≤ 140737488355328 ∧ S.length ≤ 4611686018427387903 := by omega
  have g2 : ((S.length : Int) + 1 ≤ 64) = (S.length < 64) := by simp; omega
  rw [run72 (by simp)]
  simp [Tryd.f72, g1, g2]
theorem empty_run (S : List D) (n1 : Nat) :
    callT ctx 49 [.ptr 0 0 0] [kBox ins vars cells (.vec 1 0 0 n1) (.vec 2 0 0 n2), .vec 1 S, .vec 1 T] =
      some (.ret (.d (.bool (decide (n1 = 0)))), [(0, kBox ins vars cells (.vec 1 0 0 n1) (.vec 2 0 0 n2)), (0, .vec 1 S), (0, .vec 1 T)]) := by
  rw [run49 (by simp)]
  by_cases q : n1 = 0 <;> simp [Tryd.f49, q]
theorem take_loop (n : Nat) (t : Bool) (A : List Bool) (hA : A.length ≤ 5000) : ∀ (rest pre : List Bool), (pre ++ rest).length = n → n ≤ 5000 → ∀ k : Kt,
    denK ctx 73 (.loop (Code.at (codeOf Tryd.f73) [1, 1, 0, 1, 0, 0])) ⟨54, gl0, [(0, true, .ptr 0 0 0), (1, true, .d (.int .i64 n)), (2, true, .d (.bool t)), (27, true, .vec 1 0 A.length n), (28, true, .d (.int .i64 n)), (29, true, .d (.int .i64 pre.length))],
      [⟨0, 0, kBox ins vars cells (.vec 1 0 0 (A ++ (pre ++ rest)).length) (.vec 2 0 0 n2)⟩, ⟨1, 0, .vec 1 (bD (A ++ (pre ++ rest)))⟩, ⟨2, 0, .vec 1 T⟩]⟩ k =
      if (t && rest.any (fun b => !b)) = true then k .ret ⟨54, gl0, [(6, true, .d (.bool false))], [⟨0, 0, kBox ins vars cells (.vec 1 0 0 (A ++ (pre ++ rest)).length) (.vec 2 0 0 n2)⟩, ⟨1, 0, .vec 1 (bD (A ++ (pre ++ rest)))⟩, ⟨2, 0, .vec 1 T⟩]⟩
      else k (.exit 0) ⟨54, gl0, [(0, true, .ptr 0 0 0), (1, true, .d (.int .i64 n)), (2, true, .d (.bool t)), (27, true, .vec 1 0 A.length n), (28, true, .d (.int .i64 n)), (29, true, .d (.int .i64 n)), (30, true, .d (.bool false))],
      [⟨0, 0, kBox ins vars cells (.vec 1 0 0 (A ++ (pre ++ rest)).length) (.vec 2 0 0 n2)⟩, ⟨1, 0, .vec 1 (bD (A ++ (pre ++ rest)))⟩, ⟨2, 0, .vec 1 T⟩]⟩
  | [], pre, hn, hl, k => by
    subst hn
    rw [denK_loop]
    simp [Tryd.f73]
  | x :: rest, pre, hn, hl, k => by
    have ih := take_loop n t A hA rest (pre ++ [x]) (by simpa using hn) hl k
    have h1 : (pre.length : Int) < n := by simp at hn; omega
    have h1' : pre.length < n := by omega
    have h2 : IntKind.i64.wrap ((pre.length : Int) + 1) = pre.length + 1 := wrap_id (by unfold I64; omega)
    rw [denK_loop]
    simp [Tryd.f73] at ih ⊢
    cases t
    · simp [h1, h1', h2] at ih ⊢
      exact ih
    · cases x
      · simp [h1, h1', h2]
      · simp [h1, h1', h2] at ih ⊢
        exact ih
theorem take_run (n : Nat) (t : Bool) (S : List Bool) (hl : S.length ≤ 5000) (hn : n ≤ 5000) :
    callT ctx 73 [.ptr 0 0 0, .d (.int .i64 n), .d (.bool t)] [kBox ins vars cells (.vec 1 0 0 S.length) (.vec 2 0 0 n2), .vec 1 (bD S), .vec 1 T] =
      match takeS n t S with
      | some S' => some (.ret (.d (.bool true)), [(0, kBox ins vars cells (.vec 1 1 0 S'.length) (.vec 2 0 0 n2)), (1, .vec 1 (bD S')), (0, .vec 1 T)])
      | none => some (.ret (.d (.bool false)), [(0, kBox ins vars cells (.vec 1 1 0 S.length) (.vec 2 0 0 n2)), (1, .vec 1 (bD S)), (0, .vec 1 T)]) := by
  rw [run73 (by simp)]
  unfold takeS
  by_cases h1 : S.length < n
  · have h1' : (S.length : Int) < n := by omega
    simp [Tryd.f73, h1, h1']
  · have h1' : ¬ ((S.length : Int) < n) := by omega
    obtain ⟨A, B, rfl, hB⟩ : ∃ A B, S = A ++ B ∧ B.length = n := ⟨S.take (S.length - n), S.drop (S.length - n), (List.take_append_drop _ _).symm, by simp; omega⟩
    have hA : (A ++ B).length - n = A.length := by simp; omega
    have w1 : IntKind.i64.wrap (((A ++ B).length : Int) - n) = A.length := by rw [wrap_id (by unfold I64; omega)]; simp; omega
    have hloop := take_loop ins vars cells n2 T n t A (by simp at hl; omega) B [] (by simpa using hB) hn
    have hAn : A.length + B.length - A.length = n := by omega
    have hAn2 : A.length + n - A.length = n := by omega
    subst hB
    rw [hA]
    have c1 : ¬ ((A.length : Int) + B.length < B.length) := by omega
    have c2 : (A.length : Int) ≤ (A.length : Int) + B.length := by omega
    have c3 : ((A.length : Int) + B.length).toNat - A.length = B.length := by omega
    have c4 : ¬ (A.length + B.length < B.length) := by omega
    simp at h1 h1' w1
    simp [Tryd.f73] at hloop ⊢
    simp [w1, c1, c2, c3, c4]
    rw [drwK_nil (by kernel_rfl)]
    simp [c1, c2, c3, c4, hloop]
    by_cases q : t = true ∧ false ∈ B
    · simp [q]
    · rw [if_neg q, if_neg q]
      simp [w1, c1, c2, c3, c4]
      rw [drwK_nil (by kernel_rfl)]
      simp [w1]
end
end Go.Am
end
section
namespace Go.Am
open Go Go.Proofs
set_option maxRecDepth 20000
section
variable (ins : List Ins) (vars cells : Int) (n2 : Nat) (T : List D)
def MovesOk (x : Ins) (S : List Bool) (r : Ans) : Prop := ∃ S' : List Bool, r = some (.ret (.d (.bool (movesS x S).isSome)), [(0, kBox ins vars cells (.vec 1 1 0 S'.length) (.vec 2 0 0 n2)), (1, .vec 1 (bD S')), (0, .vec 1 T)]) ∧ ∀ S2, movesS x S = some S2 → S2 = S'
theorem takeS_len {n : Nat} {t : Bool} {S S' : List Bool} (h : takeS n t S = some S') : S'.length ≤ S.length := by
  unfold takeS at h
  split at h
  · cases h
  · split at h
    · cases h
    · cases h; simp
set_option maxHeartbeats 4000000 in
theorem moves_run (x : Ins) (S : List Bool) (hl : S.length ≤ 64) :
    MovesOk ins vars cells n2 T x S (callT ctx 50 [.ptr 0 0 0, .d (insD x)] [kBox ins vars cells (.vec 1 0 0 S.length) (.vec 2 0 0 n2), .vec 1 (bD S), .vec 1 T]) := by
  rw [run50 (by simp)]
  unfold MovesOk movesS
  have hgt := give_run ins vars cells n2 T true S (by omega)
  have hgf := give_run ins vars cells n2 T false S (by omega)
  have he := empty_run ins vars cells n2 T (bD S) S.length
  simp at hgt hgf he
  by_cases e1 : x.op = 1
  · refine ⟨S ++ [decide (x.n = 0) || decide (x.n = 1)], ?_, ?_⟩
    · by_cases q : x.n = 0
      · simp [Tryd.f50, e1, q, hgt, giveS]
        split <;> simp [*]
      · by_cases q1 : x.n = 1
        · simp [Tryd.f50, e1, q1, hgt, giveS]
          split <;> simp [*]
        · simp [Tryd.f50, e1, q, q1, hgf, giveS]
          split <;> simp [*]
    · simp [e1, giveS]
  by_cases e2 : x.op = 2
  · refine ⟨S ++ [false], ?_, ?_⟩
    · simp [Tryd.f50, e2, hgf, giveS]
      split <;> simp [*]
    · simp [e2, giveS]
  by_cases e3 : x.op = 3
  · refine ⟨S ++ [true], ?_, ?_⟩
    · simp [Tryd.f50, e3, hgt, giveS]
      split <;> simp [*]
    · simp [e3, giveS]
  by_cases e13 : x.op = 13
  · refine ⟨S ++ [true], ?_, ?_⟩
    · simp [Tryd.f50, e13, hgt, giveS]
      split <;> simp [*]
    · simp [e13, giveS]
  by_cases e14 : x.op = 14
  · refine ⟨S ++ [true], ?_, ?_⟩
    · simp [Tryd.f50, e14, hgt, giveS]
      split <;> simp [*]
    · simp [e14, giveS]
  have ht1 := take_run ins vars cells n2 T 1 false S (by omega) (by omega)
  by_cases e4 : x.op = 4
  · cases q : takeS 1 false S with
    | none =>
      simp [q] at ht1
      refine ⟨S, ?_, ?_⟩
      · simp [Tryd.f50, e4, ht1, q]
      · simp [e4, q]
    | some S1 =>
      have hl1 := takeS_len q
      have hg1 := give_run ins vars cells n2 T false S1 (by omega)
      simp [q] at ht1
      simp at hg1
      refine ⟨S1 ++ [false], ?_, ?_⟩
      · simp [Tryd.f50, e4, ht1, hg1, q, giveS]
        split <;> simp [*]
      · simp [e4, q, giveS]
  by_cases e5 : x.op = 5
  · cases q : takeS 1 false S with
    | none =>
      simp [q] at ht1
      refine ⟨S, ?_, ?_⟩
      · simp [Tryd.f50, e5, ht1, q]
      · simp [e5, q]
    | some S1 =>
      have hl1 := takeS_len q
      have hg1 := give_run ins vars cells n2 T true S1 (by omega)
      simp [q] at ht1
      simp at hg1
      refine ⟨S1 ++ [true], ?_, ?_⟩
      · simp [Tryd.f50, e5, ht1, hg1, q, giveS]
        split <;> simp [*]
      · simp [e5, q, giveS]
  by_cases e6 : x.op = 6
  · cases q : takeS 1 false S with
    | none =>
      simp [q] at ht1
      refine ⟨S, ?_, ?_⟩
      · simp [Tryd.f50, e6, ht1, q]
      · simp [e6, q]
    | some S1 =>
      simp [q] at ht1
      refine ⟨S1, ?_, ?_⟩
      · simp [Tryd.f50, e6, ht1, q]
      · simp [e6, q]
  by_cases e7 : x.op = 7
  · have ht2 := take_run ins vars cells n2 T 2 false S (by omega) (by omega)
    cases q : takeS 2 false S with
    | none =>
      simp [q] at ht2
      refine ⟨S, ?_, ?_⟩
      · simp [Tryd.f50, e7, ht2, q]
      · simp [e7, q]
    | some S1 =>
      simp [q] at ht2
      refine ⟨S1, ?_, ?_⟩
      · simp [Tryd.f50, e7, ht2, q]
      · simp [e7, q]
  by_cases e10 : x.op = 10
  · have ht2 := take_run ins vars cells n2 T 1 true S (by omega) (by omega)
    cases q : takeS 1 true S with
    | none =>
      simp [q] at ht2
      refine ⟨S, ?_, ?_⟩
      · simp [Tryd.f50, e10, ht2, q]
      · simp [e10, q]
    | some S1 =>
      have he1 := empty_run ins vars cells n2 T (bD S1) S1.length
      simp at he1
      simp [q] at ht2
      refine ⟨S1, ?_, ?_⟩
      · simp [Tryd.f50, e10, ht2, q, emptyS, he1]
        split <;> simp [*]
      · simp [e10, q, emptyS]
  by_cases e8 : x.op = 8
  · obtain ⟨n, hn⟩ : ∃ n : Nat, n = (if x.b = 6 ∨ x.b = 7 then 1 else 2) := ⟨_, rfl⟩
    obtain ⟨g, hg⟩ : ∃ g, g = (decide (x.b = 7) || decide (13 ≤ x.b)) := ⟨_, rfl⟩
    have hn2 : n ≤ 2 := by rw [hn]; split <;> omega
    have ht2 := take_run ins vars cells n2 T n (decide (x.a = 1)) S (by omega) (by omega)
    rw [← hn, ← hg]
    have hc : (x.b = 6 ∧ n = 1 ∧ g = false) ∨ (x.b = 7 ∧ n = 1 ∧ g = true) ∨ (x.b ≠ 6 ∧ x.b ≠ 7 ∧ ¬ 13 ≤ x.b ∧ n = 2 ∧ g = false) ∨ (x.b ≠ 6 ∧ x.b ≠ 7 ∧ 13 ≤ x.b ∧ n = 2 ∧ g = true) := by
      rw [hn, hg]
      by_cases h6 : x.b = 6
      · simp [h6]
      · by_cases h7 : x.b = 7
        · simp [h7]
        · by_cases h13 : 13 ≤ x.b <;> simp [h6, h7, h13]
    clear hn hg
    cases q : takeS n (decide (x.a = 1)) S with
    | none =>
      simp [q] at ht2
      refine ⟨S, ?_, ?_⟩
      · rcases hc with ⟨h1, rfl, rfl⟩ | ⟨h1, rfl, rfl⟩ | ⟨h1, h2, h3, rfl, rfl⟩ | ⟨h1, h2, h3, rfl, rfl⟩
        · simp at ht2
          simp [Tryd.f50, e8, h1, ht2, q]
        · simp at ht2
          simp [Tryd.f50, e8, h1, ht2, q]
        · simp at ht2
          simp [Tryd.f50, e8, h1, h2, h3, ht2, q]
        · simp at ht2
          simp [Tryd.f50, e8, h1, h2, h3, ht2, q]
      · simp [e8, q]
    | some S1 =>
      have hl1 := takeS_len q
      have hg1 := give_run ins vars cells n2 T g S1 (by omega)
      simp [q] at ht2
      simp at hg1
      refine ⟨S1 ++ [g], ?_, ?_⟩
      · rcases hc with ⟨h1, rfl, rfl⟩ | ⟨h1, rfl, rfl⟩ | ⟨h1, h2, h3, rfl, rfl⟩ | ⟨h1, h2, h3, rfl, rfl⟩
        · simp at ht2
          simp [Tryd.f50, e8, h1, ht2, hg1, q, giveS]
          split <;> simp [*]
        · simp at ht2
          simp [Tryd.f50, e8, h1, ht2, hg1, q, giveS]
          split <;> simp [*]
        · simp at ht2
          simp [Tryd.f50, e8, h1, h2, h3, ht2, hg1, q, giveS]
          split <;> simp [*]
        · simp at ht2
          simp [Tryd.f50, e8, h1, h2, h3, ht2, hg1, q, giveS]
          split <;> simp [*]
      · simp [e8, q, giveS]
  · refine ⟨S, ?_, ?_⟩
    · simp [Tryd.f50, e1, e2, e3, e4, e5, e6, e7, e8, e10, e13, e14, emptyS, he]
      split <;> simp [*]
    · simp [e1, e2, e3, e4, e5, e6, e7, e8, e10, e13, e14, emptyS]
end
end Go.Am
end
section
namespace Go.Am
open Go Go.Proofs
set_option maxRecDepth 20000
def ledStep (l : List Bool) (x : Ins) : List Bool := if x.op = 9 ∨ x.op = 10 then l.set x.a.toNat true else l
theorem ledStep_len (l : List Bool) (x : Ins) : (ledStep l x).length = l.length := by unfold ledStep; split <;> simp
theorem bD_set (l : List Bool) (i : Nat) (b : Bool) : (bD l).set i (.bool b) = bD (l.set i b) := by simp [bD, List.map_set]
theorem movesS_len {x : Ins} {S S' : List Bool} (hl : S.length ≤ 64) (h : movesS x S = some S') : S'.length ≤ 64 := by
  have g : ∀ {t S S'}, giveS t S = some S' → S'.length ≤ 64 := by
    intro t S S' h
    unfold giveS at h
    split at h
    · cases h; simp; omega
    · cases h
  have e : ∀ {S S'}, emptyS S = some S' → S'.length ≤ 64 := by
    intro S S' h
    unfold emptyS at h
    split at h
    · cases h; simp
    · cases h
  have tk : ∀ {n t S'}, takeS n t S = some S' → S'.length ≤ 64 := fun h => Nat.le_trans (takeS_len h) hl
  unfold movesS at h
  repeat' split at h
  all_goals first
    | exact g h
    | exact e h
    | exact tk h
    | (obtain ⟨y, _, h2⟩ := Option.bind_eq_some_iff.1 h; exact g h2)
    | (obtain ⟨y, _, h2⟩ := Option.bind_eq_some_iff.1 h; exact e h2)
section
variable (ins : List Ins) (vars cells : Int)
theorem led_loop (B : Cont) : ∀ (rest pre : List Ins) (T : List Bool) (v : Nat) (ct : Cont), (pre ++ rest).length ≤ 5000 → (∀ x ∈ rest, x.op = 9 ∨ x.op = 10 → 0 ≤ x.a ∧ x.a < T.length) → ∀ k : Kt,
    ∃ v' ct', denK ctx 26 (.loop (Code.at (codeOf Tryd.f26) [1, 0, 1, 0, 0])) ⟨63, gl0, [(0, true, .ptr 0 0 0), (11, true, .d (.list ((pre ++ rest).map insD))), (12, true, .d (.int .i64 (pre ++ rest).length)), (13, true, .d (.int .i64 pre.length))],
        [⟨0, 0, kBox ins vars cells (.vec 1 0 0 0) (.vec 2 0 0 T.length)⟩, ⟨1, 0, .vec 1 []⟩, ⟨2, 0, .vec 1 (bD T)⟩, ⟨300, v, ct⟩, ⟨400, 0, B⟩]⟩ k =
      k (.exit 0) ⟨63, gl0, [(0, true, .ptr 0 0 0), (11, true, .d (.list ((pre ++ rest).map insD))), (12, true, .d (.int .i64 (pre ++ rest).length)), (13, true, .d (.int .i64 (pre ++ rest).length)), (14, true, .d (.bool false))],
        [⟨0, 0, kBox ins vars cells (.vec 1 0 0 0) (.vec 2 0 0 T.length)⟩, ⟨1, 0, .vec 1 []⟩, ⟨2, 0, .vec 1 (bD (rest.foldl ledStep T))⟩, ⟨300, v', ct'⟩, ⟨400, 0, B⟩]⟩
  | [], pre, T, v, ct, hl, hT, k => by
    refine ⟨v, ct, ?_⟩
    rw [denK_loop]
    simp [Tryd.f26]
  | x :: rest, pre, T, v, ct, hl, hT, k => by
    obtain ⟨v', ct', ih⟩ := led_loop B rest (pre ++ [x]) (ledStep T x) (v + 1) (.box [.d (.int .i64 x.op), .d (.int .i64 x.a), .d (.int .i64 x.b), .d (.int .i64 x.n), .d (.int .i64 x.m)]) (by simpa using hl) (fun y hy h => by rw [ledStep_len]; exact hT y (by simp [hy]) h) k
    refine ⟨v', ct', ?_⟩
    have h1 : (pre.length : Int) < pre.length + (rest.length + 1) := by omega
    have h2 : IntKind.i64.wrap ((pre.length : Int) + 1) = pre.length + 1 := wrap_id (by unfold I64; simp at hl; omega)
    rw [ledStep_len] at ih
    rw [denK_loop]
    by_cases e9 : x.op = 9
    · obtain ⟨a1, a2⟩ := hT x (by simp) (.inl e9)
      have a3 : x.a.toNat < T.length := by omega
      have e : ledStep T x = T.set x.a.toNat true := by simp [ledStep, e9]
      rw [e, ← bD_set] at ih
      simp [Tryd.f26, e9] at ih ⊢
      simp [h1, h2, a1, a3]
      rw [drwK_nil (by kernel_rfl)]
      simp [h2, e, ih]
    · by_cases e10 : x.op = 10
      · obtain ⟨a1, a2⟩ := hT x (by simp) (.inr e10)
        have a3 : x.a.toNat < T.length := by omega
        have e : ledStep T x = T.set x.a.toNat true := by simp [ledStep, e10]
        rw [e, ← bD_set] at ih
        simp [Tryd.f26, e10] at ih ⊢
        simp [h1, h2, a1, a3]
        rw [drwK_nil (by kernel_rfl)]
        simp [h2, e, ih]
      · have e : ledStep T x = T := by simp [ledStep, e9, e10]
        rw [e] at ih
        simp [Tryd.f26, e9, e10] at ih ⊢
        simp [h1, h2, e, ih]
theorem stk_loop (L : List Bool) : ∀ (rest pre : List Ins) (S : List Bool) (v v1 : Nat) (B : Cont), (pre ++ rest).length = L.length → L.length ≤ 5000 → S.length ≤ 64 → ∀ (C : Cont) (vc : Nat) (k : Kt),
    ∃ v' v1' ct' S', denK ctx 26 (.loop (Code.at (codeOf Tryd.f26) [1, 1, 0, 1, 0, 0])) ⟨63, gl0, [(0, true, .ptr 0 0 0), (37, true, .d (.list ((pre ++ rest).map insD))), (38, true, .d (.int .i64 (pre ++ rest).length)), (39, true, .d (.int .i64 pre.length))],
        [⟨0, 0, kBox ins vars cells (.vec 1 v1 0 S.length) (.vec 2 0 0 L.length)⟩, ⟨1, v1, .vec 1 (bD S)⟩, ⟨2, 0, .vec 1 (bD L)⟩, ⟨300, vc, C⟩, ⟨400, v, B⟩]⟩ k =
      if stackS L pre.length rest S = true then
        k (.exit 2) ⟨63, gl0, [(0, true, .ptr 0 0 0), (37, true, .d (.list ((pre ++ rest).map insD))), (38, true, .d (.int .i64 (pre ++ rest).length)), (39, true, .d (.int .i64 (pre ++ rest).length)), (40, true, .d (.bool false))],
          [⟨0, 0, kBox ins vars cells (.vec 1 v1' 0 (S' : List Bool).length) (.vec 2 0 0 L.length)⟩, ⟨1, v1', .vec 1 (bD S')⟩, ⟨2, 0, .vec 1 (bD L)⟩, ⟨300, vc, C⟩, ⟨400, v', ct'⟩]⟩
      else k .ret ⟨63, gl0, [(2, true, .d (.bool false))], [⟨0, 0, kBox ins vars cells (.vec 1 v1' 0 S'.length) (.vec 2 0 0 L.length)⟩, ⟨1, v1', .vec 1 (bD S')⟩, ⟨2, 0, .vec 1 (bD L)⟩, ⟨300, vc, C⟩, ⟨400, v', ct'⟩]⟩
  | [], pre, S, v, v1, B, hl, hL, hS, C, vc, k => by
    refine ⟨v, v1, B, S, ?_⟩
    rw [denK_loop]
    simp [Tryd.f26, stackS]
  | x :: rest, pre, S, v, v1, B, hl, hL, hS, C, vc, k => by
    have h1 : (pre.length : Int) < pre.length + (rest.length + 1) := by omega
    have h2 : IntKind.i64.wrap ((pre.length : Int) + 1) = pre.length + 1 := wrap_id (by unfold I64; simp at hl; omega)
    have hp : pre.length < L.length := by simp at hl; omega
    obtain ⟨S2, hm, hm2⟩ := moves_run ins vars cells L.length (bD L) x S hS
    have he := empty_run ins vars cells L.length (bD L) (bD S) S.length
    have hget : (L.getD pre.length false) = L[pre.length] := by simp [hp]
    cases hb : L[pre.length]
    · cases hmv : movesS x S with
      | none =>
        refine ⟨v + 1, v1 + 1, .box [.d (.int .i64 x.op), .d (.int .i64 x.a), .d (.int .i64 x.b), .d (.int .i64 x.n), .d (.int .i64 x.m)], S2, ?_⟩
        rw [denK_loop]
        have hst : stackS L pre.length (x :: rest) S = false := by simp [stackS, hget, hb, hmv]
        rw [hst]
        simp [hmv] at hm
        simp [Tryd.f26, h1, hp, hb, hm]
      | some S3 =>
        have hS3 := movesS_len hS hmv
        obtain rfl := hm2 S3 hmv
        obtain ⟨v', v1', ct', S', ih⟩ := stk_loop L rest (pre ++ [x]) S3 (v + 1) (v1 + 1) (.box [.d (.int .i64 x.op), .d (.int .i64 x.a), .d (.int .i64 x.b), .d (.int .i64 x.n), .d (.int .i64 x.m)]) (by simpa using hl) hL hS3 C vc k
        refine ⟨v', v1', ct', S', ?_⟩
        have hst : stackS L pre.length (x :: rest) S = stackS L (pre ++ [x]).length rest S3 := by rw [stackS, hget, hb]; simp [hmv]
        rw [hst, denK_loop]
        simp [hmv] at hm
        simp [Tryd.f26] at ih ⊢
        simp [h1, h2, hp, hb, hm, ih]
    · cases S with
      | nil =>
        simp at he
        cases hmv : movesS x [] with
        | none =>
          refine ⟨v + 1, v1 + 1, .box [.d (.int .i64 x.op), .d (.int .i64 x.a), .d (.int .i64 x.b), .d (.int .i64 x.n), .d (.int .i64 x.m)], S2, ?_⟩
          rw [denK_loop]
          have hst : stackS L pre.length (x :: rest) [] = false := by simp [stackS, hmv]
          rw [hst]
          simp [hmv] at hm
          simp [Tryd.f26, h1, hp, hb, hm, he]
        | some S3 =>
          have hS3 := movesS_len hS hmv
          obtain rfl := hm2 S3 hmv
          obtain ⟨v', v1', ct', S', ih⟩ := stk_loop L rest (pre ++ [x]) S3 (v + 1) (v1 + 1) (.box [.d (.int .i64 x.op), .d (.int .i64 x.a), .d (.int .i64 x.b), .d (.int .i64 x.n), .d (.int .i64 x.m)]) (by simpa using hl) hL hS3 C vc k
          refine ⟨v', v1', ct', S', ?_⟩
          have hst : stackS L pre.length (x :: rest) [] = stackS L (pre ++ [x]).length rest S3 := by simp [stackS, hmv]
          rw [hst, denK_loop]
          simp [hmv] at hm
          simp [Tryd.f26] at ih ⊢
          simp [h1, h2, hp, hb, hm, he, ih]
      | cons y S =>
        refine ⟨v + 1, v1, .box [.d (.int .i64 x.op), .d (.int .i64 x.a), .d (.int .i64 x.b), .d (.int .i64 x.n), .d (.int .i64 x.m)], y :: S, ?_⟩
        have hst : stackS L pre.length (x :: rest) (y :: S) = false := by rw [stackS, hget, hb]; simp
        rw [hst, denK_loop]
        simp at he
        simp [Tryd.f26, h1, hp, hb, he]
theorem stacks_run (hl : ins.length ≤ 5000) (hA : ∀ x ∈ ins, x.op = 9 ∨ x.op = 10 → 0 ≤ x.a ∧ x.a < ins.length) :
    ∃ S', callT ctx 26 [.ptr 0 0 0] [kBox ins vars cells (.vec 1 0 0 0) (.vec 2 0 0 ins.length), .vec 1 [], .vec 1 (bD (List.replicate ins.length false))] =
      some (.ret (.d (.bool (stackS (ledOf ins) 0 ins []))), [(0, kBox ins vars cells (.vec 1 1 0 (S' : List Bool).length) (.vec 2 1 0 ins.length)), (1, .vec 1 (bD S')), (1, .vec 1 (bD (ledOf ins)))]) := by
  have hll : (ledOf ins).length = ins.length := by
    have : ∀ (l : List Ins) (T : List Bool), (l.foldl ledStep T).length = T.length := by
      intro l
      induction l with
      | nil => intro T; rfl
      | cons x l ih => intro T; simp only [List.foldl_cons]; rw [ih, ledStep_len]
    rw [show ledOf ins = ins.foldl ledStep (List.replicate ins.length false) from rfl, this]; simp
  have h1 := fun B => led_loop ins vars cells B ins [] (List.replicate ins.length false) 0 .dead hl (by simpa using hA)
  rw [show ins.foldl ledStep (List.replicate ins.length false) = ledOf ins from rfl] at h1
  have h2 := fun C vc => stk_loop ins vars cells (ledOf ins) ins [] [] 0 0 .dead (by simp [hll]) (by omega) (by simp) C vc
  generalize ledOf ins = L at hll h1 h2
  generalize hr : callT ctx 26 _ _ = r
  rw [run26 (by simp)] at hr
  simp [Tryd.f26, hll] at h1 h2 hr
  obtain ⟨f1, h1⟩ := Classical.axiomOfChoice (h1 .dead)
  obtain ⟨f2, h1⟩ := Classical.axiomOfChoice h1
  rw [h1] at hr
  clear h1
  generalize f1 _ = a at hr
  generalize f2 _ = b at hr
  simp at hr
  replace h2 := h2 b a
  obtain ⟨g1, h2⟩ := Classical.axiomOfChoice h2
  obtain ⟨g2, h2⟩ := Classical.axiomOfChoice h2
  obtain ⟨g3, h2⟩ := Classical.axiomOfChoice h2
  obtain ⟨g4, h2⟩ := Classical.axiomOfChoice h2
  rw [h2] at hr
  clear h2
  generalize g1 _ = a1 at hr
  generalize g2 _ = a2 at hr
  generalize g3 _ = a3 at hr
  generalize g4 _ = S' at hr
  refine ⟨S', ?_⟩
  rw [← hr]
  have hl2 : ins.length ≤ L.length := by omega
  have ht : List.take ins.length (List.map D.bool L) = List.map D.bool L := by rw [← hll]; simp
  cases hq : stackS L 0 ins []
  · simp [hl2, ht]
  · simp [hl2, ht]
end
end Go.Am
end
section
namespace Go.Am
open Go Go.Proofs
set_option maxRecDepth 20000
theorem dfs_keeps (succ : Nat → List Nat) : ∀ f : Nat,
    (∀ at_ seen, (dfs succ f at_ seen).2.length = seen.length ∧ fresh (dfs succ f at_ seen).2 ≤ fresh seen) ∧ (∀ l seen, (dfsL succ f l seen).2.length = seen.length ∧ fresh (dfsL succ f l seen).2 ≤ fresh seen)
  | 0 => by
    have h0 : ∀ at_ seen, (dfs succ 0 at_ seen).2.length = seen.length ∧ fresh (dfs succ 0 at_ seen).2 ≤ fresh seen := fun at_ seen => by unfold dfs; exact ⟨rfl, Nat.le_refl _⟩
    refine ⟨h0, fun l seen => ?_⟩
    cases l with
    | nil => unfold dfsL; exact ⟨rfl, Nat.le_refl _⟩
    | cons n r => unfold dfsL dfs; exact ⟨rfl, Nat.le_refl _⟩
  | f + 1 => by
    have hd : ∀ at_ seen, (dfs succ (f + 1) at_ seen).2.length = seen.length ∧ fresh (dfs succ (f + 1) at_ seen).2 ≤ fresh seen := by
      intro at_ seen
      unfold dfs
      split
      · exact ⟨rfl, Nat.le_refl _⟩
      · have h := (dfs_keeps succ f).2 (succ at_) (seen.set at_ 1)
        have h1 := fresh_set_le (l := seen) (i := at_) (v := 1) (by decide)
        obtain ⟨s, b, he⟩ : ∃ s b, dfsL succ f (succ at_) (seen.set at_ 1) = (b, s) := ⟨_, _, rfl⟩
        rw [he] at h ⊢
        simp only [List.length_set] at h
        cases b with
        | true => exact ⟨h.1, by simp only; omega⟩
        | false =>
          have h2 := fresh_set_le (l := s) (i := at_) (v := 2) (by decide)
          exact ⟨by simp only [List.length_set]; exact h.1, by simp only; omega⟩
    refine ⟨hd, fun l => ?_⟩
    induction l with
    | nil => intro seen; unfold dfsL; exact ⟨rfl, Nat.le_refl _⟩
    | cons n r ih =>
      intro seen
      unfold dfsL
      have h := hd n seen
      obtain ⟨s, b, he⟩ : ∃ s b, dfs succ (f + 1) n seen = (b, s) := ⟨_, _, rfl⟩
      rw [he] at h ⊢
      cases b with
      | true => exact h
      | false =>
        have h2 := ih s
        simp only at h
        exact ⟨by simp only; rw [h2.1, h.1], by simp only; omega⟩
@[simp] def iD (l : List Nat) : List D := l.map fun (n : Nat) => D.int .i64 (n : Int)
def nextL (i : Nat) (x : Ins) : List Nat := if x.op = 9 then [x.a.toNat] else if x.op = 10 then [i + 1, x.a.toNat] else if x.op = 15 then [] else [i + 1]
theorem next_run (i : Nat) (x : Ins) (hi : i < 5000) (ha : x.op = 9 ∨ x.op = 10 → 0 ≤ x.a) : callT ctx 74 [.d (.int .i64 i), .d (insD x)] [] = some (.ret (.d (.list (iD (nextL i x)))), []) := by
  have w : IntKind.i64.wrap ((i : Int) + 1) = i + 1 := wrap_id (by unfold I64; omega)
  rw [run74 (by simp)]
  unfold nextL
  by_cases e9 : x.op = 9
  · have h := ha (.inl e9)
    have h2 : max x.a 0 = x.a := by omega
    simp [Tryd.f74, e9, h2]
  by_cases e10 : x.op = 10
  · have h := ha (.inr e10)
    have h2 : max x.a 0 = x.a := by omega
    simp [Tryd.f74, e10, w, h2, List.range']
  by_cases e15 : x.op = 15
  · simp [Tryd.f74, e15]
  · simp [Tryd.f74, e9, e10, e15, w]
section
variable (ins : List Ins) (vars cells : Int) (n1 n2 : Nat) (S T : List D)
def RoundOk (f : Nat) : Prop := ∀ (at_ : Nat) (seen : List Nat), fresh seen < f → at_ < ins.length → seen.length = ins.length →
    callT ctx 51 [.ptr 0 0 0, .d (.int .i64 at_), .vec 1 0 0 ins.length] [kBox ins vars cells (.vec 2 0 0 n1) (.vec 3 0 0 n2), .vec 1 (iD seen), .vec 1 S, .vec 1 T] =
      some (.ret (.d (.bool (dfs (succP ins) f at_ seen).1)), [(0, kBox ins vars cells (.vec 2 0 0 n1) (.vec 3 0 0 n2)), (0, .vec 1 (iD (dfs (succP ins) f at_ seen).2)), (0, .vec 1 S), (0, .vec 1 T)])
theorem round_loop (hlen : ins.length ≤ 5000) (f at_ : Nat) (hr : RoundOk ins vars cells n1 n2 S T f) : ∀ (rest pre : List Nat) (seen : List Nat), fresh seen < f → (pre ++ rest).length < 5000 → (∀ n ∈ rest, n < ins.length) → seen.length = ins.length → ∀ k : Kt,
    denK ctx 51 (.loop (Code.at (codeOf Tryd.f51) [1, 1, 1, 0, 1, 0, 1, 0, 0])) ⟨67, gl0, [(0, true, .ptr 0 0 0), (1, true, .d (.int .i64 at_)), (2, true, .vec 1 0 0 ins.length), (41, true, .d (.list (iD (pre ++ rest)))), (42, true, .d (.int .i64 (pre ++ rest).length)), (43, true, .d (.int .i64 pre.length))],
        [⟨0, 0, kBox ins vars cells (.vec 2 0 0 n1) (.vec 3 0 0 n2)⟩, ⟨1, 0, .vec 1 (iD seen)⟩, ⟨2, 0, .vec 1 S⟩, ⟨3, 0, .vec 1 T⟩]⟩ k =
      if (dfsL (succP ins) f (rest.filter fun j => !tickAt ins j) seen).1 = true then
        k .ret ⟨67, gl0, [(6, true, .d (.bool true))], [⟨0, 0, kBox ins vars cells (.vec 2 0 0 n1) (.vec 3 0 0 n2)⟩, ⟨1, 0, .vec 1 (iD (dfsL (succP ins) f (rest.filter fun j => !tickAt ins j) seen).2)⟩, ⟨2, 0, .vec 1 S⟩, ⟨3, 0, .vec 1 T⟩]⟩
      else k (.exit 0) ⟨67, gl0, [(0, true, .ptr 0 0 0), (1, true, .d (.int .i64 at_)), (2, true, .vec 1 0 0 ins.length), (41, true, .d (.list (iD (pre ++ rest)))), (42, true, .d (.int .i64 (pre ++ rest).length)), (43, true, .d (.int .i64 (pre ++ rest).length)), (44, true, .d (.bool false))],
        [⟨0, 0, kBox ins vars cells (.vec 2 0 0 n1) (.vec 3 0 0 n2)⟩, ⟨1, 0, .vec 1 (iD (dfsL (succP ins) f (rest.filter fun j => !tickAt ins j) seen).2)⟩, ⟨2, 0, .vec 1 S⟩, ⟨3, 0, .vec 1 T⟩]⟩
  | [], pre, seen, hf, hl, hn, hs, k => by
    rw [denK_loop]
    simp [Tryd.f51, dfsL]
  | n :: rest, pre, seen, hf, hl, hn, hs, k => by
    have hn0 := hn n (by simp)
    have hget : ins[n]? = some ins[n] := by simp [hn0]
    have h1 : (pre.length : Int) < pre.length + (rest.length + 1) := by omega
    have h2 : IntKind.i64.wrap ((pre.length : Int) + 1) = pre.length + 1 := wrap_id (by unfold I64; simp at hl; omega)
    by_cases ht : ins[n].op = 11
    · have htk : tickAt ins n = true := by simp [tickAt, hget, ht]
      have ih := round_loop hlen f at_ hr rest (pre ++ [n]) seen hf (by simpa using hl) (fun m hm => hn m (by simp [hm])) hs k
      rw [denK_loop]
      simp [Tryd.f51, htk] at ih ⊢
      simp [h1, h2, hn0, ht, ih]
    · have htk : tickAt ins n = false := by simp [tickAt, hget, ht]
      have hc := hr n seen hf hn0 hs
      have hk := (dfs_keeps (succP ins) f).1 n seen
      have e : dfsL (succP ins) f ((n :: rest).filter fun j => !tickAt ins j) seen = if (dfs (succP ins) f n seen).1 = true then (true, (dfs (succP ins) f n seen).2) else dfsL (succP ins) f (rest.filter fun j => !tickAt ins j) (dfs (succP ins) f n seen).2 := by
        rw [List.filter_cons, htk]
        simp only [Bool.not_false, if_true]
        rw [dfsL]
        obtain ⟨s, b, he⟩ : ∃ s b, dfs (succP ins) f n seen = (b, s) := ⟨_, _, rfl⟩
        rw [he]
        cases b <;> rfl
      rw [e]
      obtain ⟨s, b, he⟩ : ∃ s b, dfs (succP ins) f n seen = (b, s) := ⟨_, _, rfl⟩
      rw [he] at hc hk ⊢
      simp only at hk
      rw [denK_loop]
      cases b
      · have ih := round_loop hlen f at_ hr rest (pre ++ [n]) s (by omega) (by simpa using hl) (fun m hm => hn m (by simp [hm])) (by omega) k
        simp [Tryd.f51] at ih hc ⊢
        simp [h1, h2, hn0, ht, hc, ih]
      · simp at hc
        simp [Tryd.f51]
        simp [h1, h2, hn0, ht, hc]
end
end Go.Am
end
section
namespace Go.Am
open Go Go.Proofs
set_option maxRecDepth 20000
/-- Where an instruction leads is one. -/
def Inside (ins : List Ins) : Prop := ∀ i x, ins[i]? = some x → (x.op = 9 ∨ x.op = 10 → 0 ≤ x.a ∧ x.a < (ins.length : Int)) ∧ (x.op ≠ 9 → x.op ≠ 15 → i + 1 < ins.length)
theorem inside_of {pins : Int → Nat} {ins : List Ins} {vars cells : Int} (h : okForms pins ins vars cells = true) : Inside ins := by
  intro i x hx
  simp only [okForms, Bool.and_eq_true] at h
  have hf := forms_get h.2 i _ hx
  have hi : i < ins.length := (List.getElem?_eq_some_iff.1 hx).1
  simp only [Nat.zero_add] at hf
  have hlast : i + 1 = ins.length → x.op = 15 := by
    intro h1
    have h2 := h.1
    simp only [headB, Bool.and_eq_true, decide_eq_true_eq] at h2
    have h3 := h2.2
    unfold lastOp at h3
    rw [List.getLast?_eq_getElem?, show ins.length - 1 = i by omega, hx] at h3
    simpa using h3
  refine ⟨fun hj => ?_, fun h9 h15 => ?_⟩
  · unfold formB at hf
    rcases hj with hj | hj <;> simp [hj] at hf <;> omega
  · have : i + 1 ≠ ins.length := fun h => h15 (hlast h)
    omega
section
variable (ins : List Ins) (vars cells : Int) (n1 n2 : Nat) (S T : List D)
theorem nextL_len (i : Nat) (x : Ins) : (nextL i x).length ≤ 2 := by
  unfold nextL
  repeat' split
  all_goals simp
theorem next_in (hin : Inside ins) {i : Nat} (hi : i < ins.length) : ∀ j ∈ nextL i ins[i], j < ins.length := by
  have h := hin i ins[i] (by simp [hi])
  intro j hj
  unfold nextL at hj
  split at hj
  · rename_i h9
    have := h.1 (.inl h9)
    simp at hj; omega
  · rename_i h9
    split at hj
    · rename_i h10
      have := h.1 (.inr h10)
      have := h.2 h9 (by omega)
      simp at hj; omega
    · split at hj
      · simp at hj
      · rename_i h15
        have := h.2 h9 h15
        simp at hj; omega
theorem succP_eq {i : Nat} (hi : i < ins.length) : succP ins i = if ins[i].op = 11 then [] else (nextL i ins[i]).filter fun j => !tickAt ins j := by
  have hx : ins[i]? = some ins[i] := by simp [hi]
  unfold succP succI tickAt nextI nextL
  rw [hx]
  simp only [decide_eq_true_eq]
  split <;> rfl
theorem round_all (hlen : ins.length ≤ 5000) (hin : Inside ins) : ∀ f, RoundOk ins vars cells n1 n2 S T f
  | 0 => fun at_ seen hf _ _ => by omega
  | f + 1 => by
    intro at_ seen hf hat hs
    have hat2 : at_ < seen.length := by omega
    have hget : seen.getD at_ 0 = seen[at_] := by simp [hat2]
    rw [run51 (by simp)]
    unfold dfs
    rw [hget]
    by_cases h0 : seen[at_] = 0
    · rw [if_neg (by simp [h0])]
      have hfr := fresh_set (l := seen) (i := at_) (v := 1) (by rw [hget]; exact h0) hat2 (by decide)
      have hset : (iD seen).set at_ (.int .i64 1) = iD (seen.set at_ 1) := by simp [iD, List.map_set]
      rw [succP_eq ins hat]
      by_cases ht : ins[at_].op = 11
      · rw [if_pos ht]
        have hset2 : ((iD seen).set at_ (.int .i64 1)).set at_ (.int .i64 2) = iD ((seen.set at_ 1).set at_ 2) := by simp [iD, List.map_set]
        simp at hset2
        simp [Tryd.f51, hat2, hat, h0, ht, dfsL, hset2]
      · rw [if_neg ht]
        have hn := next_run at_ ins[at_] (by omega) (fun h => ((hin at_ _ (by simp [hat])).1 h).1)
        have hloop := round_loop ins vars cells n1 n2 S T hlen f at_ (round_all hlen hin f) (nextL at_ ins[at_]) [] (seen.set at_ 1) (by omega) (by have := nextL_len at_ ins[at_]; simp; omega) (next_in ins hin hat) (by simp; omega)
        simp only [List.nil_append, List.length_nil] at hloop
        rw [← hset] at hloop
        have hk := (dfs_keeps (succP ins) f).2 ((nextL at_ ins[at_]).filter fun j => !tickAt ins j) (seen.set at_ 1)
        obtain ⟨s, b, he⟩ : ∃ s b, dfsL (succP ins) f ((nextL at_ ins[at_]).filter fun j => !tickAt ins j) (seen.set at_ 1) = (b, s) := ⟨_, _, rfl⟩
        rw [he] at hloop hk ⊢
        have hset3 : (iD s).set at_ (.int .i64 2) = iD (s.set at_ 2) := by simp [iD, List.map_set]
        simp only [List.length_set] at hk
        have hs3 : at_ < s.length := by omega
        simp at hset3
        cases b
        · simp [Tryd.f51] at hn hloop ⊢
          simp [hat2, hat, h0, ht, hn, hloop, hs3, hset3]
        · simp [Tryd.f51] at hn hloop ⊢
          simp [hat2, hat, h0, ht, hn, hloop]
    · rw [if_pos h0]
      simp [Tryd.f51, hat2, hat, h0]
      generalize seen[at_] = z
      by_cases q : z = 1
      · subst q; rfl
      · have q2 : ¬ ((z : Int) = 1) := by omega
        simp [q, q2]
theorem rounds_loop (hlen : ins.length ≤ 5000) (hin : Inside ins) : ∀ (rest pre : List Nat) (seen : List Nat), pre ++ rest = List.range ins.length → seen.length = ins.length → ∀ (v : Nat) (k : Kt),
    ∃ v' s', denK ctx 27 (.loop (Code.at (codeOf Tryd.f27) [1, 1, 0, 1, 0, 0])) ⟨26, gl0, [(0, true, .ptr 0 0 0), (3, true, .vec 650 v 0 ins.length), (17, true, .d (.int .i64 ins.length)), (18, true, .d (.int .i64 pre.length))],
        [⟨0, 0, kBox ins vars cells (.vec 1 0 0 n1) (.vec 2 0 0 n2)⟩, ⟨1, 0, .vec 1 S⟩, ⟨2, 0, .vec 1 T⟩, ⟨650, v, .vec 1 (iD seen)⟩]⟩ k =
      if rounds (succP ins) (ins.length + 1) rest seen = true then
        k .ret ⟨26, gl0, [(2, true, .d (.bool true))], [⟨0, 0, kBox ins vars cells (.vec 1 0 0 n1) (.vec 2 0 0 n2)⟩, ⟨1, 0, .vec 1 S⟩, ⟨2, 0, .vec 1 T⟩, ⟨650, v', .vec 1 (iD s')⟩]⟩
      else k (.exit 0) ⟨26, gl0, [(0, true, .ptr 0 0 0), (3, true, .vec 650 v' 0 ins.length), (17, true, .d (.int .i64 ins.length)), (18, true, .d (.int .i64 ins.length)), (19, true, .d (.bool false))],
        [⟨0, 0, kBox ins vars cells (.vec 1 0 0 n1) (.vec 2 0 0 n2)⟩, ⟨1, 0, .vec 1 S⟩, ⟨2, 0, .vec 1 T⟩, ⟨650, v', .vec 1 (iD s')⟩]⟩
  | [], pre, seen, hp, hs, v, k => by
    refine ⟨v, seen, ?_⟩
    have hpl : pre.length = ins.length := by simpa using congrArg List.length hp
    rw [denK_loop]
    simp [Tryd.f27, rounds, hpl]
  | n :: rest, pre, seen, hp, hs, v, k => by
    have hpl : pre.length + (rest.length + 1) = ins.length := by simpa using congrArg List.length hp
    have hn : n = pre.length := by
      have := congrArg (fun l => l[pre.length]?) hp
      simp at this
      rw [List.getElem?_range (by omega)] at this
      simpa using this
    have h1 : pre.length < ins.length := by omega
    have h2 : IntKind.i64.wrap ((pre.length : Int) + 1) = pre.length + 1 := wrap_id (by unfold I64; omega)
    have hfr : fresh seen ≤ seen.length := List.countP_le_length
    have hr := round_all ins vars cells n1 n2 S T hlen hin (ins.length + 1) pre.length seen (by omega) (by omega) hs
    have hk := ((dfs_keeps (succP ins) (ins.length + 1)).1 pre.length seen).1
    subst hn
    rw [rounds]
    obtain ⟨s, b, he⟩ : ∃ s b, dfs (succP ins) (ins.length + 1) pre.length seen = (b, s) := ⟨_, _, rfl⟩
    rw [he] at hr hk ⊢
    simp only at hk
    cases b
    · obtain ⟨v', s', ih⟩ := rounds_loop hlen hin rest (pre ++ [pre.length]) s (by simpa using hp) (by omega) v k
      refine ⟨v', s', ?_⟩
      rw [denK_loop]
      simp [Tryd.f27] at ih hr ⊢
      simp [h1, h2, hr, ih]
    · refine ⟨v, s, ?_⟩
      rw [denK_loop]
      simp at hr
      simp [Tryd.f27]
      simp [h1, h2, hr]
theorem rounds_run (hlen : ins.length ≤ 5000) (hin : Inside ins) :
    callT ctx 27 [.ptr 0 0 0] [kBox ins vars cells (.vec 1 0 0 n1) (.vec 2 0 0 n2), .vec 1 S, .vec 1 T] =
      some (.ret (.d (.bool (rounds (succP ins) (ins.length + 1) (List.range ins.length) (List.replicate ins.length 0)))), [(0, kBox ins vars cells (.vec 1 0 0 n1) (.vec 2 0 0 n2)), (0, .vec 1 S), (0, .vec 1 T)]) := by
  have h1 := rounds_loop ins vars cells n1 n2 S T hlen hin (List.range ins.length) [] (List.replicate ins.length 0) rfl (by simp) 1
  obtain ⟨f1, h1⟩ := Classical.axiomOfChoice h1
  obtain ⟨f2, h1⟩ := Classical.axiomOfChoice h1
  have g1 : (ins.length : Int) * 8 ≤ 140737488355328 ∧ (ins.length : Int) ≤ 4611686018427387904 := by omega
  rw [run27 (by simp)]
  simp [Tryd.f27] at h1 ⊢
  simp [g1, h1]
  cases hq : rounds (succP ins) (ins.length + 1) (List.range ins.length) (List.replicate ins.length 0) <;> simp
  trace_state
end
end Go.Am
end
section
namespace Go.Am
open Go Go.Proofs
set_option maxRecDepth 20000
@[simp] def codeD (ins : List Ins) (vars cells : Int) : D := .agg [.list (ins.map insD), .int .i64 vars, .int .i64 cells]
theorem checkCode_run (pins : Int → Nat) (hp : PinsOk 38 pins) (ins : List Ins) (vars cells : Int) (hl : ins.length ≤ 5000) :
    callT ctx 14 [.d (codeD ins vars cells)] [] = some (.ret (.d (.bool (okCode pins ins vars cells))), []) := by
  have hf := forms_run pins hp ins vars cells 0 ins.length [] (bD (List.replicate ins.length false)) hl
  have g1 : (ins.length : Int) ≤ 140737488355328 ∧ (ins.length : Int) ≤ 4611686018427387904 := by omega
  rw [run14 (by simp)]
  unfold okCode
  cases hq : okForms pins ins vars cells
  · simp [hq] at hf
    simp [Tryd.f14, g1]
    rw [drwK_nil (by kernel_rfl)]
    simp [hf]
  · have hin := inside_of hq
    obtain ⟨S', hs⟩ := stacks_run ins vars cells hl (fun x hx h => by
      obtain ⟨i, hi, rfl⟩ := List.getElem_of_mem hx
      exact (hin i _ (by simp [hi])).1 h)
    have hr := rounds_run ins vars cells S'.length ins.length (bD S') (bD (ledOf ins)) hl hin
    simp [hq] at hf hs hr
    simp [Tryd.f14, g1]
    rw [drwK_nil (by kernel_rfl)]
    simp [hf, hs]
    cases hq2 : stackS (ledOf ins) 0 ins []
    · simp
    · simp [hr]
end Go.Am
end
section
namespace Go.Am
open Go Go.Proofs
set_option maxRecDepth 20000
@[simp] def rM (ins : List Ins) (vars cells : Int) (s : Ms) (G : List Int) (v : Nat) (c : Cont) : Mem :=
  [⟨250, 1, .box [.d (.list (ins.map insD)), .d (.int .i64 vars), .d (.int .i64 cells)]⟩, ⟨400, 1, .box [.lit (.slice none 0 0), .d (.int .i64 0), .d (.int .i64 0)]⟩, ⟨500, v, c⟩, ⟨1701, 2, .vec 1 (s.cells.map jD)⟩,
   ⟨2150, 1, .box (mB (.d (.list (ins.map insD))) vars cells (.vec 1701 2 0 s.cells.length) s.stk G s.stk.length s.at_ s.fuel s.fault)⟩, ⟨4051, 0, .dead⟩]
theorem run_loop (ins : List Ins) (vars cells : Int) {r : Nat → Nat} {st : Nat → List Bool} {n : Nat} (hg : Good pinsN n ins r st) (hl : InsOk ins) (k : Kt) (R : Ans) {s t : Ms} (h : RunsF ins s t) : VInv ins st n s →
    (∀ X v c G, t.stk.length + G.length = 64 → k (.exit 0) ⟨89, gl0, (3, true, .ptr 250 1 0) :: (6, true, .ptr 400 1 0) :: (7, true, .ptr 2150 1 0) :: X, rM ins vars cells t G v c⟩ = R) →
    ∀ X v c G, s.stk.length + G.length = 64 →
    denK ctx 10 (.loop (Code.at (codeOf Tryd.f10) [1, 1, 1, 0, 0, 0])) ⟨89, gl0, (3, true, .ptr 250 1 0) :: (6, true, .ptr 400 1 0) :: (7, true, .ptr 2150 1 0) :: X, rM ins vars cells s G v c⟩ k = R := by
  induction h with
  | fault s h =>
    intro hv hx X v c G hG
    have hx := hx [(46, true, .d (.bool false))] v c G hG
    simp at hx
    rw [denK_loop]
    simp [Tryd.f10, mB_len hG, mB_g71 hG, h, hx]
  | fin s x h0 hxx h15 =>
    intro hv hx X v c G hG
    have hlt := (hv.here h0).1
    have hp := hv.nums.place
    have hxe : ins[s.at_.toNat] = x := by
      rw [List.getElem?_eq_getElem hlt] at hxx
      exact Option.some.inj hxx
    have hx := hx [(8, true, .ptr 500 (v + 1) 0), (57, true, .d (.bool true))] (v + 1) (.box [.d (.int .i64 x.op), .d (.int .i64 x.a), .d (.int .i64 x.b), .d (.int .i64 x.n), .d (.int .i64 x.m)]) G hG
    simp [h15, h0] at hx
    rw [denK_loop]
    simp [Tryd.f10, mB_len hG, mB_g69 hG, mB_g71 hG, h0, hlt, hp.1, hxe, h15, drwK_end, hx]
  | step s x t h0 hxx h15 h' ih =>
    intro hv hx X v c G hG
    obtain ⟨hfit, hop, hv', _⟩ := step_inv hg hl hv h0 hxx h15
    have ih := ih hv' hx
    have hlt := (hv.here h0).1
    have hp := hv.nums.place
    have hlen := hg.len
    have hxe : ins[s.at_.toNat] = x := by
      rw [List.getElem?_eq_getElem hlt] at hxx
      exact Option.some.inj hxx
    have hN1 : NumsOk { s with at_ := s.at_ + 1 } := ⟨hv.nums.cells, hv.nums.stk, hv.nums.few, hv.nums.fuel, by simp only; omega⟩
    have w1 : IntKind.i64.wrap (s.at_ + 1) = s.at_ + 1 := wrap_id (by unfold I64; omega)
    clear hx hv' hv
    by_cases h7 : x.op ≤ 7
    · obtain ⟨t1, G', e1, e2, e3⟩ := vmoves_run (.list (ins.map insD)) vars cells x { s with at_ := s.at_ + 1 } G hG hN1.few hfit ⟨hop.1, h7⟩
      have e4 : stepF x s = t1 := by unfold stepF; rw [e1]
      rw [e4] at ih
      have ih := ih [(8, true, .ptr 500 (v + 1) 0), (68, true, .d (.bool false))] (v + 1) (.box [.d (.int .i64 x.op), .d (.int .i64 x.a), .d (.int .i64 x.b), .d (.int .i64 x.n), .d (.int .i64 x.m)]) G' e2
      simp [mC, mC2, h0] at e3
      rw [denK_loop]
      simp [Tryd.f10] at ih ⊢
      simp [mB_len hG, mB_g69 hG, mB_g71 hG, mB_set69 hG, mB_keys, mB_vws, mB_ups, h0, hlt, hp.1, hxe, h15, w1, e3, drwK_end, ih]
    · obtain ⟨e1, e3⟩ := vmoves_none (.list (ins.map insD)) vars cells x { s with at_ := s.at_ + 1 } G (by omega)
      obtain ⟨G', e2, e5⟩ := control_run (.list (ins.map insD)) vars cells x { s with at_ := s.at_ + 1 } G hG hfit hN1 ⟨by omega, hop.2⟩
      have e4 : stepF x s = ctlF x { s with at_ := s.at_ + 1 } := by unfold stepF; rw [e1]
      rw [e4] at ih
      have ih := ih [] (v + 1) (.box [.d (.int .i64 x.op), .d (.int .i64 x.a), .d (.int .i64 x.b), .d (.int .i64 x.n), .d (.int .i64 x.m)]) G' e2
      generalize ctlF x { s with at_ := s.at_ + 1 } = t1 at *
      simp [mC, mC2, h0] at e3 e5
      rw [denK_loop]
      simp [Tryd.f10] at ih ⊢
      simp [mB_len hG, mB_g69 hG, mB_g71 hG, mB_set69 hG, mB_keys, mB_vws, mB_ups, h0, hlt, hp.1, hxe, h15, w1, e3, e5, drwK_end, ih]
end Go.Am
end
section
namespace Go.Am
open Go Go.Proofs
set_option maxRecDepth 20000
@[simp] def ranD (C : List Int) (fault fuel : Int) : D := .agg [.list (C.map jD), .int .i64 fault, .int .i64 fuel]
theorem vrun_bad (ins : List Ins) (vars cells : Int) (C : List Int) (fuel : Int) (hl : ins.length ≤ 5000) (hC : C.length ≤ 100000)
    (h : okCode pinsN ins vars cells = false ∨ (C.length : Int) ≠ vars ∨ fuel < 0 ∨ 16384 < fuel) :
    callT ctx 10 [.d (codeD ins vars cells), .d (.list (C.map jD)), .d (.int .i64 fuel)] [] = some (.ret (.d (ranD C 0 (-1))), []) := by
  have hc := checkCode_run pinsN pins_ok ins vars cells hl
  have hcl := clone64_run C hC
  have ht : (C.map jD).take C.length = C.map jD := List.take_of_length_le (by simp)
  rw [run10 (by simp)]
  generalize okCode pinsN ins vars cells = ok at *
  simp at hc hcl
  cases ok
  · simp [Tryd.f10, hc, hcl, ht]
  · by_cases h1 : (C.length : Int) = vars
    · by_cases h2 : fuel < 0
      · simp [Tryd.f10, hc, hcl, ht, h1, h2]
      · by_cases h3 : 16384 < fuel
        · simp [Tryd.f10, hc, hcl, ht, h1, h2, h3]
        · rcases h with h | h | h | h
          · cases h
          · exact absurd h1 h
          · exact absurd h h2
          · exact absurd h h3
    · simp [Tryd.f10, hc, hcl, ht, h1]
/-- The state in which code begins. -/
def s0 (C : List Int) (cells : Nat) (fuel : Int) : Ms := ⟨C ++ List.replicate (cells - C.length) 0, [], 0, fuel, 0⟩
theorem s0_inv {l : List Ins} {r : Nat → Nat} {st : Nat → List Bool} {n : Nat} (hg : Good pinsN n l r st) {C : List Int} (hI : ∀ x ∈ C, I64 x) (hC : C.length ≤ n) (hn : n ≤ 8192) {fuel : Int} (hf : 0 ≤ fuel ∧ fuel ≤ 16384) : VInv l st n (s0 C n fuel) := by
  have h1 := hg.len
  refine ⟨⟨fun x hx => ?_, by simp [s0], by simp [s0]; omega, hf, by simp [s0]⟩, by simp [s0]; omega, by simp [s0], fun _ => ⟨by simp [s0]; omega, by simp [s0, hg.st0]⟩⟩
  unfold s0 at hx
  rcases List.mem_append.1 hx with hx | hx
  · exact hI x hx
  · rw [(List.mem_replicate.1 hx).2]; exact I64_0
theorem vrun_ok (ins : List Ins) (vars cells : Int) (C : List Int) (fuel : Int) (hok : okCode pinsN ins vars cells = true) (hv : (C.length : Int) = vars) (hf : 0 ≤ fuel ∧ fuel ≤ 16384) (hl : InsOk ins) (hI : ∀ x ∈ C, I64 x) (t : Ms)
    (ht : RunsF ins (s0 C cells.toNat fuel) t) (htv : t.cells.length = cells.toNat ∧ t.stk.length ≤ 64) :
    callT ctx 10 [.d (codeD ins vars cells), .d (.list (C.map jD)), .d (.int .i64 fuel)] [] = some (.ret (.d (ranD (t.cells.take vars.toNat) t.fault t.fuel)), []) := by
  obtain ⟨⟨c1, c2, c3, c4⟩, r, st, hg⟩ := good_of hok
  have hlen := hg.len
  obtain ⟨n, rfl⟩ : ∃ n : Nat, cells = (n : Int) := ⟨cells.toNat, by omega⟩
  have hCn : C.length ≤ n := by omega
  have hc := checkCode_run pinsN pins_ok ins vars n (by omega)
  rw [hok] at hc
  have hcl := clone64_run C (by omega)
  have hcl2 := clone64_run (t.cells.take C.length) (by simp; omega)
  have hinv := s0_inv (l := ins) hg hI hCn (by omega) hf
  have hloop := fun k R hx => run_loop ins vars n hg hl k R ht hinv hx [] 0 .dead (List.replicate 64 0) (by simp [s0])
  have htk : min C.length t.cells.length = C.length := by simp at htv; omega
  have htm : ((t.cells.take C.length).map jD).take C.length = (t.cells.take C.length).map jD := List.take_of_length_le (by simp; omega)
  have w1 : IntKind.i64.wrap ((n : Int) - (C.length : Int)) = ((n - C.length : Nat) : Int) := by rw [show (n : Int) - (C.length : Int) = ((n - C.length : Nat) : Int) by omega]; exact wrap_id (by unfold I64; omega)
  have g1 : (0 : Int) ≤ (n : Int) - (C.length : Int) := by omega
  rw [run10 (by simp)]
  subst hv
  rw [show (t.cells.take C.length).length = C.length by simp; omega] at hcl2
  have f1 : ¬ fuel < 0 := by omega
  have f2 : ¬ 16384 < fuel := by omega
  simp at hc hcl
  simp [Tryd.f10, s0] at hloop
  have g2 : ((n - C.length : Nat) : Int) ≤ 4611686018427387904 := by omega
  have g3 : (C.length + (n - C.length)) * 8 ≤ 140737488355328 ∧ C.length + (n - C.length) ≤ 4611686018427387904 := by omega
  simp [Tryd.f10, hc, hcl, f1, f2, w1, g1, g2, g3, drwK_end]
  refine hloop _ _ ?_
  intro X v c G hG
  have k1 : C.length ≤ t.cells.length := by omega
  have k2 : (C.length : Int) ≤ (t.cells.length : Int) := by omega
  have hpl : plainDs ((t.cells.map jD).take C.length) = true := by rw [← List.map_take]; exact plainDs_jD _
  simp at hcl2 htm
  simp [mB_len hG, mB_g3, mB_g70 hG, mB_g71 hG, mB_keys, mB_vws, mB_ups, k1, k2, hcl2, htm, hpl, drwK_end]
end Go.Am
end

/-
  Texts of one proof, one behind the other.
-/
import Derived.Test.YtmlboljlgaaebaaDoorP5
set_option linter.all false
section
namespace Go.Am

/-- A node from which all ways end. -/
inductive Ends (succ : Nat → List Nat) : Nat → Prop
  | mk (i : Nat) (h : ∀ j ∈ succ i, Ends succ j) : Ends succ i
inductive Way (succ : Nat → List Nat) : Nat → Nat → Prop
  | one {i j} (h : j ∈ succ i) : Way succ i j
  | more {i j k} (h : Way succ i j) (h2 : k ∈ succ j) : Way succ i k
theorem Way.trans {succ : Nat → List Nat} {i j k : Nat} (h : Way succ i j) (h2 : Way succ j k) : Way succ i k := by
  induction h2 with
  | one h3 => exact .more h h3
  | more _ h3 ih => exact .more ih h3
theorem Ends.way {succ : Nat → List Nat} {i j : Nat} (h : Ends succ i) (w : Way succ i j) : Ends succ j := by
  induction w with
  | one h2 => cases h with | mk _ h => exact h _ h2
  | more _ h2 ih => cases ih with | mk _ h => exact h _ h2
theorem Ends.no_round {succ : Nat → List Nat} {i : Nat} (h : Ends succ i) : ¬ Way succ i i := by
  induction h with
  | mk i h ih =>
    intro w
    -- the first step of the way
    have first : ∀ {a b}, Way succ a b → ∃ c ∈ succ a, c = b ∨ Way succ c b := by
      intro a b w
      induction w with
      | one h => exact ⟨_, h, .inl rfl⟩
      | more _ h2 ih =>
        obtain ⟨c, hc, h3⟩ := ih
        rcases h3 with rfl | h3
        · exact ⟨_, hc, .inr (.one h2)⟩
        · exact ⟨_, hc, .inr (.more h3 h2)⟩
    obtain ⟨c, hc, h3⟩ := first w
    rcases h3 with rfl | h3
    · exact ih _ hc w
    · exact ih c hc (h3.trans (.one hc))

/- The search: 0 new, 1 open, 2 done. -/
mutual
def dfs (succ : Nat → List Nat) : Nat → Nat → List Nat → Bool × List Nat
  | 0, _, seen => (true, seen)
  | f + 1, at_, seen => if seen.getD at_ 0 ≠ 0 then (seen.getD at_ 0 == 1, seen) else
    match dfsL succ f (succ at_) (seen.set at_ 1) with
    | (true, s) => (true, s)
    | (false, s) => (false, s.set at_ 2)
def dfsL (succ : Nat → List Nat) : Nat → List Nat → List Nat → Bool × List Nat
  | _, [], seen => (false, seen)
  | f, n :: r, seen => match dfs succ f n seen with
    | (true, s) => (true, s)
    | (false, s) => dfsL succ f r s
end
def fresh (seen : List Nat) : Nat := seen.countP (· == 0)
structure DfsOk (succ : Nat → List Nat) (seen seen' : List Nat) : Prop where
  len : seen'.length = seen.length
  grey : ∀ i, seen'.getD i 0 = 1 ↔ seen.getD i 0 = 1
  black : ∀ i, seen.getD i 0 = 2 → seen'.getD i 0 = 2
  vals : (∀ i, seen.getD i 0 ≤ 2) → ∀ i, seen'.getD i 0 ≤ 2
  ends : (∀ i, seen.getD i 0 = 2 → Ends succ i) → ∀ i, seen'.getD i 0 = 2 → Ends succ i
  fresh : fresh seen' ≤ fresh seen
theorem DfsOk.refl (succ : Nat → List Nat) (s : List Nat) : DfsOk succ s s := ⟨rfl, fun _ => Iff.rfl, fun _ h => h, fun h => h, fun h => h, Nat.le_refl _⟩
theorem DfsOk.trans {succ : Nat → List Nat} {a b c : List Nat} (h : DfsOk succ a b) (k : DfsOk succ b c) : DfsOk succ a c :=
  ⟨by rw [k.len, h.len], fun i => (k.grey i).trans (h.grey i), fun i hi => k.black i (h.black i hi), fun hv => k.vals (h.vals hv), fun he => k.ends (h.ends he), Nat.le_trans k.fresh h.fresh⟩
theorem getD_set (l : List Nat) (i j v : Nat) : (l.set i v).getD j 0 = if i = j ∧ i < l.length then v else l.getD j 0 := by
  simp only [List.getD_eq_getElem?_getD, List.getElem?_set]
  by_cases h : i = j
  · subst h
    by_cases h2 : i < l.length
    · simp [h2]
    · simp [h2]
  · simp [h]
theorem fresh_set {l : List Nat} {i v : Nat} (h : l.getD i 0 = 0) (hi : i < l.length) (hv : v ≠ 0) : fresh (l.set i v) + 1 = fresh l := by
  induction l generalizing i with
  | nil => simp at hi
  | cons x r ih =>
    cases i with
    | zero =>
      simp at h
      subst h
      simp [fresh, hv]
    | succ i =>
      have h1 := ih (i := i) (by simpa using h) (by simpa using hi)
      unfold fresh at h1 ⊢
      simp only [List.set_cons_succ, List.countP_cons]
      omega
theorem fresh_set_le {l : List Nat} {i v : Nat} (hv : v ≠ 0) : fresh (l.set i v) ≤ fresh l := by
  induction l generalizing i with
  | nil => simp
  | cons x r ih =>
    cases i with
    | zero =>
      simp only [fresh, List.set_cons_zero, List.countP_cons]
      simp [hv]
    | succ i =>
      have h1 := ih (i := i)
      unfold fresh at h1 ⊢
      simp only [List.set_cons_succ, List.countP_cons]
      omega

/-- The open nodes all lead to a node. -/
def Lead (succ : Nat → List Nat) (seen : List Nat) (at_ : Nat) : Prop := ∀ i, seen.getD i 0 = 1 → Way succ i at_

theorem dfs_all (succ : Nat → List Nat) : ∀ f : Nat,
    (∀ at_ seen, fresh seen < f → at_ < seen.length → (∀ i < seen.length, ∀ j ∈ succ i, j < seen.length) → (∀ i, seen.getD i 0 ≤ 2) → Lead succ seen at_ →
      ((dfs succ f at_ seen).1 = true → ∃ i, i < seen.length ∧ Way succ i i) ∧ ((dfs succ f at_ seen).1 = false → DfsOk succ seen (dfs succ f at_ seen).2 ∧ (dfs succ f at_ seen).2.getD at_ 0 = 2)) ∧
    (∀ l at_ seen, fresh seen < f → (∀ n ∈ l, n ∈ succ at_) → (∀ n ∈ l, n < seen.length) → seen.getD at_ 0 = 1 → (∀ i < seen.length, ∀ j ∈ succ i, j < seen.length) → (∀ i, seen.getD i 0 ≤ 2) → (∀ i, seen.getD i 0 = 1 → i = at_ ∨ Way succ i at_) →
      ((dfsL succ f l seen).1 = true → ∃ i, i < seen.length ∧ Way succ i i) ∧ ((dfsL succ f l seen).1 = false → DfsOk succ seen (dfsL succ f l seen).2 ∧ ∀ n ∈ l, (dfsL succ f l seen).2.getD n 0 = 2))
  | 0 => ⟨fun _ _ h => by omega, fun _ _ _ h => by omega⟩
  | f + 1 => by
    have hd : ∀ at_ seen, fresh seen < f + 1 → at_ < seen.length → (∀ i < seen.length, ∀ j ∈ succ i, j < seen.length) → (∀ i, seen.getD i 0 ≤ 2) → Lead succ seen at_ →
      ((dfs succ (f + 1) at_ seen).1 = true → ∃ i, i < seen.length ∧ Way succ i i) ∧ ((dfs succ (f + 1) at_ seen).1 = false → DfsOk succ seen (dfs succ (f + 1) at_ seen).2 ∧ (dfs succ (f + 1) at_ seen).2.getD at_ 0 = 2) := by
      intro at_ seen hf hl hs hv hlead
      have ihL := (dfs_all succ f).2 (succ at_) at_ (seen.set at_ 1)
      unfold dfs
      by_cases h0 : seen.getD at_ 0 ≠ 0
      · rw [if_pos h0]
        refine ⟨fun h => ⟨at_, hl, hlead at_ (by simpa using h)⟩, fun h => ⟨DfsOk.refl _ _, ?_⟩⟩
        have := hv at_
        simp only [beq_eq_false_iff_ne] at h
        simp only
        omega
      · rw [if_neg h0]
        have h0' : seen.getD at_ 0 = 0 := by omega
        have hfr := fresh_set (v := 1) h0' hl (by decide)
        have hL := ihL (by omega) (fun n h => h) (fun n h => by simpa using hs at_ hl n h) (by rw [getD_set]; simp [hl]) (by simpa using hs)
          (fun i => by rw [getD_set]; split; omega; exact hv i)
          (fun i hi => by
            rw [getD_set] at hi
            split at hi
            · rename_i h; exact .inl h.1.symm
            · exact .inr (hlead i hi))
        obtain ⟨s, b, he⟩ : ∃ s b, dfsL succ f (succ at_) (seen.set at_ 1) = (b, s) := ⟨_, _, rfl⟩
        rw [he] at hL ⊢
        cases b with
        | true => exact ⟨fun _ => by simpa using hL.1 rfl, fun h => by simp at h⟩
        | false =>
          refine ⟨fun h => by simp at h, fun _ => ?_⟩
          obtain ⟨ok, hall⟩ := hL.2 rfl
          simp only at ok hall ⊢
          have hlen : s.length = seen.length := by rw [ok.len]; simp
          refine ⟨⟨by simp [hlen], fun i => ?_, fun i hi => ?_, fun _ i => ?_, fun hend i hi => ?_, ?_⟩, by rw [getD_set]; simp [hlen, hl]⟩
          · rw [getD_set]
            by_cases hi : at_ = i
            · subst hi
              simp only [hlen, hl, and_self, if_true, h0']
              omega
            · simp only [hi, false_and, if_false]
              rw [ok.grey i, getD_set]
              simp [hi]
          · rw [getD_set]
            split
            · rfl
            · refine ok.black i ?_
              rw [getD_set]
              split
              · rename_i h; rw [← h.1, h0'] at hi; omega
              · exact hi
          · rw [getD_set]
            split
            · omega
            · refine ok.vals (fun i => ?_) i
              rw [getD_set]; split; omega; exact hv i
          · have hend1 : ∀ i, s.getD i 0 = 2 → Ends succ i := ok.ends (fun i hi => by
              rw [getD_set] at hi
              split at hi
              · omega
              · exact hend i hi)
            rw [getD_set] at hi
            split at hi
            · rename_i h
              rw [← h.1]
              exact .mk _ (fun j hj => hend1 j (hall j hj))
            · exact hend1 i hi
          · have h1 := fresh_set_le (l := s) (i := at_) (v := 2) (by decide)
            have h2 := ok.fresh
            omega
    refine ⟨hd, ?_⟩
    intro l
    induction l with
    | nil =>
      intro at_ seen _ _ _ _ _ _ _
      unfold dfsL
      exact ⟨fun h => by simp at h, fun _ => ⟨DfsOk.refl _ _, fun n h => by simp at h⟩⟩
    | cons n r ih =>
      intro at_ seen hf hsub hlt hat hs hv hlead
      have h1 := hd n seen hf (hlt n (by simp)) hs hv (fun i hi => by
        have hn := hsub n (by simp)
        rcases hlead i hi with rfl | h
        · exact .one hn
        · exact .more h hn)
      unfold dfsL
      obtain ⟨s, b, he⟩ : ∃ s b, dfs succ (f + 1) n seen = (b, s) := ⟨_, _, rfl⟩
      rw [he] at h1 ⊢
      cases b with
      | true => exact ⟨fun _ => h1.1 rfl, fun h => by simp at h⟩
      | false =>
        obtain ⟨ok, hn2⟩ := h1.2 rfl
        simp only at ok hn2 ⊢
        have h2 := ih at_ s (Nat.lt_of_le_of_lt ok.fresh hf) (fun m hm => hsub m (by simp [hm])) (fun m hm => by rw [ok.len]; exact hlt m (by simp [hm])) ((ok.grey at_).2 hat)
          (by rw [ok.len]; exact hs) (ok.vals hv) (fun i hi => hlead i ((ok.grey i).1 hi))
        refine ⟨fun h => by have := h2.1 h; rwa [ok.len] at this, fun h => ?_⟩
        obtain ⟨ok2, hall⟩ := h2.2 h
        refine ⟨ok.trans ok2, fun m hm => ?_⟩
        rcases List.mem_cons.1 hm with rfl | hm
        · exact ok2.black _ hn2
        · exact hall m hm

/- All nodes, one behind the other. -/
def rounds (succ : Nat → List Nat) (f : Nat) : List Nat → List Nat → Bool
  | [], _ => false
  | n :: r, seen => match dfs succ f n seen with
    | (true, _) => true
    | (false, s) => rounds succ f r s
theorem rounds_iff (succ : Nat → List Nat) (N f : Nat) (hf : N < f) (hs : ∀ i < N, ∀ j ∈ succ i, j < N) :
    rounds succ f (List.range N) (List.replicate N 0) = true ↔ ∃ i < N, ¬ Ends succ i := by
  have key : ∀ (l : List Nat) (seen : List Nat), seen.length = N → (∀ n ∈ l, n < N) → (∀ i, seen.getD i 0 ≠ 1) → (∀ i, seen.getD i 0 ≤ 2) → (∀ i, seen.getD i 0 = 2 → Ends succ i) → (∀ i < N, i ∈ l ∨ seen.getD i 0 = 2) →
      (rounds succ f l seen = true ↔ ∃ i < N, ¬ Ends succ i) := by
    intro l
    induction l with
    | nil =>
      intro seen _ _ _ _ he hall
      unfold rounds
      refine ⟨fun h => by simp at h, ?_⟩
      rintro ⟨i, hi, hn⟩
      rcases hall i hi with h | h
      · simp at h
      · exact absurd (he i h) hn
    | cons n r ih =>
      intro seen hl hlt hg hv he hall
      have hfr : fresh seen ≤ seen.length := List.countP_le_length
      have h1 := (dfs_all succ f).1 n seen (by omega) (by rw [hl]; exact hlt n (by simp)) (by rw [hl]; exact hs) hv (fun i hi => absurd hi (hg i))
      unfold rounds
      obtain ⟨s, b, hd⟩ : ∃ s b, dfs succ f n seen = (b, s) := ⟨_, _, rfl⟩
      rw [hd] at h1 ⊢
      cases b with
      | true =>
        refine ⟨fun _ => ?_, fun _ => rfl⟩
        obtain ⟨i, hi, w⟩ := h1.1 rfl
        exact ⟨i, by omega, fun h => h.no_round w⟩
      | false =>
        obtain ⟨ok, hn2⟩ := h1.2 rfl
        simp only at ok hn2 ⊢
        refine ih s (by rw [ok.len, hl]) (fun m hm => hlt m (by simp [hm])) (fun i hi => hg i ((ok.grey i).1 hi)) (ok.vals hv) (ok.ends he) (fun i hi => ?_)
        rcases hall i hi with h | h
        · rcases List.mem_cons.1 h with rfl | h
          · exact .inr hn2
          · exact .inl h
        · exact .inr (ok.black i h)
  refine key _ _ (by simp) (by simp) (fun i => ?_) (fun i => ?_) (fun i hi => ?_) (fun i hi => .inl (by simpa using hi))
  · simp [List.getD_eq_getElem?_getD, List.getElem?_replicate]; split <;> simp
  · simp [List.getD_eq_getElem?_getD, List.getElem?_replicate]; split <;> simp
  · simp [List.getD_eq_getElem?_getD, List.getElem?_replicate] at hi
    split at hi <;> simp at hi
/- Striking out. -/
def strike (succ : Nat → List Nat) (s : List Bool × Bool) (i : Nat) : List Bool × Bool :=
  if s.1.getD i true = true then s else if (succ i).all (fun j => s.1.getD j true) = true then (s.1.set i true, true) else s
def strikes (succ : Nat → List Nat) (l : List Nat) (s : List Bool × Bool) : List Bool × Bool := l.foldl (strike succ) s
def struck (succ : Nat → List Nat) (l : List Nat) : Nat → List Bool → List Bool
  | 0, g => g
  | f + 1, g => match strikes succ l (g, false) with
    | (g', true) => struck succ l f g'
    | (g', false) => g'
def left (g : List Bool) : Nat := g.countP (· == false)
theorem getD_setB (l : List Bool) (i j : Nat) (v : Bool) : (l.set i v).getD j true = if i = j ∧ i < l.length then v else l.getD j true := by
  simp only [List.getD_eq_getElem?_getD, List.getElem?_set]
  by_cases h : i = j
  · subst h
    by_cases h2 : i < l.length
    · simp [h2]
    · simp [h2]
  · simp [h]
theorem left_set {l : List Bool} {i : Nat} (h : l.getD i true = false) : left (l.set i true) + 1 = left l := by
  induction l generalizing i with
  | nil => simp at h
  | cons x r ih =>
    cases i with
    | zero =>
      simp at h
      subst h
      simp [left]
    | succ i =>
      have h1 := ih (i := i) (by simpa using h)
      unfold left at h1 ⊢
      simp only [List.set_cons_succ, List.countP_cons]
      omega
structure StrikeOk (succ : Nat → List Nat) (s s' : List Bool × Bool) : Prop where
  len : s'.1.length = s.1.length
  ends : (∀ i < s.1.length, s.1.getD i true = true → Ends succ i) → ∀ i < s.1.length, s'.1.getD i true = true → Ends succ i
  less : s'.2 = true → s.2 = false → left s'.1 < left s.1
  le : left s'.1 ≤ left s.1
  more : s.2 = true → s'.2 = true
  same : s'.2 = false → s' = s
theorem strike_ok {succ : Nat → List Nat} {s : List Bool × Bool} {i : Nat} (hs : ∀ j ∈ succ i, j < s.1.length) : StrikeOk succ s (strike succ s i) := by
  unfold strike
  split
  · exact ⟨rfl, fun h => h, fun a b => (by rw [a] at b; cases b), Nat.le_refl _, fun h => h, fun _ => rfl⟩
  · rename_i h0
    split
    · rename_i h1
      have h2 := left_set (l := s.1) (i := i) (by simpa using h0)
      refine ⟨by simp, fun he j hj h => ?_, fun _ _ => by simp only; omega, by simp only; omega, fun _ => rfl, fun h => by simp at h⟩
      simp only at h
      rw [getD_setB] at h
      split at h
      · rename_i hij
        rw [← hij.1]
        exact .mk _ (fun k hk => he k (hs k hk) (by simpa using List.all_eq_true.1 h1 k hk))
      · exact he j hj h
    · exact ⟨rfl, fun h => h, fun a b => (by rw [a] at b; cases b), Nat.le_refl _, fun h => h, fun _ => rfl⟩
theorem StrikeOk.trans {succ : Nat → List Nat} {a b c : List Bool × Bool} (h : StrikeOk succ a b) (k : StrikeOk succ b c) : StrikeOk succ a c :=
  ⟨by rw [k.len, h.len], fun he => by have := k.ends; rw [h.len] at this; exact this (h.ends he), fun h1 h2 => by
      cases hb : b.2 with
      | true => exact Nat.lt_of_le_of_lt k.le (h.less hb h2)
      | false => exact Nat.lt_of_lt_of_le (k.less h1 hb) h.le, Nat.le_trans k.le h.le, fun h1 => k.more (h.more h1), fun h1 => by
      cases hb : b.2 with
      | true => rw [k.more hb] at h1; cases h1
      | false => rw [k.same h1, h.same hb]⟩
theorem strikes_ok {succ : Nat → List Nat} {N : Nat} (hs : ∀ i < N, ∀ j ∈ succ i, j < N) : ∀ (l : List Nat) (s : List Bool × Bool), s.1.length = N → (∀ i ∈ l, i < N) →
    StrikeOk succ s (strikes succ l s) ∧ ((strikes succ l s).2 = false → ∀ i ∈ l, s.1.getD i true = false → ∃ j ∈ succ i, s.1.getD j true = false)
  | [], s, _, _ => ⟨⟨rfl, fun h => h, fun a b => (by rw [show (strikes succ [] s).2 = s.2 from rfl, b] at a; cases a), Nat.le_refl _, fun h => h, fun _ => rfl⟩, fun _ i h => by simp at h⟩
  | i :: r, s, hl, hlt => by
    have h1 := strike_ok (s := s) (i := i) (by rw [hl]; exact hs i (hlt i (by simp)))
    obtain ⟨h2, h3⟩ := strikes_ok hs r (strike succ s i) (by rw [h1.len, hl]) (fun j hj => hlt j (by simp [hj]))
    have e : strikes succ (i :: r) s = strikes succ r (strike succ s i) := rfl
    rw [e]
    refine ⟨h1.trans h2, fun hf j hj hg => ?_⟩
    have hsame : strike succ s i = s := h1.same (by
      cases hb : (strike succ s i).2 with
      | false => rfl
      | true => rw [h2.more hb] at hf; cases hf)
    rcases List.mem_cons.1 hj with rfl | hj
    · unfold strike at hsame
      rw [if_neg (by rw [hg]; simp)] at hsame
      split at hsame
      · rename_i h4
        have : left (s.1.set j true) = left s.1 := by rw [show s.1.set j true = s.1 from congrArg Prod.fst hsame]
        have := left_set hg
        omega
      · rename_i h4
        simp only [List.all_eq_true, Classical.not_forall] at h4
        obtain ⟨k, hk, h5⟩ := h4
        exact ⟨k, hk, by simpa using h5⟩
    · rw [hsame] at h3 hf
      exact h3 hf j hj hg
theorem struck_all {succ : Nat → List Nat} {N : Nat} (hs : ∀ i < N, ∀ j ∈ succ i, j < N) (l : List Nat) (hl : ∀ i, i ∈ l ↔ i < N) : ∀ (f : Nat) (g : List Bool), g.length = N → left g < f → (∀ i < N, g.getD i true = true → Ends succ i) →
    (struck succ l f g).length = N ∧ ∀ i < N, ((struck succ l f g).getD i true = true ↔ Ends succ i)
  | 0, g, _, h, _ => by omega
  | f + 1, g, hg, hf, he => by
    obtain ⟨ok, hfix⟩ := strikes_ok hs l (g, false) hg (fun i hi => (hl i).1 hi)
    unfold struck
    obtain ⟨g', b, hd⟩ : ∃ g' b, strikes succ l (g, false) = (g', b) := ⟨_, _, rfl⟩
    rw [hd] at ok hfix ⊢
    have hlen : g'.length = N := by have := ok.len; simp only at this; omega
    cases b with
    | true =>
      have := ok.less rfl rfl
      simp only at this
      exact struck_all hs l hl f g' hlen (by omega) (by have := ok.ends; simp only [hg] at this; exact this he)
    | false =>
      have hsame := ok.same rfl
      simp only [Prod.mk.injEq] at hsame
      obtain ⟨rfl, _⟩ := hsame
      refine ⟨hlen, fun i hi => ⟨he i hi, fun h => ?_⟩⟩
      induction h with
      | mk i h ih =>
        simp only
        cases hg2 : g'.getD i true with
        | true => rfl
        | false =>
          obtain ⟨j, hj, hg3⟩ := hfix rfl i ((hl i).2 hi) hg2
          have := ih j hj (hs i hi j hj)
          simp only at this hg3
          rw [this] at hg3; cases hg3
/-- Nodes that lead nowhere may be left out of what is led to. -/
theorem ends_filter {succ : Nat → List Nat} {p : Nat → Bool} (hp : ∀ j, p j = false → Ends succ j) (i : Nat) : Ends (fun i => (succ i).filter p) i ↔ Ends succ i := by
  constructor
  · intro h
    induction h with
    | mk i h ih =>
      refine .mk _ (fun j hj => ?_)
      cases hpj : p j with
      | false => exact hp j hpj
      | true => exact ih j (by simp [hj, hpj])
  · intro h
    induction h with
    | mk i h ih => exact .mk _ (fun j hj => ih j ((List.mem_filter.1 hj).1))
end Go.Am
end
section
namespace Go.Am

structure Ins where
  op : Int
  a : Int
  b : Int
  n : Int
  m : Int

/-- Cells that are there. -/
def cellB (cells at_ n : Int) : Bool := decide (0 ≤ at_) && decide (0 ≤ n) && decide (n ≤ cells) && decide (at_ ≤ cells - n)
def thereB (cells at_ n : Int) : Bool := decide (0 ≤ at_) && decide (at_ ≤ 8192) && decide (at_ + n ≤ cells)
theorem cell_there {cells at_ n : Int} (hc : 0 ≤ cells ∧ cells ≤ 8192) (hn : 1 ≤ n) : cellB cells at_ n = thereB cells at_ n := by
  unfold cellB thereB
  rw [Bool.eq_iff_iff]
  simp only [Bool.and_eq_true, decide_eq_true_eq]
  omega
def doesB (x : Ins) : Bool :=
  if x.a = 0 then decide (x.b = 6) || decide (8 ≤ x.b) && decide (x.b ≤ 18)
  else if x.a = 1 then decide (x.b = 7) || decide (x.b = 13) || decide (x.b = 14) || decide (19 ≤ x.b) && decide (x.b ≤ 21)
  else false
def arrB (cells : Int) (x : Ins) : Bool := decide (0 ≤ x.n) && decide (x.n ≤ x.m) && decide (x.m ≤ 255) && cellB cells x.a (x.m - x.n + 1)
/-- Is an instruction one by itself? pins: how many cells a block of a kind has. -/
def formB (pins : Int → Nat) (cells last at_ : Int) (x : Ins) : Bool :=
  if x.op = 1 ∨ x.op = 11 then true
  else if x.op = 2 ∨ x.op = 3 ∨ x.op = 6 ∨ x.op = 14 then cellB cells x.a 1
  else if x.op = 13 then cellB cells x.a 1 && cellB cells x.b 2
  else if x.op = 4 ∨ x.op = 5 ∨ x.op = 7 then arrB cells x
  else if x.op = 8 then doesB x
  else if x.op = 9 ∨ x.op = 10 then decide (0 ≤ x.a) && decide (x.a ≤ last)
  else if x.op = 12 then decide (0 < pins x.b) && cellB cells x.a (pins x.b)
  else if x.op = 15 then decide (at_ = last)
  else false
def formsB (pins : Int → Nat) (cells last : Int) : Nat → List Ins → Bool
  | _, [] => true
  | i, x :: r => formB pins cells last i x && formsB pins cells last (i + 1) r

/-- What an instruction does with the stack: its truths, the top at the end. -/
def takeS (n : Nat) (t : Bool) (S : List Bool) : Option (List Bool) :=
  if S.length < n then none else if t && (S.drop (S.length - n)).any (fun b => !b) then none else some (S.take (S.length - n))
def giveS (t : Bool) (S : List Bool) : Option (List Bool) := if S.length < 64 then some (S ++ [t]) else none
def emptyS (S : List Bool) : Option (List Bool) := if S = [] then some [] else none
def movesS (x : Ins) (S : List Bool) : Option (List Bool) :=
  if x.op = 1 then giveS (decide (x.n = 0) || decide (x.n = 1)) S
  else if x.op = 2 then giveS false S
  else if x.op = 3 ∨ x.op = 13 ∨ x.op = 14 then giveS true S
  else if x.op = 4 then (takeS 1 false S).bind (giveS false)
  else if x.op = 5 then (takeS 1 false S).bind (giveS true)
  else if x.op = 6 then takeS 1 false S
  else if x.op = 7 then takeS 2 false S
  else if x.op = 8 then (takeS (if x.b = 6 ∨ x.b = 7 then 1 else 2) (decide (x.a = 1)) S).bind (giveS (decide (x.b = 7) || decide (13 ≤ x.b)))
  else if x.op = 10 then (takeS 1 true S).bind emptyS
  else emptyS S
def stackS (led : List Bool) : Nat → List Ins → List Bool → Bool
  | _, [], _ => true
  | i, x :: r, S => if led.getD i false && !S.isEmpty then false else match movesS x S with
    | none => false
    | some S' => stackS led (i + 1) r S'
/-- Where jumps lead. -/
def ledOf (ins : List Ins) : List Bool := ins.foldl (fun l x => if x.op = 9 ∨ x.op = 10 then l.set x.a.toNat true else l) (List.replicate ins.length false)

/-- The next places, those of steps left out. -/
def nextI (ins : List Ins) (i : Nat) : List Nat :=
  match ins[i]? with
  | none => []
  | some x => if x.op = 9 then [x.a.toNat] else if x.op = 10 then [i + 1, x.a.toNat] else if x.op = 15 then [] else [i + 1]
def tickAt (ins : List Ins) (i : Nat) : Bool :=
  match ins[i]? with
  | none => false
  | some x => decide (x.op = 11)
def succI (ins : List Ins) (i : Nat) : List Nat := if tickAt ins i = true then [] else nextI ins i
/-- The program's: without the steps. -/
def succP (ins : List Ins) (i : Nat) : List Nat := (succI ins i).filter fun j => !tickAt ins j
theorem succ_ends (ins : List Ins) (i : Nat) : Ends (succP ins) i ↔ Ends (succI ins) i :=
  ends_filter (p := fun j => !tickAt ins j) (fun j hj => .mk _ (fun k hk => by
    have : tickAt ins j = true := by simpa using hj
    simp [succI, this] at hk)) i
def headB (n vars cells : Int) (lastOp : Int) : Bool := decide (1 ≤ n) && decide (n ≤ 4096) && decide (0 ≤ cells) && decide (cells ≤ 8192) && decide (0 ≤ vars) && decide (vars ≤ cells) && decide (lastOp = 15)
def lastOp (ins : List Ins) : Int := (ins.getLast?.map (·.op)).getD 0
def okForms (pins : Int → Nat) (ins : List Ins) (vars cells : Int) : Bool := headB ins.length vars cells (lastOp ins) && formsB pins cells ((ins.length : Int) - 1) 0 ins
/-- Can it be run? -/
def okCode (pins : Int → Nat) (ins : List Ins) (vars cells : Int) : Bool :=
  okForms pins ins vars cells && stackS (ledOf ins) 0 ins [] && !(rounds (succP ins) (ins.length + 1) (List.range ins.length) (List.replicate ins.length 0))

theorem forms_get {pins : Int → Nat} {cells last : Int} : ∀ {ins : List Ins} {i0 : Nat}, formsB pins cells last i0 ins = true → ∀ i x, ins[i]? = some x → formB pins cells last ((i0 + i : Nat) : Int) x = true
  | y :: r, i0, h, i, x, hx => by
    simp only [formsB, Bool.and_eq_true] at h
    cases i with
    | zero => simp at hx; subst hx; exact h.1
    | succ i =>
      have := forms_get h.2 i x (by simpa using hx)
      rw [show i0 + (i + 1) = i0 + 1 + i by omega]
      exact this
theorem succ_in {pins : Int → Nat} {ins : List Ins} {vars cells : Int} (h : okForms pins ins vars cells = true) : ∀ i < ins.length, ∀ j ∈ succI ins i, j < ins.length := by
  intro i hi j hj
  simp only [okForms, Bool.and_eq_true] at h
  have hx : ins[i]? = some ins[i] := by simp [hi]
  have hf := forms_get h.2 i _ hx
  simp only [Nat.zero_add] at hf
  have hlast : i + 1 = ins.length → ins[i].op = 15 := by
    intro h1
    have h2 := h.1
    simp only [headB, Bool.and_eq_true, decide_eq_true_eq] at h2
    have h3 := h2.2
    unfold lastOp at h3
    rw [List.getLast?_eq_getElem?, show ins.length - 1 = i by omega, hx] at h3
    simpa using h3
  unfold succI at hj
  split at hj
  · simp at hj
  · unfold nextI at hj
    rw [hx] at hj
    simp only at hj
    unfold formB at hf
    by_cases h9 : ins[i].op = 9
    · simp [h9] at hj hf
      omega
    · by_cases h10 : ins[i].op = 10
      · simp [h10] at hj hf
        have : i + 1 ≠ ins.length := fun h => by have := hlast h; omega
        omega
      · by_cases h15 : ins[i].op = 15
        · simp [h15] at hj
        · simp [h9, h10, h15] at hj
          have : i + 1 ≠ ins.length := fun h => h15 (hlast h)
          omega
theorem round_iff {pins : Int → Nat} {ins : List Ins} {vars cells : Int} (h : okForms pins ins vars cells = true) :
    rounds (succP ins) (ins.length + 1) (List.range ins.length) (List.replicate ins.length 0) = true ↔ ∃ i < ins.length, ¬ Ends (succI ins) i := by
  rw [rounds_iff (succP ins) ins.length (ins.length + 1) (by omega) (fun i hi j hj => succ_in h i hi j (List.mem_filter.1 hj).1)]
  simp only [succ_ends]
end Go.Am
end
section
namespace Go.Am
open Go Go.Proofs
set_option maxRecDepth 20000
@[simp] def insD (x : Ins) : D := .agg [.int .i64 x.op, .int .i64 x.a, .int .i64 x.b, .int .i64 x.n, .int .i64 x.m]
@[simp] def kBox (ins : List Ins) (vars cells : Int) (x y : AV) : Cont := .box [.d (.list (ins.map insD)), .d (.int .i64 vars), .d (.int .i64 cells), x, y]
@[simp] def bD (l : List Bool) : List D := l.map .bool

section
variable (ins : List Ins) (vars cells : Int) (s1 o1 n1 s2 o2 n2 : Nat) (S T : List D)
theorem cell_run (at_ n : Int) (hc : 0 ≤ cells ∧ cells ≤ 8192) (hI : I64 n) :
    callT ctx 69 [.ptr 0 0 0, .d (.int .i64 at_), .d (.int .i64 n)] [kBox ins vars cells (.vec 1 0 0 n1) (.vec 2 0 0 n2), .vec 1 S, .vec 1 T] =
      some (.ret (.d (.bool (cellB cells at_ n))), [(0, kBox ins vars cells (.vec 1 0 0 n1) (.vec 2 0 0 n2)), (0, .vec 1 S), (0, .vec 1 T)]) := by
  rw [run69 (by simp)]
  unfold cellB
  by_cases h1 : 0 ≤ at_ <;> by_cases h2 : 0 ≤ n <;> by_cases h3 : n ≤ cells <;> simp [Tryd.f69, h1, h2, h3]
  rw [wrap_id (by unfold I64; omega)]
theorem array_run (x : Ins) (hc : 0 ≤ cells ∧ cells ≤ 8192) :
    callT ctx 70 [.ptr 0 0 0, .d (insD x)] [kBox ins vars cells (.vec 1 0 0 n1) (.vec 2 0 0 n2), .vec 1 S, .vec 1 T] =
      some (.ret (.d (.bool (arrB cells x))), [(0, kBox ins vars cells (.vec 1 0 0 n1) (.vec 2 0 0 n2)), (0, .vec 1 S), (0, .vec 1 T)]) := by
  rw [run70 (by simp)]
  unfold arrB
  by_cases h1 : 0 ≤ x.n
  · by_cases h2 : x.n ≤ x.m
    · by_cases h3 : x.m ≤ 255
      · have h := cell_run ins vars cells n1 n2 S T x.a (x.m - x.n + 1) hc (by unfold I64; omega)
        have w1 : IntKind.i64.wrap (x.m - x.n) = x.m - x.n := wrap_id (by unfold I64; omega)
        have w2 : IntKind.i64.wrap (x.m - x.n + 1) = x.m - x.n + 1 := wrap_id (by unfold I64; omega)
        simp at h
        simp [Tryd.f70, h1, h2, h3, w1, w2, h]
      · simp [Tryd.f70, h1, h2, h3]
    · simp [Tryd.f70, h1, h2]
  · simp [Tryd.f70, h1]
theorem does_run (x : Ins) : callT ctx 71 [.d (insD x)] [] = some (.ret (.d (.bool (doesB x))), []) := by
  rw [run71 (by simp)]
  unfold doesB
  by_cases h0 : x.a = 0
  · by_cases h1 : x.b = 6
    · simp [Tryd.f71, h0, h1]
    · by_cases h2 : 8 ≤ x.b <;> simp [Tryd.f71, h0, h1, h2]
  · by_cases h1 : x.a = 1
    · by_cases h2 : x.b = 7
      · simp [Tryd.f71, h1, h2]
      · by_cases h3 : x.b = 13
        · simp [Tryd.f71, h1, h3]
        · by_cases h4 : x.b = 14
          · simp [Tryd.f71, h1, h4]
          · by_cases h5 : 19 ≤ x.b <;> simp [Tryd.f71, h1, h2, h3, h4, h5]
    · simp [Tryd.f71, h0, h1]
end
end Go.Am
end
section
namespace Go.Am
open Go Go.Proofs
set_option maxRecDepth 20000
def PinsOk (f : Nat) (pins : Int → Nat) : Prop := ∀ b : Int, ∃ l : List D, callT ctx f [.d (.int .i64 b)] [] = some (.ret (.d (.list l)), []) ∧ l.length = pins b ∧ pins b ≤ 100
set_option maxHeartbeats 2000000 in
theorem form_run (pins : Int → Nat) (hp : PinsOk 38 pins) (ins : List Ins) (vars cells : Int) (n1 n2 : Nat) (S T : List D) (at_ : Int) (x : Ins) (hc : 0 ≤ cells ∧ cells ≤ 8192) (hl : ins.length ≤ 5000) :
    callT ctx 48 [.ptr 0 0 0, .d (.int .i64 at_), .d (insD x)] [kBox ins vars cells (.vec 1 0 0 n1) (.vec 2 0 0 n2), .vec 1 S, .vec 1 T] =
      some (.ret (.d (.bool (formB pins cells ((ins.length : Int) - 1) at_ x))), [(0, kBox ins vars cells (.vec 1 0 0 n1) (.vec 2 0 0 n2)), (0, .vec 1 S), (0, .vec 1 T)]) := by
  have hA1 := cell_run ins vars cells n1 n2 S T x.a 1 hc (by unfold I64; omega)
  have w1 : IntKind.i64.wrap ((ins.length : Int) - 1) = (ins.length : Int) - 1 := wrap_id (by unfold I64; omega)
  rw [run48 (by simp)]
  unfold formB
  simp at hA1
  by_cases e1 : x.op = 1
  · simp [Tryd.f48, w1, e1]
  by_cases e11 : x.op = 11
  · simp [Tryd.f48, w1, e11]
  by_cases e2 : x.op = 2
  · simp [Tryd.f48, w1, e2, hA1]
  by_cases e3 : x.op = 3
  · simp [Tryd.f48, w1, e3, hA1]
  by_cases e6 : x.op = 6
  · simp [Tryd.f48, w1, e6, hA1]
  by_cases e14 : x.op = 14
  · simp [Tryd.f48, w1, e14, hA1]
  by_cases e13 : x.op = 13
  · have hB2 := cell_run ins vars cells n1 n2 S T x.b 2 hc (by unfold I64; omega)
    simp at hB2
    cases hq : cellB cells x.a 1 <;> simp [Tryd.f48, w1, e13, hA1, hB2, hq]
  have harr := array_run ins vars cells n1 n2 S T x hc
  simp at harr
  by_cases e4 : x.op = 4
  · simp [e4] at harr
    simp [Tryd.f48, w1, e4, harr]
  by_cases e5 : x.op = 5
  · simp [e5] at harr
    simp [Tryd.f48, w1, e5, harr]
  by_cases e7 : x.op = 7
  · simp [e7] at harr
    simp [Tryd.f48, w1, e7, harr]
  by_cases e8 : x.op = 8
  · have hd := does_run x
    simp [e8] at hd
    simp [Tryd.f48, w1, e8, hd]
  by_cases e9 : x.op = 9
  · by_cases h0 : 0 ≤ x.a <;> simp [Tryd.f48, w1, e9, h0]
  by_cases e10 : x.op = 10
  · by_cases h0 : 0 ≤ x.a <;> simp [Tryd.f48, w1, e10, h0]
  by_cases e12 : x.op = 12
  · obtain ⟨l, hl1, hl2, hl3⟩ := hp x.b
    have hB := cell_run ins vars cells n1 n2 S T x.a (pins x.b) hc (by unfold I64; omega)
    simp at hB
    by_cases h0 : 0 < pins x.b
    · simp [Tryd.f48, w1, e12, h0, hl1, hl2, hB]
    · simp [Tryd.f48, w1, e12, h0, hl1, hl2, hB]
  by_cases e15 : x.op = 15
  · simp [Tryd.f48, w1, e15]
  · simp [Tryd.f48, w1, e1, e2, e3, e4, e5, e6, e7, e8, e9, e10, e11, e12, e13, e14, e15]
end Go.Am
end
section
namespace Go.Am
open Go Go.Proofs
set_option maxRecDepth 20000
def retLen : Option (Out × List (Nat × Cont)) → Option Nat
  | some (.ret (.d (.list l)), []) => some l.length
  | _ => none
theorem retLen_some {r : Option (Out × List (Nat × Cont))} {n : Nat} (h : retLen r = some n) : ∃ l, r = some (.ret (.d (.list l)), []) ∧ l.length = n := by
  unfold retLen at h
  split at h
  · rename_i l; exact ⟨l, rfl, by simpa using h⟩
  · cases h
theorem pins_of {f : FuncId} {b : Int} {n : Nat} (h : retLen (callN ctx 120 f [.d (.int .i64 b)] []) = some n) : ∃ l : List D, callT ctx f [.d (.int .i64 b)] [] = some (.ret (.d (.list l)), []) ∧ l.length = n := by
  obtain ⟨l, h1, h2⟩ := retLen_some h
  exact ⟨l, callT_of 120 h1, h2⟩
theorem pins10 : retLen (callN ctx 120 38 [.d (.int .i64 10)] []) = some 4 := by kernel_rfl
theorem pins11 : retLen (callN ctx 120 38 [.d (.int .i64 11)] []) = some 4 := by kernel_rfl
theorem pins12 : retLen (callN ctx 120 38 [.d (.int .i64 12)] []) = some 6 := by kernel_rfl
theorem pins13 : retLen (callN ctx 120 38 [.d (.int .i64 13)] []) = some 6 := by kernel_rfl
theorem pins14 : retLen (callN ctx 120 38 [.d (.int .i64 14)] []) = some 6 := by kernel_rfl
theorem pins15 : retLen (callN ctx 120 38 [.d (.int .i64 15)] []) = some 3 := by kernel_rfl
theorem pins16 : retLen (callN ctx 120 38 [.d (.int .i64 16)] []) = some 3 := by kernel_rfl
theorem pins17 : retLen (callN ctx 120 38 [.d (.int .i64 17)] []) = some 3 := by kernel_rfl
theorem pins18 : retLen (callN ctx 120 38 [.d (.int .i64 18)] []) = some 3 := by kernel_rfl
theorem pins20 : retLen (callN ctx 120 38 [.d (.int .i64 20)] []) = some 4 := by kernel_rfl
theorem pins21 : retLen (callN ctx 120 38 [.d (.int .i64 21)] []) = some 9 := by kernel_rfl
theorem pins22 : retLen (callN ctx 120 38 [.d (.int .i64 22)] []) = some 9 := by kernel_rfl
theorem pins23 : retLen (callN ctx 120 38 [.d (.int .i64 23)] []) = some 9 := by kernel_rfl
theorem pins24 : retLen (callN ctx 120 38 [.d (.int .i64 24)] []) = some 12 := by kernel_rfl
theorem pins25 : retLen (callN ctx 120 38 [.d (.int .i64 25)] []) = some 12 := by kernel_rfl
theorem pins26 : retLen (callN ctx 120 38 [.d (.int .i64 26)] []) = some 12 := by kernel_rfl
theorem pins27 : retLen (callN ctx 120 38 [.d (.int .i64 27)] []) = some 10 := by kernel_rfl
theorem pins28 : retLen (callN ctx 120 38 [.d (.int .i64 28)] []) = some 12 := by kernel_rfl
theorem pins29 : retLen (callN ctx 120 38 [.d (.int .i64 29)] []) = some 5 := by kernel_rfl
theorem pins30 : retLen (callN ctx 120 38 [.d (.int .i64 30)] []) = some 6 := by kernel_rfl
theorem pins31 : retLen (callN ctx 120 38 [.d (.int .i64 31)] []) = some 4 := by kernel_rfl
def kindsL : List Int := [10, 11, 12, 13, 14, 15, 16, 17, 18, 20, 21, 22, 23, 24, 25, 26, 27, 28, 29, 30, 31]
def pinsN (b : Int) : Nat :=
  if b = 10 then 4 else if b = 11 then 4 else if b = 12 then 6 else if b = 13 then 6 else if b = 14 then 6 else if b = 15 then 3 else if b = 16 then 3 else if b = 17 then 3 else if b = 18 then 3 else if b = 20 then 4 else if b = 21 then 9 else if b = 22 then 9 else if b = 23 then 9 else if b = 24 then 12 else if b = 25 then 12 else if b = 26 then 12 else if b = 27 then 10 else if b = 28 then 12 else if b = 29 then 5 else if b = 30 then 6 else if b = 31 then 4 else 0
def sheetOf : D → Option Int
  | .agg [.int .i64 k, .str _, .str _, .str _, .int .i64 _] => some k
  | _ => none
theorem sheetOf_some {d : D} {k : Int} (h : sheetOf d = some k) : ∃ a b c n, d = .agg [.int .i64 k, .str a, .str b, .str c, .int .i64 n] := by
  unfold sheetOf at h
  split at h
  · rename_i k' a b c n
    cases h
    exact ⟨a, b, c, n, rfl⟩
  · cases h
def sheetsOf : Option (Out × List (Nat × Cont)) → Option (List (Option Int))
  | some (.ret (.d (.list l)), []) => some (l.map sheetOf)
  | _ => none
theorem sheets_n : sheetsOf (callN ctx 120 79 [] []) = some (kindsL.map some) := by kernel_rfl
theorem sheets_run : ∃ l : List D, callT ctx 79 [] [] = some (.ret (.d (.list l)), []) ∧ l.map sheetOf = kindsL.map some := by
  have h := sheets_n
  generalize hr : callN ctx 120 79 [] [] = r at h
  unfold sheetsOf at h
  split at h
  · rename_i l
    exact ⟨l, callT_of 120 hr, by simpa using h⟩
  · cases h
theorem sheet1_run (d : D) (k b : Int) (hd : sheetOf d = some k) : callT ctx 81 [.d d, .ptr 0 0 0] [.box [.d (.int .i64 b)]] = some (.ret (.d (.bool (decide (k = b)))), [(0, .box [.d (.int .i64 b)])]) := by
  obtain ⟨a, e, c, n, rfl⟩ := sheetOf_some hd
  rw [run81 (by simp)]
  simp [Tryd.f81]
theorem sheetIdx_loop (b : Int) : ∀ (rest pre : List D), (∀ d ∈ rest, ∃ k, sheetOf d = some k ∧ k ≠ b) → (pre ++ rest).length < 1000 → ∀ k : Kt,
    denK ctx 80 (.loop (Code.at (codeOf Tryd.f80) [1, 0, 1, 0, 0])) ⟨19, gl0, [(0, true, .d (.list (pre ++ rest))), (1, true, .fn 81 [.ptr 0 0 0]), (7, true, .d (.int .i64 (pre ++ rest).length)), (8, true, .d (.int .i64 pre.length))], [⟨0, 0, .box [.d (.int .i64 b)]⟩]⟩ k =
      k (.exit 0) ⟨19, gl0, [(0, true, .d (.list (pre ++ rest))), (1, true, .fn 81 [.ptr 0 0 0]), (7, true, .d (.int .i64 (pre ++ rest).length)), (8, true, .d (.int .i64 (pre ++ rest).length)), (9, true, .d (.bool false))], [⟨0, 0, .box [.d (.int .i64 b)]⟩]⟩
  | [], pre, h, hl, k => by
    rw [denK_loop]
    simp [Tryd.f80]
  | d :: rest, pre, h, hl, k => by
    obtain ⟨kd, hk, hne⟩ := h d (by simp)
    have hs := sheet1_run d kd b hk
    obtain ⟨a1, a2, a3, a4, rfl⟩ := sheetOf_some hk
    have ih := sheetIdx_loop b rest (pre ++ [.agg [.int .i64 kd, .str a1, .str a2, .str a3, .int .i64 a4]]) (fun d hd => h d (by simp [hd])) (by simpa using hl) k
    have h1 : (pre.length : Int) < pre.length + (rest.length + 1) := by omega
    have h2 : IntKind.i64.wrap ((pre.length : Int) + 1) = pre.length + 1 := wrap_id (by unfold I64; simp at hl; omega)
    simp [hne] at hs
    rw [denK_loop]
    simp [Tryd.f80] at ih ⊢
    simp [h1, h2, hs, ih]
theorem pins_none (b : Int) (hb : b ∉ kindsL) : callT ctx 38 [.d (.int .i64 b)] [] = some (.ret (.d (.list [])), []) := by
  obtain ⟨l, hl, hm⟩ := sheets_run
  have hlen : l.length = 21 := by have := congrArg List.length hm; simpa [kindsL] using this
  have hall : ∀ d ∈ l, ∃ k, sheetOf d = some k ∧ k ≠ b := by
    intro d hd
    have h1 : sheetOf d ∈ l.map sheetOf := List.mem_map_of_mem hd
    rw [hm] at h1
    obtain ⟨k, hk, he⟩ := List.mem_map.1 h1
    exact ⟨k, he.symm, fun h => hb (h ▸ hk)⟩
  have hloop := sheetIdx_loop b l [] hall (by simp; omega)
  have hidx : callT ctx 80 [.d (.list l), .fn 81 [.ptr 0 0 0]] [.box [.d (.int .i64 b)]] = some (.ret (.d (.int .i64 (-1))), [(0, .box [.d (.int .i64 b)])]) := by
    rw [run80 (by simp)]
    simp [Tryd.f80] at hloop ⊢
    simp [hloop]
  have hof : callT ctx 55 [.d (.int .i64 b)] [] = some (.ret (.tup [.d (.agg [.int .i64 0, .str [], .str [], .str [], .int .i64 0]), .d (.bool false)]), []) := by
    rw [run55 (by simp)]
    simp [Tryd.f55, hl, hidx]
  rw [run38 (by simp)]
  simp [Tryd.f38, hof]
theorem pins_ok : PinsOk 38 pinsN := by
  intro b
  by_cases hb : b ∈ kindsL
  · simp only [kindsL, List.mem_cons, List.not_mem_nil, or_false] at hb
    rcases hb with rfl | rfl | rfl | rfl | rfl | rfl | rfl | rfl | rfl | rfl | rfl | rfl | rfl | rfl | rfl | rfl | rfl | rfl | rfl | rfl | rfl
    · obtain ⟨l, h1, h2⟩ := pins_of pins10; exact ⟨l, h1, by rw [h2]; rfl, by decide⟩
    · obtain ⟨l, h1, h2⟩ := pins_of pins11; exact ⟨l, h1, by rw [h2]; rfl, by decide⟩
    · obtain ⟨l, h1, h2⟩ := pins_of pins12; exact ⟨l, h1, by rw [h2]; rfl, by decide⟩
    · obtain ⟨l, h1, h2⟩ := pins_of pins13; exact ⟨l, h1, by rw [h2]; rfl, by decide⟩
    · obtain ⟨l, h1, h2⟩ := pins_of pins14; exact ⟨l, h1, by rw [h2]; rfl, by decide⟩
    · obtain ⟨l, h1, h2⟩ := pins_of pins15; exact ⟨l, h1, by rw [h2]; rfl, by decide⟩
    · obtain ⟨l, h1, h2⟩ := pins_of pins16; exact ⟨l, h1, by rw [h2]; rfl, by decide⟩
    · obtain ⟨l, h1, h2⟩ := pins_of pins17; exact ⟨l, h1, by rw [h2]; rfl, by decide⟩
    · obtain ⟨l, h1, h2⟩ := pins_of pins18; exact ⟨l, h1, by rw [h2]; rfl, by decide⟩
    · obtain ⟨l, h1, h2⟩ := pins_of pins20; exact ⟨l, h1, by rw [h2]; rfl, by decide⟩
    · obtain ⟨l, h1, h2⟩ := pins_of pins21; exact ⟨l, h1, by rw [h2]; rfl, by decide⟩
    · obtain ⟨l, h1, h2⟩ := pins_of pins22; exact ⟨l, h1, by rw [h2]; rfl, by decide⟩
    · obtain ⟨l, h1, h2⟩ := pins_of pins23; exact ⟨l, h1, by rw [h2]; rfl, by decide⟩
    · obtain ⟨l, h1, h2⟩ := pins_of pins24; exact ⟨l, h1, by rw [h2]; rfl, by decide⟩
    · obtain ⟨l, h1, h2⟩ := pins_of pins25; exact ⟨l, h1, by rw [h2]; rfl, by decide⟩
    · obtain ⟨l, h1, h2⟩ := pins_of pins26; exact ⟨l, h1, by rw [h2]; rfl, by decide⟩
    · obtain ⟨l, h1, h2⟩ := pins_of pins27; exact ⟨l, h1, by rw [h2]; rfl, by decide⟩
    · obtain ⟨l, h1, h2⟩ := pins_of pins28; exact ⟨l, h1, by rw [h2]; rfl, by decide⟩
    · obtain ⟨l, h1, h2⟩ := pins_of pins29; exact ⟨l, h1, by rw [h2]; rfl, by decide⟩
    · obtain ⟨l, h1, h2⟩ := pins_of pins30; exact ⟨l, h1, by rw [h2]; rfl, by decide⟩
    · obtain ⟨l, h1, h2⟩ := pins_of pins31; exact ⟨l, h1, by rw [h2]; rfl, by decide⟩
  · refine ⟨[], pins_none b hb, ?_, ?_⟩
    · simp only [kindsL, List.mem_cons, List.not_mem_nil, or_false, not_or] at hb
      simp [pinsN, hb]
    · simp only [kindsL, List.mem_cons, List.not_mem_nil, or_false, not_or] at hb
      simp [pinsN, hb]
end Go.Am
end
section
namespace Go.Am
open Go Go.Proofs
set_option maxRecDepth 20000
theorem clone64_run (c : List Int) (hl : c.length ≤ 100000) : callT ctx 17 [.d (.list (c.map jD))] [] = some (.ret (.vec 0 0 0 c.length), [(0, .vec 1 (c.map jD))]) := by
  rw [run17 (by simp)]
  cases c with
  | nil => simp [Tryd.f17]
  | cons x r =>
    simp at hl
    have h2 : ((r.length : Int) + 1) * 8 ≤ 140737488355328 := by omega
    have h3 : (r.length + 1) * 8 ≤ 140737488355328 := by omega
    have h4 : r.length + 1 ≤ 4611686018427387904 := by omega
    simp [Tryd.f17, h3, h4]
theorem len3 {c : List Int} (h : c.length = 3) : ∃ a b q, c = [a, b, q] := by
  match c, h with
  | [a, b, q], _ => exact ⟨a, b, q, rfl⟩
theorem len4 {c : List Int} (h : c.length = 4) : ∃ a b q e, c = [a, b, q, e] := by
  match c, h with
  | [a, b, q, e], _ => exact ⟨a, b, q, e, rfl⟩
theorem len6 {c : List Int} (h : c.length = 6) : ∃ a b q e p r, c = [a, b, q, e, p, r] := by
  match c, h with
  | [a, b, q, e, p, r], _ => exact ⟨a, b, q, e, p, r, rfl⟩
theorem stepB_other {k : Int} (hk : k < 10 ∨ 18 < k) (c : List Int) : stepB k c = c := by
  unfold stepB
  split
  · unfold step3; simp only [show ¬ k = 15 by omega, show ¬ k = 16 by omega, show ¬ k = 17 by omega, show ¬ k = 18 by omega, if_false]
  · unfold step4; simp only [show ¬ k = 10 by omega, show ¬ k = 11 by omega, if_false]
  · unfold step6; simp only [show ¬ k = 12 by omega, show ¬ k = 13 by omega, show ¬ k = 14 by omega, if_false]
  · rfl
theorem step4_len (k a b q e : Int) : (step4 k a b q e).length = 4 := by unfold step4; (repeat' split) <;> rfl
theorem step6_len (k a b q e p r : Int) : (step6 k a b q e p r).length = 6 := by unfold step6 tpS cuS cdS; dsimp only; (repeat' split) <;> rfl
theorem step3_len (k a b q : Int) : (step3 k a b q).length = 3 := by unfold step3; (repeat' split) <;> rfl
theorem stepB_len (k : Int) (c : List Int) : (stepB k c).length = c.length := by
  unfold stepB
  split
  · exact step3_len ..
  · exact step4_len ..
  · exact step6_len ..
  · rfl
set_option maxHeartbeats 4000000 in
theorem step_run (k : Int) (c : List Int) (hc : c.length = pinsN k) (hI : ∀ x ∈ c, I64 x) : callT ctx 39 [.d (.int .i64 k), .d (.list (c.map jD))] [] = some (.ret (.vec 0 0 0 c.length), [(0, .vec 1 ((stepB k c).map jD))]) := by
  obtain ⟨pl, hp1, hp2, hp3⟩ := pins_ok k
  have hcl := clone64_run c (by omega)
  have ht := struth_run
  have hlen : (pl.length : Int) = c.length := by omega
  rw [run39 (by simp)]
  by_cases hk : k < 10 ∨ 18 < k
  · rw [stepB_other hk]
    try simp at hcl
    try simp at hp1
    simp [Tryd.f39, hcl, hp1, hlen, show ¬ k = 10 by omega, show ¬ k = 11 by omega, show ¬ k = 12 by omega, show ¬ k = 13 by omega, show ¬ k = 14 by omega, show ¬ k = 15 by omega, show ¬ k = 16 by omega, show ¬ k = 17 by omega, show ¬ k = 18 by omega, drwK_end]
  · have hk' : k = 10 ∨ k = 11 ∨ k = 12 ∨ k = 13 ∨ k = 14 ∨ k = 15 ∨ k = 16 ∨ k = 17 ∨ k = 18 := by omega
    clear hk
    have pin : (k = 10 ∨ k = 11 → pinsN k = 4) ∧ (k = 12 ∨ k = 13 ∨ k = 14 → pinsN k = 6) ∧ (k = 15 ∨ k = 16 ∨ k = 17 ∨ k = 18 → pinsN k = 3) := by
      refine ⟨?_, ?_, ?_⟩
      · rintro (rfl | rfl) <;> rfl
      · rintro (rfl | rfl | rfl) <;> rfl
      · rintro (rfl | rfl | rfl | rfl) <;> rfl
    obtain ⟨p4, p6, p3⟩ := pin
    rcases hk' with h | h | h | h | h | h | h | h | h
    · obtain ⟨a, b, q, e, rfl⟩ := len4 (hc.trans (p4 (by omega)))
      have := timer4_run k a b q e (.inl h) (hI _ (by simp)) (hI _ (by simp))
      subst h
      simp at hcl hp1 hlen
      simp [stepB]
      have hz := step4_len 10 a b q e
      generalize step4 10 a b q e = z at *
      have hzt : (z.map jD).take z.length = z.map jD := List.take_of_length_le (by simp)
      rw [hz] at hzt
      try simp at this
      simp [Tryd.f39, hcl, hp1, hlen, this, hz, hzt, drwK_end]
    · obtain ⟨a, b, q, e, rfl⟩ := len4 (hc.trans (p4 (by omega)))
      have := timer4_run k a b q e (.inr h) (hI _ (by simp)) (hI _ (by simp))
      subst h
      simp at hcl hp1 hlen
      simp [stepB]
      have hz := step4_len 11 a b q e
      generalize step4 11 a b q e = z at *
      have hzt : (z.map jD).take z.length = z.map jD := List.take_of_length_le (by simp)
      rw [hz] at hzt
      try simp at this
      simp [Tryd.f39, hcl, hp1, hlen, this, hz, hzt, drwK_end]
    · obtain ⟨a, b, q, e, p, r, rfl⟩ := len6 (hc.trans (p6 (by omega)))
      have := timer6_run a b q e p r (hI _ (by simp)) (hI _ (by simp))
      subst h
      simp at hcl hp1 hlen
      simp [stepB]
      have hz := step6_len 12 a b q e p r
      generalize step6 12 a b q e p r = z at *
      have hzt : (z.map jD).take z.length = z.map jD := List.take_of_length_le (by simp)
      rw [hz] at hzt
      try simp at this
      simp [Tryd.f39, hcl, hp1, hlen, this, hz, hzt, drwK_end]
    · obtain ⟨a, b, q, e, p, r, rfl⟩ := len6 (hc.trans (p6 (by omega)))
      have := counter_run k a b q e p r (.inl h) (hI _ (by simp))
      subst h
      simp at hcl hp1 hlen
      simp [stepB]
      have hz := step6_len 13 a b q e p r
      generalize step6 13 a b q e p r = z at *
      have hzt : (z.map jD).take z.length = z.map jD := List.take_of_length_le (by simp)
      rw [hz] at hzt
      try simp at this
      simp [Tryd.f39, hcl, hp1, hlen, this, hz, hzt, drwK_end]
    · obtain ⟨a, b, q, e, p, r, rfl⟩ := len6 (hc.trans (p6 (by omega)))
      have := counter_run k a b q e p r (.inr h) (hI _ (by simp))
      subst h
      simp at hcl hp1 hlen
      simp [stepB]
      have hz := step6_len 14 a b q e p r
      generalize step6 14 a b q e p r = z at *
      have hzt : (z.map jD).take z.length = z.map jD := List.take_of_length_le (by simp)
      rw [hz] at hzt
      try simp at this
      simp [Tryd.f39, hcl, hp1, hlen, this, hz, hzt, drwK_end]
    · obtain ⟨a, b, q, rfl⟩ := len3 (hc.trans (p3 (by omega)))
      subst h
      simp at hcl hp1 hlen
      clear hI hc p3 p4 p6 hp2 hp3
      rcases Decidable.em (a = 0) with rfl | ha <;> rcases Decidable.em (q = 0) with rfl | hq <;> simp [Tryd.f39, stepB, step3, drwK_end, bne, *]
    · obtain ⟨a, b, q, rfl⟩ := len3 (hc.trans (p3 (by omega)))
      subst h
      simp at hcl hp1 hlen
      clear hI hc p3 p4 p6 hp2 hp3
      rcases Decidable.em (a = 0) with rfl | ha <;> rcases Decidable.em (q = 0) with rfl | hq <;> simp [Tryd.f39, stepB, step3, drwK_end, bne, *]
    · obtain ⟨a, b, q, rfl⟩ := len3 (hc.trans (p3 (by omega)))
      subst h
      simp at hcl hp1 hlen
      clear hI hc p3 p4 p6 hp2 hp3
      rcases Decidable.em (a = 0) with rfl | ha <;> rcases Decidable.em (q = 0) with rfl | hq <;> rcases Decidable.em (b = 0) with rfl | hb <;> simp [Tryd.f39, stepB, step3, drwK_end, bne, *]
    · obtain ⟨a, b, q, rfl⟩ := len3 (hc.trans (p3 (by omega)))
      subst h
      simp at hcl hp1 hlen
      clear hI hc p3 p4 p6 hp2 hp3
      rcases Decidable.em (a = 0) with rfl | ha <;> rcases Decidable.em (q = 0) with rfl | hq <;> rcases Decidable.em (b = 0) with rfl | hb <;> simp [Tryd.f39, stepB, step3, drwK_end, bne, *]
end Go.Am
end
section
namespace Go.Am
open Go Go.Proofs
set_option maxRecDepth 20000
theorem foldOp1_run (op a : Int) (t : Bool) (ha : I64 a) : callT ctx 54 [.d (.int .i64 op), .d (.list [.int .i64 a]), .d (.bool t)] [] = some (.ret (opZ (op1 op a t)), []) := by
  rw [run54 (by simp)]
  by_cases hb : t = true ∧ a ≠ 0 ∧ a ≠ 1
  · obtain ⟨rfl, h0, h1⟩ := hb
    simp [Tryd.f54]
    rw [denK_loop]
    simp [h0, h1, op1, noOp]
  · have h1 := ofOne_run op a t ha (by intro h; subst h; simp at hb; omega)
    have hg : (t && (a != 0)) = true → a = 1 := by simp; intro h1 h2; simp [h1] at hb; exact hb h2
    generalize op1 op a t = p at *
    simp at h1
    cases t
    · simp [Tryd.f54]
      rw [denK_loop]
      simp
      rw [denK_loop]
      simp [h1]
    · have hg' : a = 0 ∨ a = 1 := by simp at hg; omega
      rcases hg' with rfl | rfl
      · simp [Tryd.f54]
        rw [denK_loop]
        simp
        rw [denK_loop]
        simp [h1]
      · simp [Tryd.f54]
        rw [denK_loop]
        simp
        rw [denK_loop]
        simp [h1]
theorem foldOp2_run (op a b : Int) (t : Bool) (ha : I64 a) (hb : I64 b) : callT ctx 54 [.d (.int .i64 op), .d (.list [.int .i64 a, .int .i64 b]), .d (.bool t)] [] = some (.ret (opZ (op2 op a b t)), []) := by
  rw [run54 (by simp)]
  have cmp := fun h => compared_run op a b h
  have rck := fun h => reckoned_run op a b h ha hb
  have tru := fun h1 h2 => ofTruths_run op a b h1 h2
  unfold op2
  cases t
  · have hno : ¬ (8 ≤ op ∧ op ≤ 12) → ¬ (13 ≤ op ∧ op ≤ 18) → opN op a b = noOp := by
      intro h1 h2
      unfold opN
      simp only [show ¬ op = 8 by omega, show ¬ op = 9 by omega, show ¬ op = 10 by omega, show ¬ op = 11 by omega, show ¬ op = 12 by omega, show ¬ op = 13 by omega, show ¬ op = 14 by omega, show ¬ op = 15 by omega, show ¬ op = 16 by omega, show ¬ op = 17 by omega, show ¬ op = 18 by omega, if_false]
    generalize opN op a b = p at *
    simp [Tryd.f54]
    rw [denK_loop]
    simp
    rw [denK_loop]
    simp
    rw [denK_loop]
    simp
    by_cases h1 : 8 ≤ op ∧ op ≤ 12
    · have r := rck h1
      simp at r
      simp [h1.1, h1.2, r, drwK_end]
    · by_cases h2 : 13 ≤ op ∧ op ≤ 18
      · have r := cmp h2
        have h3 : ¬ op ≤ 12 := by omega
        have h4 : 8 ≤ op := by omega
        simp at r
        simp [h2.1, h2.2, h3, h4, r, drwK_end]
      · have hp := hno h1 h2
        subst hp
        by_cases h5 : 8 ≤ op
        · have h6 : ¬ op ≤ 12 := by omega
          have h7 : 13 ≤ op := by omega
          have h8 : ¬ op ≤ 18 := by omega
          simp [h5, h6, h7, h8, noOp]
        · have h7 : ¬ 13 ≤ op := by omega
          simp [h5, h7, noOp]
  · by_cases h1 : a = 0 ∨ a = 1
    · by_cases h2 : b = 0 ∨ b = 1
      · have r := tru h1 h2
        generalize opT op a b = p at *
        rcases h1 with rfl | rfl <;> rcases h2 with rfl | rfl <;>
          (simp at r
           simp [Tryd.f54]
           rw [denK_loop]
           simp
           rw [denK_loop]
           simp
           rw [denK_loop]
           simp [r, drwK_end])
      · have h3 : ¬ b = 0 := by omega
        have h4 : ¬ b = 1 := by omega
        rcases h1 with rfl | rfl <;>
          (simp [Tryd.f54]
           rw [denK_loop]
           simp
           rw [denK_loop]
           simp [h3, h4, noOp])
    · have h3 : ¬ a = 0 := by omega
      have h4 : ¬ a = 1 := by omega
      simp [Tryd.f54]
      rw [denK_loop]
      simp [h3, h4, noOp]
end Go.Am
end
section
namespace Go.Am

def moveI (n : Int) (x : Ins) : Ins := if x.op = 9 ∨ x.op = 10 then { x with a := x.a + n } else x
theorem moveI_op (n : Int) (x : Ins) : (moveI n x).op = x.op := by unfold moveI; split <;> rfl
theorem moveI_n (n : Int) (x : Ins) : (moveI n x).n = x.n := by unfold moveI; split <;> rfl
theorem moveI_b (n : Int) (x : Ins) : (moveI n x).b = x.b := by unfold moveI; split <;> rfl
theorem moveI_else {n : Int} {x : Ins} (h : ¬ (x.op = 9 ∨ x.op = 10)) : moveI n x = x := by unfold moveI; rw [if_neg h]
theorem cell_mono {c c' a n : Int} (h : c ≤ c') (hc : cellB c a n = true) : cellB c' a n = true := by
  unfold cellB at *
  simp only [Bool.and_eq_true, decide_eq_true_eq] at *
  omega
theorem arr_mono {c c' : Int} {x : Ins} (h : c ≤ c') (hc : arrB c x = true) : arrB c' x = true := by
  unfold arrB at *
  simp only [Bool.and_eq_true] at *
  exact ⟨hc.1, cell_mono h hc.2⟩
theorem form_mono {pins : Int → Nat} {c c' last last' at_ at' : Int} {x : Ins} (h : c ≤ c') (hl : last ≤ last') (h15 : x.op = 15 → at' = last') (hf : formB pins c last at_ x = true) : formB pins c' last' at' x = true := by
  unfold formB at *
  by_cases e1 : x.op = 1 ∨ x.op = 11
  · rw [if_pos e1]
  rw [if_neg e1] at hf ⊢
  by_cases e2 : x.op = 2 ∨ x.op = 3 ∨ x.op = 6 ∨ x.op = 14
  · rw [if_pos e2] at hf ⊢; exact cell_mono h hf
  rw [if_neg e2] at hf ⊢
  by_cases e3 : x.op = 13
  · rw [if_pos e3] at hf ⊢
    simp only [Bool.and_eq_true] at *
    exact ⟨cell_mono h hf.1, cell_mono h hf.2⟩
  rw [if_neg e3] at hf ⊢
  by_cases e4 : x.op = 4 ∨ x.op = 5 ∨ x.op = 7
  · rw [if_pos e4] at hf ⊢; exact arr_mono h hf
  rw [if_neg e4] at hf ⊢
  by_cases e5 : x.op = 8
  · rw [if_pos e5] at hf ⊢; exact hf
  rw [if_neg e5] at hf ⊢
  by_cases e6 : x.op = 9 ∨ x.op = 10
  · rw [if_pos e6] at hf ⊢
    simp only [Bool.and_eq_true, decide_eq_true_eq] at *
    omega
  rw [if_neg e6] at hf ⊢
  by_cases e7 : x.op = 12
  · rw [if_pos e7] at hf ⊢
    simp only [Bool.and_eq_true] at *
    exact ⟨hf.1, cell_mono h hf.2⟩
  rw [if_neg e7] at hf ⊢
  by_cases e8 : x.op = 15
  · rw [if_pos e8]; simpa using h15 e8
  · rw [if_neg e8] at hf; cases hf
theorem form_move {pins : Int → Nat} {c last at_ n : Int} {x : Ins} (hn : 0 ≤ n) (hf : formB pins c last at_ x = true) : formB pins c (last + n) (at_ + n) (moveI n x) = true := by
  by_cases e6 : x.op = 9 ∨ x.op = 10
  · unfold formB at *
    rw [moveI_op]
    rcases e6 with e | e
    · simp [e] at hf ⊢
      simp [moveI, e]; omega
    · simp [e] at hf ⊢
      simp [moveI, e]; omega
  · rw [moveI_else e6]
    exact form_mono (Int.le_refl _) (by omega) (fun h15 => by
      unfold formB at hf
      simp [h15] at hf
      omega) hf
theorem forms_iff {pins : Int → Nat} {cells last : Int} : ∀ {ins : List Ins} {i0 : Nat}, formsB pins cells last i0 ins = true ↔ ∀ i x, ins[i]? = some x → formB pins cells last ((i0 + i : Nat) : Int) x = true
  | [], i0 => by simp [formsB]
  | y :: r, i0 => by
    constructor
    · intro h i x hx; exact forms_get h i x hx
    · intro h
      simp only [formsB, Bool.and_eq_true]
      refine ⟨by simpa using h 0 y rfl, forms_iff.2 (fun i x hx => ?_)⟩
      have := h (i + 1) x (by simpa using hx)
      rw [show i0 + 1 + i = i0 + (i + 1) by omega]
      exact this

/- The stack, run through. -/
def runS (led : List Bool) : Nat → List Ins → List Bool → Option (List Bool)
  | _, [], S => some S
  | i, x :: r, S => if led.getD i false && !S.isEmpty then none else (movesS x S).bind (runS led (i + 1) r)
theorem stack_run (led : List Bool) : ∀ (l : List Ins) (i : Nat) (S : List Bool), stackS led i l S = (runS led i l S).isSome
  | [], i, S => rfl
  | x :: r, i, S => by
    unfold stackS runS
    split
    · rfl
    · cases movesS x S with
      | none => rfl
      | some S' => exact stack_run led r (i + 1) S'
theorem run_append (led : List Bool) : ∀ (l1 l2 : List Ins) (i : Nat) (S : List Bool), runS led i (l1 ++ l2) S = (runS led i l1 S).bind (runS led (i + l1.length) l2)
  | [], l2, i, S => rfl
  | x :: r, l2, i, S => by
    simp only [List.cons_append, runS, List.length_cons]
    split
    · rfl
    · cases movesS x S with
      | none => rfl
      | some S' =>
        simp only [Option.bind_some]
        rw [run_append led r l2 (i + 1) S', show i + 1 + r.length = i + (r.length + 1) by omega]
theorem run_congr {led led' : List Bool} : ∀ (l : List Ins) (i : Nat) (S : List Bool), (∀ j, i ≤ j → j < i + l.length → led.getD j false = led'.getD j false) → runS led i l S = runS led' i l S
  | [], i, S, _ => rfl
  | x :: r, i, S, h => by
    simp only [runS]
    rw [h i (Nat.le_refl _) (by simp)]
    split
    · rfl
    · cases movesS x S with
      | none => rfl
      | some S' =>
        simp only [Option.bind_some]
        exact run_congr r (i + 1) S' (fun j h1 h2 => h j (by omega) (by simp; omega))
theorem moves_move (n : Int) (x : Ins) (S : List Bool) : movesS (moveI n x) S = movesS x S := by
  by_cases e : x.op = 9 ∨ x.op = 10
  · unfold movesS
    rw [moveI_op]
    rcases e with e | e <;> simp [e]
  · rw [moveI_else e]
theorem run_move {led led' : List Bool} (n : Int) (k : Nat) : ∀ (l : List Ins) (i : Nat) (S : List Bool), (∀ j, i ≤ j → 1 ≤ j → led'.getD (k + j) false = led.getD j false) → (i = 0 → S = []) →
    runS led' (k + i) (l.map (moveI n)) S = runS led i l S
  | [], i, S, _, _ => rfl
  | x :: r, i, S, h, h0 => by
    simp only [List.map_cons, runS, moves_move]
    have e : (led'.getD (k + i) false && !S.isEmpty) = (led.getD i false && !S.isEmpty) := by
      cases i with
      | zero => rw [h0 rfl]; simp
      | succ i => rw [h (i + 1) (Nat.le_refl _) (by omega)]
    rw [e]
    split
    · rfl
    · cases movesS x S with
      | none => rfl
      | some S' =>
        simp only [Option.bind_some]
        exact run_move n k r (i + 1) S' (fun j h1 h2 => h j (by omega) h2) (fun h => by omega)
def jumpTo (i : Nat) (x : Ins) : Bool := decide (x.op = 9 ∨ x.op = 10) && decide (x.a.toNat = i)
theorem led_get (i : Nat) : ∀ (l : List Ins) (T : List Bool), i < T.length →
    (l.foldl (fun l x => if x.op = 9 ∨ x.op = 10 then l.set x.a.toNat true else l) T).getD i false = (T.getD i false || l.any (jumpTo i))
  | [], T, h => by simp
  | x :: r, T, h => by
    simp only [List.foldl_cons, List.any_cons]
    by_cases e : x.op = 9 ∨ x.op = 10
    · rw [if_pos e, led_get i r _ (by simpa using h)]
      have : (T.set x.a.toNat true).getD i false = (T.getD i false || jumpTo i x) := by
        simp only [List.getD_eq_getElem?_getD, List.getElem?_set, jumpTo, e, decide_true, Bool.true_and]
        by_cases h2 : x.a.toNat = i
        · subst h2; simp [h]
        · simp [h2]
      rw [this, Bool.or_assoc]
    · rw [if_neg e, led_get i r _ h]
      simp [jumpTo, e]
theorem ledOf_get {ins : List Ins} {i : Nat} (h : i < ins.length) : (ledOf ins).getD i false = ins.any (jumpTo i) := by
  unfold ledOf
  rw [led_get i ins _ (by simpa using h)]
  simp [List.getD_eq_getElem?_getD, h]
theorem ledOf_out {ins : List Ins} {i : Nat} (h : ins.length ≤ i) : (ledOf ins).getD i false = false := by
  have hl : ∀ (l : List Ins) (T : List Bool), (l.foldl (fun l x => if x.op = 9 ∨ x.op = 10 then l.set x.a.toNat true else l) T).length = T.length := by
    intro l
    induction l with
    | nil => intro T; rfl
    | cons x r ih => intro T; simp only [List.foldl_cons]; rw [ih]; split <;> simp
  have : (ledOf ins).length = ins.length := by unfold ledOf; rw [hl]; simp
  simp [List.getD_eq_getElem?_getD, List.getElem?_eq_none (by omega : (ledOf ins).length ≤ i)]
end Go.Am
end
section
namespace Go.Am
/- Ranks. -/
def Bd (succ : Nat → List Nat) : Nat → Nat → Prop
  | 0, i => succ i = []
  | h + 1, i => ∀ j ∈ succ i, Bd succ h j
theorem Bd.succ {succ : Nat → List Nat} : ∀ {h i : Nat}, Bd succ h i → Bd succ (h + 1) i
  | 0, i, hb => fun j hj => by rw [show succ i = [] from hb] at hj; simp at hj
  | h + 1, i, hb => fun j hj => (hb j hj).succ
theorem Bd.le {succ : Nat → List Nat} {h h' i : Nat} (hb : Bd succ h i) (hl : h ≤ h') : Bd succ h' i := by
  induction hl with
  | refl => exact hb
  | step _ ih => exact ih.succ
theorem bd_list {succ : Nat → List Nat} : ∀ (l : List Nat), (∀ j ∈ l, ∃ h, Bd succ h j) → ∃ h, ∀ j ∈ l, Bd succ h j
  | [], _ => ⟨0, fun j h => by simp at h⟩
  | x :: r, h => by
    obtain ⟨h1, k1⟩ := h x (by simp)
    obtain ⟨h2, k2⟩ := bd_list r (fun j hj => h j (by simp [hj]))
    refine ⟨max h1 h2, fun j hj => ?_⟩
    rcases List.mem_cons.1 hj with rfl | hj
    · exact k1.le (by omega)
    · exact (k2 j hj).le (by omega)
theorem ends_bd {succ : Nat → List Nat} {i : Nat} (h : Ends succ i) : ∃ h, Bd succ h i := by
  induction h with
  | mk i _ ih =>
    obtain ⟨h, hb⟩ := bd_list (succ i) ih
    exact ⟨h + 1, hb⟩
theorem least {P : Nat → Prop} (h : ∃ n, P n) : ∃ n, P n ∧ ∀ m, m < n → ¬ P m := by
  obtain ⟨n, hn⟩ := h
  induction n using Nat.strongRecOn with
  | ind n ih =>
    by_cases hm : ∃ m, m < n ∧ P m
    · obtain ⟨m, h1, h2⟩ := hm
      exact ih m h1 h2
    · exact ⟨n, hn, fun m h1 h2 => hm ⟨m, h1, h2⟩⟩
theorem ranked {succ : Nat → List Nat} : ∃ r : Nat → Nat, ∀ i, Ends succ i → ∀ j ∈ succ i, r j < r i := by
  classical
  let r : Nat → Nat := fun i => if h : ∃ n, Bd succ n i then Classical.choose (least h) else 0
  refine ⟨r, fun i hi j hj => ?_⟩
  have hi2 := ends_bd hi
  have hj2 : ∃ n, Bd succ n j := ends_bd (by cases hi with | mk _ h => exact h j hj)
  have hir : r i = Classical.choose (least hi2) := dif_pos hi2
  have hjr : r j = Classical.choose (least hj2) := dif_pos hj2
  obtain ⟨a1, a2⟩ := Classical.choose_spec (least hi2)
  obtain ⟨b1, b2⟩ := Classical.choose_spec (least hj2)
  rw [← hir] at a1 a2
  rw [← hjr] at b1 b2
  cases hri : r i with
  | zero =>
    rw [hri] at a1
    rw [show succ i = [] from a1] at hj
    simp at hj
  | succ n =>
    rw [hri] at a1
    have h3 : Bd succ n j := a1 j hj
    exact Classical.byContradiction fun hn => b2 n (by omega) h3
theorem ends_of_rank {succ : Nat → List Nat} {N : Nat} {r : Nat → Nat} (h : ∀ i < N, ∀ j ∈ succ i, j < N ∧ r j < r i) : ∀ i < N, Ends succ i := by
  have key : ∀ (m i : Nat), r i < m → i < N → Ends succ i := by
    intro m
    induction m with
    | zero => intro i hi; omega
    | succ m ih =>
      intro i hi hN
      exact .mk i (fun j hj => ih j (by have := (h i hN j hj).2; omega) (h i hN j hj).1)
  exact fun i hi => key _ i (Nat.lt_succ_self _) hi

def isJ (x : Ins) : Prop := x.op = 9 ∨ x.op = 10
instance (x : Ins) : Decidable (isJ x) := inferInstanceAs (Decidable (_ ∨ _))
/-- Code that can be run: ranks of its instructions, the stack ahead of each. -/
structure Good (pins : Int → Nat) (cells : Int) (l : List Ins) (r : Nat → Nat) (st : Nat → List Bool) : Prop where
  len : 1 ≤ l.length ∧ l.length ≤ 4096
  last : ∀ x, l[l.length - 1]? = some x → x.op = 15
  form : ∀ (i : Nat) x, l[i]? = some x → formB pins cells ((l.length : Int) - 1) i x = true
  st0 : st 0 = []
  mv : ∀ (i : Nat) x, l[i]? = some x → movesS x (st i) = some (st (i + 1))
  led : ∀ (i : Nat) x, l[i]? = some x → isJ x → st x.a.toNat = []
  rank : ∀ (i : Nat) x, l[i]? = some x → x.op ≠ 11 → ∀ j ∈ nextI l i, r j < r i
theorem Good.tgt {pins cells l r st} (h : Good pins cells l r st) {i : Nat} {x : Ins} (hx : l[i]? = some x) (hj : isJ x) : 0 ≤ x.a ∧ x.a.toNat < l.length := by
  have := h.form i x hx
  unfold formB at this
  have h1 := h.len.1
  rcases hj with e | e
  · simp [e] at this; omega
  · simp [e] at this; omega
theorem Good.fifteen {pins cells l r st} (h : Good pins cells l r st) {i : Nat} {x : Ins} (hx : l[i]? = some x) : x.op = 15 ↔ i + 1 = l.length := by
  constructor
  · intro e
    have := h.form i x hx
    unfold formB at this
    simp [e] at this
    have := h.len.1
    omega
  · intro e
    exact h.last x (by rw [show l.length - 1 = i by omega]; exact hx)
theorem stack_st (led : List Bool) : ∀ (l : List Ins) (i : Nat) (S : List Bool), stackS led i l S = true → ∃ st : Nat → List Bool, st i = S ∧ ∀ k x, l[k]? = some x → (led.getD (i + k) false = true → st (i + k) = []) ∧ movesS x (st (i + k)) = some (st (i + k + 1))
  | [], i, S, _ => ⟨fun _ => S, rfl, fun k x h => by simp at h⟩
  | x :: r, i, S, h => by
    unfold stackS at h
    split at h
    · cases h
    · rename_i hl
      cases hm : movesS x S with
      | none => rw [hm] at h; cases h
      | some S' =>
        rw [hm] at h
        obtain ⟨st, h1, h2⟩ := stack_st led r (i + 1) S' h
        refine ⟨fun k => if k = i then S else st k, by simp, fun k y hy => ?_⟩
        cases k with
        | zero =>
          simp at hy
          subst hy
          simp only [Nat.add_zero, if_true]
          refine ⟨fun hled => ?_, by rw [if_neg (by omega), h1]; exact hm⟩
          rw [hled] at hl
          simpa using hl
        | succ k =>
          have := h2 k y (by simpa using hy)
          simp only [show ¬ (i + (k + 1) = i) by omega, show ¬ (i + (k + 1) + 1 = i) by omega, if_false]
          rw [show i + 1 + k = i + (k + 1) by omega] at this
          exact this
theorem st_stack (led : List Bool) (st : Nat → List Bool) : ∀ (l : List Ins) (i : Nat), (∀ k x, l[k]? = some x → (led.getD (i + k) false = true → st (i + k) = []) ∧ movesS x (st (i + k)) = some (st (i + k + 1))) → stackS led i l (st i) = true
  | [], i, _ => rfl
  | x :: r, i, h => by
    have h0 := h 0 x rfl
    simp only [Nat.add_zero] at h0
    unfold stackS
    rw [if_neg, h0.2]
    · exact st_stack led st r (i + 1) (fun k y hy => by
        have := h (k + 1) y (by simpa using hy)
        rw [show i + (k + 1) = i + 1 + k by omega] at this
        exact this)
    · intro hc
      simp only [Bool.and_eq_true, Bool.not_eq_true', List.isEmpty_eq_false_iff] at hc
      exact hc.2 (h0.1 hc.1)
theorem good_of {pins : Int → Nat} {l : List Ins} {vars cells : Int} (h : okCode pins l vars cells = true) : (0 ≤ cells ∧ cells ≤ 8192 ∧ 0 ≤ vars ∧ vars ≤ cells) ∧ ∃ r st, Good pins cells l r st := by
  simp only [okCode, Bool.and_eq_true] at h
  obtain ⟨⟨h1, h2⟩, h3⟩ := h
  have h1' := h1
  simp only [okForms, headB, Bool.and_eq_true, decide_eq_true_eq] at h1
  obtain ⟨⟨⟨⟨⟨⟨⟨a1, a2⟩, a3⟩, a4⟩, a5⟩, a6⟩, a7⟩, a8⟩ := h1
  refine ⟨⟨a3, a4, a5, a6⟩, ?_⟩
  obtain ⟨r, hr⟩ := ranked (succ := succI l)
  obtain ⟨st, s0, hs⟩ := stack_st _ _ _ _ h2
  have hends : ∀ i < l.length, Ends (succI l) i := by
    intro i hi
    exact Classical.byContradiction fun hn => by
      have := (round_iff h1').2 ⟨i, hi, hn⟩
      rw [this] at h3
      cases h3
  refine ⟨r, st, ⟨by omega, by omega⟩, fun x hx => ?_, fun i x hx => ?_, s0, fun i x hx => ?_, fun i x hx hj => ?_, fun i x hx hne j hj => ?_⟩
  · unfold lastOp at a7
    rw [List.getLast?_eq_getElem?, hx] at a7
    simpa using a7
  · have := forms_get a8 i x hx
    simpa using this
  · have := (hs i x hx).2
    simpa using this
  · have hf := forms_get a8 i x hx
    have hi := (List.getElem?_eq_some_iff.1 hx).1
    have hlt : x.a.toNat < l.length := by
      unfold formB at hf
      rcases hj with e | e
      · simp [e] at hf; omega
      · simp [e] at hf; omega
    have hled := ledOf_get hlt
    have : l.any (jumpTo x.a.toNat) = true := by
      rw [List.any_eq_true]
      refine ⟨x, List.mem_of_getElem? hx, ?_⟩
      unfold jumpTo
      have : (x.op = 9 ∨ x.op = 10) := hj
      simp [this]
    rw [this] at hled
    obtain ⟨y, hy⟩ : ∃ y, l[x.a.toNat]? = some y := ⟨_, List.getElem?_eq_getElem hlt⟩
    have := (hs _ y hy).1
    simp only [Nat.zero_add] at this
    exact this hled
  · have hi := (List.getElem?_eq_some_iff.1 hx).1
    refine hr i (hends i hi) j ?_
    unfold succI
    rw [if_neg]
    · exact hj
    · unfold tickAt
      rw [hx]
      simpa using hne
theorem nextI_in {pins cells l r st} (h : Good pins cells l r st) {i j : Nat} (hi : i < l.length) (hj : j ∈ nextI l i) : j < l.length := by
  have hx : l[i]? = some l[i] := by simp [hi]
  unfold nextI at hj
  rw [hx] at hj
  simp only at hj
  have h15 := h.fifteen hx
  by_cases e9 : l[i].op = 9
  · have := h.tgt hx (.inl e9)
    simp [e9] at hj
    omega
  · by_cases e10 : l[i].op = 10
    · have := h.tgt hx (.inr e10)
      simp [e10] at hj
      omega
    · by_cases e15 : l[i].op = 15
      · simp [e15] at hj
      · simp [e9, e10, e15] at hj
        have : ¬ (i + 1 = l.length) := fun h => e15 (h15.2 h)
        omega
theorem ok_of {pins : Int → Nat} {l : List Ins} {vars cells : Int} {r : Nat → Nat} {st : Nat → List Bool} (hv : 0 ≤ cells ∧ cells ≤ 8192 ∧ 0 ≤ vars ∧ vars ≤ cells) (h : Good pins cells l r st) : okCode pins l vars cells = true := by
  have hf : okForms pins l vars cells = true := by
    simp only [okForms, headB, Bool.and_eq_true, decide_eq_true_eq]
    have h1 := h.len
    refine ⟨⟨⟨⟨⟨⟨⟨by omega, by omega⟩, by omega⟩, by omega⟩, by omega⟩, by omega⟩, ?_⟩, forms_iff.2 (fun i x hx => by simpa using h.form i x hx)⟩
    unfold lastOp
    rw [List.getLast?_eq_getElem?, List.getElem?_eq_getElem (by omega)]
    have := h.last l[l.length - 1] (by rw [List.getElem?_eq_getElem (by omega)])
    simpa using this
  have hs : stackS (ledOf l) 0 l [] = true := by
    have := st_stack (ledOf l) st l 0 (fun k x hx => by
      refine ⟨fun hled => ?_, by simpa using h.mv k x hx⟩
      simp only [Nat.zero_add] at hled ⊢
      have hk := (List.getElem?_eq_some_iff.1 hx).1
      rw [ledOf_get hk, List.any_eq_true] at hled
      obtain ⟨y, hy, hyj⟩ := hled
      unfold jumpTo at hyj
      simp only [Bool.and_eq_true, decide_eq_true_eq] at hyj
      obtain ⟨i, hi, rfl⟩ := List.getElem_of_mem hy
      have := h.led i l[i] (by simp [hi]) hyj.1
      rw [hyj.2] at this
      exact this)
    rw [h.st0] at this
    exact this
  have hr : rounds (succP l) (l.length + 1) (List.range l.length) (List.replicate l.length 0) = false := by
    cases hq : rounds (succP l) (l.length + 1) (List.range l.length) (List.replicate l.length 0) with
    | false => rfl
    | true =>
      obtain ⟨i, hi, hn⟩ := (round_iff hf).1 hq
      refine absurd (ends_of_rank (N := l.length) (r := r) (fun i hi j hj => ?_) i hi) hn
      unfold succI at hj
      split at hj
      · simp at hj
      · rename_i ht
        refine ⟨nextI_in h hi hj, h.rank i l[i] (by simp [hi]) (fun e => ht ?_) j hj⟩
        unfold tickAt
        rw [List.getElem?_eq_getElem hi]
        simpa using e
  unfold okCode
  rw [hf, hs, hr]
  rfl
end Go.Am
end
section
namespace Go.Am
open Go Go.Proofs
set_option maxRecDepth 20000
@[simp] def iA (n : Int) : AV := .d (.int .i64 n)
/-- The program's machine: its code, its cells, what is on the stack (and behind it), how high that is, the place, the fuel, the fault. -/
def mB (I : AV) (vr cl : Int) (cv : AV) (S G : List Int) (h a f x : Int) : List AV :=
  I :: .d (.int .i64 vr) :: .d (.int .i64 cl) :: cv :: ((S ++ G).map iA ++ [.d (.int .i64 h), .d (.int .i64 a), .d (.int .i64 f), .d (.int .i64 x)])
section
variable {I : AV} {vr cl : Int} {cv : AV} {S G : List Int} {h a f x : Int}
theorem mB_len (hs : S.length + G.length = 64) : (mB I vr cl cv S G h a f x).length = 72 := by simp [mB]; omega
theorem mB_0 : (mB I vr cl cv S G h a f x)[0]? = some I := rfl
theorem mB_1 : (mB I vr cl cv S G h a f x)[1]? = some (.d (.int .i64 vr)) := rfl
theorem mB_2 : (mB I vr cl cv S G h a f x)[2]? = some (.d (.int .i64 cl)) := rfl
theorem mB_3 : (mB I vr cl cv S G h a f x)[3]? = some cv := rfl
theorem mB_get (hs : S.length + G.length = 64) (k : Nat) (hk : 68 ≤ k) : (mB I vr cl cv S G h a f x)[k]? = [AV.d (.int .i64 h), .d (.int .i64 a), .d (.int .i64 f), .d (.int .i64 x)][k - 68]? := by
  obtain ⟨j, rfl⟩ : ∃ j, k = 68 + j := ⟨k - 68, by omega⟩
  have e : 68 + j = (64 + j) + 1 + 1 + 1 + 1 := by omega
  rw [mB, e]
  simp only [List.getElem?_cons_succ]
  rw [List.getElem?_append_right (by simp; omega)]
  congr 1
  simp; omega
theorem mB_68 (hs : S.length + G.length = 64) : (mB I vr cl cv S G h a f x)[68]? = some (.d (.int .i64 h)) := by rw [mB_get hs 68 (by omega)]; rfl
theorem mB_69 (hs : S.length + G.length = 64) : (mB I vr cl cv S G h a f x)[69]? = some (.d (.int .i64 a)) := by rw [mB_get hs 69 (by omega)]; rfl
theorem mB_70 (hs : S.length + G.length = 64) : (mB I vr cl cv S G h a f x)[70]? = some (.d (.int .i64 f)) := by rw [mB_get hs 70 (by omega)]; rfl
theorem mB_71 (hs : S.length + G.length = 64) : (mB I vr cl cv S G h a f x)[71]? = some (.d (.int .i64 x)) := by rw [mB_get hs 71 (by omega)]; rfl
theorem mB_stk (k : Nat) (hk : k < (S ++ G).length) : (mB I vr cl cv S G h a f x)[4 + k]? = some (.d (.int .i64 (S ++ G)[k])) := by
  rw [mB, show 4 + k = k + 1 + 1 + 1 + 1 by omega]
  simp only [List.getElem?_cons_succ]
  rw [List.getElem?_append_left (by simpa using hk), List.getElem?_map, List.getElem?_eq_getElem hk]
  rfl
theorem gE {l : List AV} {k : Nat} {y : AV} (h : l[k]? = some y) (hk : k < l.length) : l[k] = y := by
  rw [List.getElem?_eq_getElem hk] at h
  exact Option.some.inj h
theorem mB_g0 (hk) : (mB I vr cl cv S G h a f x)[0]'hk = I := rfl
theorem mB_g1 (hk) : (mB I vr cl cv S G h a f x)[1]'hk = .d (.int .i64 vr) := rfl
theorem mB_g2 (hk) : (mB I vr cl cv S G h a f x)[2]'hk = .d (.int .i64 cl) := rfl
theorem mB_g3 (hk) : (mB I vr cl cv S G h a f x)[3]'hk = cv := rfl
theorem mB_g68 (hs : S.length + G.length = 64) (hk) : (mB I vr cl cv S G h a f x)[68]'hk = .d (.int .i64 h) := gE (mB_68 hs) hk
theorem mB_g69 (hs : S.length + G.length = 64) (hk) : (mB I vr cl cv S G h a f x)[69]'hk = .d (.int .i64 a) := gE (mB_69 hs) hk
theorem mB_g70 (hs : S.length + G.length = 64) (hk) : (mB I vr cl cv S G h a f x)[70]'hk = .d (.int .i64 f) := gE (mB_70 hs) hk
theorem mB_g71 (hs : S.length + G.length = 64) (hk) : (mB I vr cl cv S G h a f x)[71]'hk = .d (.int .i64 x) := gE (mB_71 hs) hk
theorem mB_set3 (y : AV) : (mB I vr cl cv S G h a f x).set 3 y = mB I vr cl y S G h a f x := rfl
theorem mB_setK (hs : S.length + G.length = 64) (k : Nat) (y : AV) : (mB I vr cl cv S G h a f x).set (68 + k) y = I :: .d (.int .i64 vr) :: .d (.int .i64 cl) :: cv :: ((S ++ G).map iA ++ [AV.d (.int .i64 h), .d (.int .i64 a), .d (.int .i64 f), .d (.int .i64 x)].set k y) := by
  rw [mB, show 68 + k = (64 + k) + 1 + 1 + 1 + 1 by omega]
  simp only [List.set_cons_succ]
  rw [List.set_append_right _ _ (by simp; omega)]
  congr 6
  simp; omega
theorem mB_set68 (hs : S.length + G.length = 64) (n : Int) : (mB I vr cl cv S G h a f x).set 68 (.d (.int .i64 n)) = mB I vr cl cv S G n a f x := mB_setK hs 0 _
theorem mB_set69 (hs : S.length + G.length = 64) (n : Int) : (mB I vr cl cv S G h a f x).set 69 (.d (.int .i64 n)) = mB I vr cl cv S G h n f x := mB_setK hs 1 _
theorem mB_set70 (hs : S.length + G.length = 64) (n : Int) : (mB I vr cl cv S G h a f x).set 70 (.d (.int .i64 n)) = mB I vr cl cv S G h a n x := mB_setK hs 2 _
theorem mB_set71 (hs : S.length + G.length = 64) (n : Int) : (mB I vr cl cv S G h a f x).set 71 (.d (.int .i64 n)) = mB I vr cl cv S G h a f n := mB_setK hs 3 _
theorem mB_push (g n : Int) : (mB I vr cl cv S (g :: G) h a f x).set (4 + S.length) (.d (.int .i64 n)) = mB I vr cl cv (S ++ [n]) G h a f x := by
  rw [mB, show 4 + S.length = S.length + 1 + 1 + 1 + 1 by omega]
  simp only [List.set_cons_succ]
  rw [List.set_append_left _ _ (by simp)]
  simp [mB]
theorem mB_top (n : Int) : (mB I vr cl cv (S ++ [n]) G h a f x)[4 + S.length]? = some (.d (.int .i64 n)) := by
  rw [mB_stk _ (by simp)]
  simp
theorem mB_gtop (n : Int) (hk) : (mB I vr cl cv (S ++ [n]) G h a f x)[4 + S.length]'hk = .d (.int .i64 n) := gE (mB_top n) hk
theorem mB_gtop2 (n : Int) (hk) : (mB I vr cl cv S (n :: G) h a f x)[4 + S.length]'hk = .d (.int .i64 n) := gE (by rw [mB_stk _ (by simp)]; simp) hk
theorem mB_pop (n : Int) : mB I vr cl cv (S ++ [n]) G h a f x = mB I vr cl cv S (n :: G) h a f x := by simp [mB]
theorem avsKeys_map (L : List Int) (r : List AV) : avsKeys (L.map iA ++ r) = avsKeys r := by
  induction L with
  | nil => rfl
  | cons x t ih => simpa [avsKeys, avKeys, iA] using ih
theorem mB_keys (i : D) : avsKeys (mB (.d i) vr cl cv S G h a f x) = avKeys cv := by
  simp only [mB, avsKeys, avKeys, avsKeys_map, List.nil_append]
  simp
theorem vws_map (m : Mem) (ρ : List Nat) (bor : Nat → Bool) (nv : Nat → Nat → Nat) (L : List Int) (r : List AV) : vws m ρ bor nv (L.map iA ++ r) = L.map iA ++ vws m ρ bor nv r := by
  induction L with
  | nil => rfl
  | cons x t ih => simpa [vws, vw, iA] using ih
theorem mB_vws (m : Mem) (ρ : List Nat) (bor : Nat → Bool) (nv : Nat → Nat → Nat) (i : D) : vws m ρ bor nv (mB (.d i) vr cl cv S G h a f x) = mB (.d i) vr cl (vw m ρ bor nv cv) S G h a f x := by
  simp only [mB, vws, vw, vws_map]
theorem ups_map (ρ bs : List Nat) (L : List Int) (r : List AV) : ups ρ bs (L.map iA ++ r) = L.map iA ++ ups ρ bs r := by
  induction L with
  | nil => rfl
  | cons x t ih => simpa [ups, up, iA] using ih
theorem mB_ups (ρ bs : List Nat) (i : D) : ups ρ bs (mB (.d i) vr cl cv S G h a f x) = mB (.d i) vr cl (up ρ bs cv) S G h a f x := by
  simp only [mB, ups, up, ups_map]
end
theorem push_run (i : D) (vr cl : Int) (C S G : List Int) (g a f x n : Int) (hs : S.length + (G.length + 1) = 64) :
    callT ctx 33 [.ptr 0 0 0, .d (.int .i64 n)] [.box (mB (.d i) vr cl (.vec 1 0 0 C.length) S (g :: G) S.length a f x), .vec 1 (C.map jD)] =
      some (.ret (.tup []), [(0, .box (mB (.d i) vr cl (.vec 1 0 0 C.length) (S ++ [n]) G ((S ++ [n]).length : Nat) a f x)), (0, .vec 1 (C.map jD))]) := by
  have h1 : S.length + (g :: G).length = 64 := by simpa using hs
  have h2 : (S ++ [n]).length + G.length = 64 := by simp; omega
  have hl : S.length < 64 := by omega
  have h5 : 4 + S.length ≤ 71 := by omega
  have w1 : IntKind.i64.wrap ((S.length : Int) + 1) = (S.length : Int) + 1 := wrap_id (by unfold I64; omega)
  rw [run33 (by simp)]
  simp [Tryd.f33, drwK_end, mB_len h1, mB_g68 h1, mB_push, mB_len h2, mB_g68 h2, mB_set68 h2, mB_keys, mB_vws, mB_ups, hl, h5, w1]
theorem pop_run (i : D) (vr cl : Int) (C S G : List Int) (a f x n : Int) (hs : S.length + (G.length + 1) = 64) :
    callT ctx 36 [.ptr 0 0 0] [.box (mB (.d i) vr cl (.vec 1 0 0 C.length) (S ++ [n]) G ((S ++ [n]).length : Nat) a f x), .vec 1 (C.map jD)] =
      some (.ret (.d (.int .i64 n)), [(0, .box (mB (.d i) vr cl (.vec 1 0 0 C.length) S (n :: G) S.length a f x)), (0, .vec 1 (C.map jD))]) := by
  have h1 : S.length + (n :: G).length = 64 := by simpa using hs
  have hl : S.length < 64 := by omega
  have h5 : 4 + S.length < 72 := by omega
  have w1 : IntKind.i64.wrap (S.length : Int) = (S.length : Int) := wrap_id (by unfold I64; omega)
  rw [run36 (by simp), mB_pop]
  simp [Tryd.f36, drwK_end, mB_len h1, mB_g68 h1, mB_set68 h1, mB_gtop2, mB_keys, mB_vws, mB_ups, hl, h5, w1]
theorem truth_run (b : Bool) : callT ctx 34 [.d (.bool b)] [] = some (.ret (.d (.int .i64 (if b = true then 1 else 0))), []) := by
  rw [run34 (by simp)]
  cases b <;> simp [Tryd.f34]
/-- A place in an array: what is read, and the fault. -/
def inArr (x : Ins) (n : Int) : Bool := decide (x.n ≤ n) && decide (n ≤ x.m)
theorem place_run (i : D) (vr cl : Int) (C S G : List Int) (h a f x0 : Int) (x : Ins) (n : Int) (hs : S.length + G.length = 64) (hx : 0 ≤ x.n ∧ x.m ≤ 255 ∧ 0 ≤ x.a ∧ x.a ≤ 8192) :
    callT ctx 35 [.ptr 0 0 0, .d (insD x), .d (.int .i64 n)] [.box (mB (.d i) vr cl (.vec 1 0 0 C.length) S G h a f x0), .vec 1 (C.map jD)] =
      some (if inArr x n = true then .ret (.tup [.d (.int .i64 (x.a + (n - x.n))), .d (.bool true)]) else .ret (.tup [.d (.int .i64 0), .d (.bool false)]),
        [(0, .box (mB (.d i) vr cl (.vec 1 0 0 C.length) S G h a f (if inArr x n = true then x0 else 3))), (0, .vec 1 (C.map jD))]) := by
  rw [run35 (by simp)]
  unfold inArr
  by_cases h1 : x.n ≤ n
  · by_cases h2 : n ≤ x.m
    · have w1 : IntKind.i64.wrap (n - x.n) = n - x.n := wrap_id (by unfold I64; omega)
      have w2 : IntKind.i64.wrap (x.a + (n - x.n)) = x.a + (n - x.n) := wrap_id (by unfold I64; omega)
      have n1 : ¬ n < x.n := by omega
      have n2 : ¬ x.m < n := by omega
      simp [Tryd.f35, drwK_end, mB_len hs, mB_g71 hs, mB_set71 hs, mB_keys, mB_vws, mB_ups, h1, h2, n1, n2, w1, w2]
    · have n1 : ¬ n < x.n := by omega
      have n2 : x.m < n := by omega
      simp [Tryd.f35, drwK_end, mB_len hs, mB_g71 hs, mB_set71 hs, mB_keys, mB_vws, mB_ups, h1, h2, n1, n2]
  · have n1 : n < x.n := by omega
    simp [Tryd.f35, drwK_end, mB_len hs, mB_g71 hs, mB_set71 hs, mB_keys, mB_vws, mB_ups, h1, n1]
def atI (C : List Int) (k : Int) : Int := C[k.toNat]?.getD 0
theorem cellAt {C : List Int} {k : Int} (h : k.toNat < C.length) : C[k.toNat] = atI C k := by unfold atI; rw [List.getElem?_eq_getElem h]; rfl
def upToS (C : List Int) (x : Ins) : Bool := decide (0 ≤ atI C (x.b + 1) ∧ atI C x.a ≤ atI C x.b) || decide (atI C (x.b + 1) < 0 ∧ atI C x.b ≤ atI C x.a)
theorem upTo_run (i : D) (vr cl : Int) (C S G : List Int) (h a f x0 : Int) (x : Ins) (hs : S.length + G.length = 64) (hx : 0 ≤ x.a ∧ x.a.toNat < C.length ∧ 0 ≤ x.b ∧ x.b.toNat + 1 < C.length ∧ C.length ≤ 8192) :
    callT ctx 40 [.ptr 0 0 0, .d (insD x)] [.box (mB (.d i) vr cl (.vec 1 0 0 C.length) S G h a f x0), .vec 1 (C.map jD)] =
      some (.ret (.d (.bool (upToS C x))), [(0, .box (mB (.d i) vr cl (.vec 1 0 0 C.length) S G h a f x0)), (0, .vec 1 (C.map jD))]) := by
  obtain ⟨a1, a2, b1, b2, hc⟩ := hx
  have w1 : IntKind.i64.wrap (x.b + 1) = x.b + 1 := wrap_id (by unfold I64; omega)
  have b3 : (x.b + 1).toNat < C.length := by omega
  have b4 : 0 ≤ x.b + 1 := by omega
  have b5 : x.b.toNat < C.length := by omega
  rw [run40 (by simp)]
  simp [Tryd.f40, drwK_end, mB_len hs, mB_g3, mB_keys, mB_vws, mB_ups, a1, a2, b1, b3, b4, b5, w1, cellAt]
  unfold upToS
  grind
end Go.Am
end
section
namespace Go.Am
open Go Go.Proofs
/-- A state of a run. -/
structure Ms where
  cells : List Int
  stk : List Int
  at_ : Int
  fuel : Int
  fault : Int
def Ms.pop (s : Ms) : Ms := { s with stk := s.stk.dropLast }
def Ms.push (s : Ms) (n : Int) : Ms := { s with stk := s.stk ++ [n] }
def Ms.top (s : Ms) : Int := s.stk.getLast?.getD 0
def setI (C : List Int) (k n : Int) : List Int := C.set k.toNat n
/-- An instruction of those that move cells. -/
def moveF (x : Ins) (s : Ms) : Option Ms :=
  if x.op = 1 then some (s.push x.n)
  else if x.op = 2 then some (s.push (atI s.cells x.a))
  else if x.op = 3 then some (s.push (oneZ (decide (atI s.cells x.a ≠ 0))))
  else if x.op = 4 ∨ x.op = 5 then
    (if inArr x s.top = true then some (s.pop.push (if x.op = 4 then atI s.cells (x.a + (s.top - x.n)) else oneZ (decide (atI s.cells (x.a + (s.top - x.n)) ≠ 0)))) else some { s.pop with fault := 3 })
  else if x.op = 6 then some { s.pop with cells := setI s.cells x.a s.top }
  else if x.op = 7 then
    (if inArr x s.pop.top = true then some { s.pop.pop with cells := setI s.cells (x.a + (s.pop.top - x.n)) s.top } else some { s.pop.pop with fault := 3 })
  else none
def doF (x : Ins) (s : Ms) : Ms :=
  if x.b = 6 ∨ x.b = 7 then
    (if (op1 x.b s.top (decide (x.a = 1))).2.2 = 0 then s.pop.push (op1 x.b s.top (decide (x.a = 1))).1 else { s.pop with fault := (op1 x.b s.top (decide (x.a = 1))).2.2 })
  else
    (if (op2 x.b s.pop.top s.top (decide (x.a = 1))).2.2 = 0 then s.pop.pop.push (op2 x.b s.pop.top s.top (decide (x.a = 1))).1 else { s.pop.pop with fault := (op2 x.b s.pop.top s.top (decide (x.a = 1))).2.2 })
def blockF (x : Ins) (C : List Int) : List Int := C.take x.a.toNat ++ stepB x.b ((C.drop x.a.toNat).take (pinsN x.b)) ++ C.drop (x.a.toNat + pinsN x.b)
def ctlF (x : Ins) (s : Ms) : Ms :=
  if x.op = 8 then doF x s
  else if x.op = 9 then { s with at_ := x.a }
  else if x.op = 10 then (if s.top = 0 then { s.pop with at_ := x.a } else s.pop)
  else if x.op = 11 then (if s.fuel = 0 then { s with fault := 4 } else { s with fuel := s.fuel - 1 })
  else if x.op = 12 then { s with cells := blockF x s.cells }
  else if x.op = 13 then s.push (oneZ (upToS s.cells x))
  else if x.op = 14 then s.push (oneZ (decide (x.n ≤ atI s.cells x.a ∧ atI s.cells x.a ≤ x.m)))
  else s
/-- A step: the place is moved on first. -/
def stepF (x : Ins) (s : Ms) : Ms :=
  match moveF x { s with at_ := s.at_ + 1 } with
  | some t => t
  | none => ctlF x { s with at_ := s.at_ + 1 }
end Go.Am
end
section
namespace Go.Am
open Go Go.Proofs
set_option maxRecDepth 20000
def cellOk (n : Nat) (k : Int) : Prop := 0 ≤ k ∧ k.toNat < n
def arrOk (n : Nat) (x : Ins) : Prop := 0 ≤ x.n ∧ x.n ≤ x.m ∧ x.m ≤ 255 ∧ 0 ≤ x.a ∧ x.a + (x.m - x.n) < n
/-- What an instruction needs of the cells and the stack. -/
structure Fit (x : Ins) (n h : Nat) : Prop where
  top : h ≤ 64
  i1 : x.op = 1 → h < 64
  i2 : x.op = 2 ∨ x.op = 3 ∨ x.op = 14 → h < 64 ∧ cellOk n x.a
  i4 : x.op = 4 ∨ x.op = 5 → 1 ≤ h ∧ arrOk n x
  i6 : x.op = 6 → 1 ≤ h ∧ cellOk n x.a
  i7 : x.op = 7 → 2 ≤ h ∧ arrOk n x
  i8 : x.op = 8 → (x.b = 6 ∨ x.b = 7 → 1 ≤ h) ∧ (¬ (x.b = 6 ∨ x.b = 7) → 2 ≤ h)
  i10 : x.op = 10 → 1 ≤ h
  i12 : x.op = 12 → 0 ≤ x.a ∧ x.a.toNat + pinsN x.b ≤ n
  i13 : x.op = 13 → h < 64 ∧ cellOk n x.a ∧ cellOk n x.b ∧ cellOk n (x.b + 1)
theorem snoc_of {l : List Int} (h : 1 ≤ l.length) : ∃ S n, l = S ++ [n] := by
  have hne : l ≠ [] := by intro h0; subst h0; simp at h
  exact ⟨l.dropLast, l.getLast hne, (List.dropLast_concat_getLast hne).symm⟩
theorem snoc2_of {l : List Int} (h : 2 ≤ l.length) : ∃ S m n, l = S ++ [m, n] := by
  obtain ⟨T, n, rfl⟩ := snoc_of (l := l) (by omega)
  obtain ⟨S, m, rfl⟩ := snoc_of (l := T) (by simp at h; omega)
  exact ⟨S, m, n, by simp⟩
theorem room_of {S G : List Int} (hs : S.length + G.length = 64) (h : S.length < 64) : ∃ g G', G = g :: G' ∧ S.length + (G'.length + 1) = 64 := by
  match G, hs with
  | [], hs => simp at hs; omega
  | g :: G', hs => exact ⟨g, G', rfl, by simpa using hs⟩
theorem set_jD (C : List Int) (i : Nat) (n : Int) : (C.map jD).set i (.int .i64 n) = (C.set i n).map jD := by rw [List.map_set]; rfl
/-- The machine that runs, by its state. -/
def mC (i : D) (vr cl : Int) (s : Ms) (G : List Int) : List Cont := [.box (mB (.d i) vr cl (.vec 1 0 0 s.cells.length) s.stk G s.stk.length s.at_ s.fuel s.fault), .vec 1 (s.cells.map jD)]
def mC2 (i : D) (vr cl : Int) (s : Ms) (G : List Int) : List (Nat × Cont) := [(0, .box (mB (.d i) vr cl (.vec 1 0 0 s.cells.length) s.stk G s.stk.length s.at_ s.fuel s.fault)), (0, .vec 1 (s.cells.map jD))]
theorem mv_1 (i : D) (vr cl : Int) (x : Ins) (s : Ms) (G : List Int) (hs : s.stk.length + G.length = 64) (hf : Fit x s.cells.length s.stk.length) (hop : x.op = 1) :
    ∃ G', (s.push x.n).stk.length + G'.length = 64 ∧ callT ctx 18 [.ptr 0 0 0, .d (insD x)] (mC i vr cl s G) = some (.ret (.d (.bool true)), mC2 i vr cl (s.push x.n) G') := by
  obtain ⟨C, S, a, f, x0⟩ := s
  simp only at hs hf
  obtain ⟨g, G', rfl, hs'⟩ := room_of hs (hf.i1 hop)
  refine ⟨G', by simp [Ms.push]; omega, ?_⟩
  have hp := push_run i vr cl C S G' g a f x0 x.n hs'
  have h1 : S.length + (g :: G').length = 64 := by simpa using hs'
  simp at hp
  rw [run18 (by simp [mC])]
  simp [Tryd.f18, mC, mC2, Ms.push, hop, hp, mB_keys, mB_vws, mB_ups, drwK_end]
theorem mv_2 (i : D) (vr cl : Int) (x : Ins) (s : Ms) (G : List Int) (hs : s.stk.length + G.length = 64) (hf : Fit x s.cells.length s.stk.length) (hop : x.op = 2) :
    ∃ G', (s.push (atI s.cells x.a)).stk.length + G'.length = 64 ∧ callT ctx 18 [.ptr 0 0 0, .d (insD x)] (mC i vr cl s G) = some (.ret (.d (.bool true)), mC2 i vr cl (s.push (atI s.cells x.a)) G') := by
  obtain ⟨C, S, a, f, x0⟩ := s
  simp only at hs hf
  obtain ⟨hl, hc1, hc2⟩ := hf.i2 (.inl hop)
  obtain ⟨g, G', rfl, hs'⟩ := room_of hs hl
  refine ⟨G', by simp [Ms.push]; omega, ?_⟩
  have hp := push_run i vr cl C S G' g a f x0 (atI C x.a) hs'
  have h1 : S.length + (g :: G').length = 64 := by simpa using hs'
  simp at hp
  rw [run18 (by simp [mC])]
  simp [Tryd.f18, mC, mC2, Ms.push, hop, hp, mB_keys, mB_vws, mB_ups, mB_len h1, mB_g3, hc1, hc2, cellAt, drwK_end]
theorem mv_3 (i : D) (vr cl : Int) (x : Ins) (s : Ms) (G : List Int) (hs : s.stk.length + G.length = 64) (hf : Fit x s.cells.length s.stk.length) (hop : x.op = 3) :
    ∃ G', (s.push (oneZ (decide (atI s.cells x.a ≠ 0)))).stk.length + G'.length = 64 ∧ callT ctx 18 [.ptr 0 0 0, .d (insD x)] (mC i vr cl s G) = some (.ret (.d (.bool true)), mC2 i vr cl (s.push (oneZ (decide (atI s.cells x.a ≠ 0)))) G') := by
  obtain ⟨C, S, a, f, x0⟩ := s
  simp only at hs hf
  obtain ⟨hl, hc1, hc2⟩ := hf.i2 (.inr (.inl hop))
  obtain ⟨g, G', rfl, hs'⟩ := room_of hs hl
  refine ⟨G', by simp [Ms.push]; omega, ?_⟩
  have hp := push_run i vr cl C S G' g a f x0 (oneZ (decide (atI C x.a ≠ 0))) hs'
  have ht := truth_run (decide (atI C x.a ≠ 0))
  have ho : (if decide (atI C x.a ≠ 0) = true then (1 : Int) else 0) = oneZ (decide (atI C x.a ≠ 0)) := rfl
  rw [ho] at ht
  have h1 : S.length + (g :: G').length = 64 := by simpa using hs'
  have hb : (atI C x.a != 0) = decide (atI C x.a ≠ 0) := by by_cases h : atI C x.a = 0 <;> simp [h]
  generalize decide (atI C x.a ≠ 0) = b at *
  simp at hp
  rw [run18 (by simp [mC])]
  simp [Tryd.f18, mC, mC2, Ms.push, hop, hp, ht, hb, mB_keys, mB_vws, mB_ups, mB_len h1, mB_g3, hc1, hc2, cellAt, drwK_end]
theorem snoc_top (S : List Int) (n : Int) : (S ++ [n]).getLast?.getD 0 = n := by simp
theorem mv_4 (i : D) (vr cl : Int) (x : Ins) (s : Ms) (G : List Int) (hs : s.stk.length + G.length = 64) (hcl : s.cells.length ≤ 8192) (hf : Fit x s.cells.length s.stk.length) (hop : x.op = 4 ∨ x.op = 5) :
    ∃ t G', moveF x s = some t ∧ t.stk.length + G'.length = 64 ∧ callT ctx 18 [.ptr 0 0 0, .d (insD x)] (mC i vr cl s G) = some (.ret (.d (.bool true)), mC2 i vr cl t G') := by
  obtain ⟨C, S0, a, f, x0⟩ := s
  simp only at hs hf hcl
  obtain ⟨hl, k1, k2, k3, k4, k5⟩ := hf.i4 hop
  obtain ⟨S, n, rfl⟩ := snoc_of hl
  have hs' : S.length + (G.length + 1) = 64 := by simp at hs; omega
  have hpop := pop_run i vr cl C S G a f x0 n hs'
  have hs2 : S.length + (n :: G).length = 64 := by simpa using hs'
  have hpl := place_run i vr cl C S (n :: G) S.length a f x0 x n hs2 ⟨k1, k3, k4, by omega⟩
  have hpush := fun v => push_run i vr cl C S G n a f x0 v hs'
  have h1 : x.op ≠ 1 := by omega
  have h2 : x.op ≠ 2 := by omega
  have h3 : x.op ≠ 3 := by omega
  by_cases hin : inArr x n = true
  · have hr : 0 ≤ x.a + (n - x.n) ∧ (x.a + (n - x.n)).toNat < C.length := by
      unfold inArr at hin
      simp at hin
      omega
    obtain ⟨r1, r2⟩ := hr
    rw [if_pos hin, if_pos hin] at hpl
    generalize hv : x.a + (n - x.n) = v at *
    rcases hop with hop | hop
    · have hpush := hpush (atI C v)
      refine ⟨_, G, by simp [moveF, hop, Ms.top, Ms.pop, hin, hv]; rfl, by simp [Ms.push]; omega, ?_⟩
      simp [hop] at hpop hpl hpush
      rw [run18 (by simp [mC])]
      simp [Tryd.f18, mC, mC2, Ms.push, Ms.pop, hop, hpop, hpl, hpush, mB_keys, mB_vws, mB_ups, mB_len hs2, mB_g3, r1, r2, cellAt, drwK_end]
    · have hpush := hpush (oneZ (decide (atI C v ≠ 0)))
      have ht := truth_run (decide (atI C v ≠ 0))
      have ho : (if decide (atI C v ≠ 0) = true then (1 : Int) else 0) = oneZ (decide (atI C v ≠ 0)) := rfl
      rw [ho] at ht
      have hb : (atI C v != 0) = decide (atI C v ≠ 0) := by by_cases h : atI C v = 0 <;> simp [h]
      refine ⟨_, G, by simp only [moveF, hop, Ms.top, Ms.pop]; simp [hin, hv]; rfl, by simp [Ms.push]; omega, ?_⟩
      have hd : decide (atI C v ≠ 0) = !decide (atI C v = 0) := by simp
      rw [hd] at hpush ht hb
      generalize (!decide (atI C v = 0)) = b at *
      simp [hop] at hpop hpl hpush
      rw [run18 (by simp [mC])]
      simp [Tryd.f18, mC, mC2, Ms.push, Ms.pop, hop, hpop, hpl, hpush, ht, hb, mB_keys, mB_vws, mB_ups, mB_len hs2, mB_g3, r1, r2, cellAt, drwK_end]
  · rw [if_neg hin, if_neg hin] at hpl
    have hin' : inArr x n = false := by simpa using hin
    refine ⟨_, n :: G, by simp only [moveF, Ms.top, Ms.pop]; simp [h1, h2, h3, hop, hin']; rfl, by simpa using hs', ?_⟩
    rw [run18 (by simp [mC])]
    rcases hop with hop | hop <;> simp [hop] at hpop hpl <;>
    simp [Tryd.f18, mC, mC2, Ms.push, Ms.pop, hop, hpop, hpl, mB_keys, mB_vws, mB_ups, mB_len hs2, mB_g3, drwK_end]
theorem mv_6 (i : D) (vr cl : Int) (x : Ins) (s : Ms) (G : List Int) (hs : s.stk.length + G.length = 64) (hf : Fit x s.cells.length s.stk.length) (hop : x.op = 6) :
    ∃ t G', moveF x s = some t ∧ t.stk.length + G'.length = 64 ∧ callT ctx 18 [.ptr 0 0 0, .d (insD x)] (mC i vr cl s G) = some (.ret (.d (.bool true)), mC2 i vr cl t G') := by
  obtain ⟨C, S0, a, f, x0⟩ := s
  simp only at hs hf
  obtain ⟨hl, hc1, hc2⟩ := hf.i6 hop
  obtain ⟨S, n, rfl⟩ := snoc_of hl
  have hs' : S.length + (G.length + 1) = 64 := by simp at hs; omega
  have hpop := pop_run i vr cl C S G a f x0 n hs'
  have hs2 : S.length + (n :: G).length = 64 := by simpa using hs'
  refine ⟨_, n :: G, by simp only [moveF, Ms.top, Ms.pop]; simp [hop]; rfl, by simpa using hs', ?_⟩
  simp at hpop
  rw [run18 (by simp [mC])]
  simp [Tryd.f18, mC, mC2, setI, hop, hpop, mB_keys, mB_vws, mB_ups, mB_len hs2, mB_g3, hc1, hc2, drwK_end]
theorem top2 (S : List Int) (m n : Int) : (S ++ [m, n]).getLast? = some n := by
  rw [show S ++ [m, n] = (S ++ [m]) ++ [n] by simp]; simp
theorem pop2 (S : List Int) (m n : Int) : (S ++ [m, n]).dropLast = S ++ [m] := by
  rw [show S ++ [m, n] = (S ++ [m]) ++ [n] by simp, List.dropLast_concat]
theorem mv_7 (i : D) (vr cl : Int) (x : Ins) (s : Ms) (G : List Int) (hs : s.stk.length + G.length = 64) (hcl : s.cells.length ≤ 8192) (hf : Fit x s.cells.length s.stk.length) (hop : x.op = 7) :
    ∃ t G', moveF x s = some t ∧ t.stk.length + G'.length = 64 ∧ callT ctx 18 [.ptr 0 0 0, .d (insD x)] (mC i vr cl s G) = some (.ret (.d (.bool true)), mC2 i vr cl t G') := by
  obtain ⟨C, S0, a, f, x0⟩ := s
  simp only at hs hf hcl
  obtain ⟨hl, k1, k2, k3, k4, k5⟩ := hf.i7 hop
  obtain ⟨S, m, n, rfl⟩ := snoc2_of hl
  have hs' : S.length + (G.length + 1 + 1) = 64 := by simp at hs; omega
  have hpop := pop_run i vr cl C (S ++ [m]) G a f x0 n (by simp; omega)
  have hpop2 := pop_run i vr cl C S (n :: G) a f x0 m (by simp; omega)
  have hs2 : S.length + (m :: n :: G).length = 64 := by simpa using hs'
  have hpl := place_run i vr cl C S (m :: n :: G) S.length a f x0 x m hs2 ⟨k1, k3, k4, by omega⟩
  by_cases hin : inArr x m = true
  · have hr : 0 ≤ x.a + (m - x.n) ∧ (x.a + (m - x.n)).toNat < C.length := by
      unfold inArr at hin
      simp at hin
      omega
    obtain ⟨r1, r2⟩ := hr
    rw [if_pos hin, if_pos hin] at hpl
    generalize hv : x.a + (m - x.n) = v at *
    refine ⟨_, m :: n :: G, by simp only [moveF, Ms.top, Ms.pop]; simp [hop, hin, hv, top2, pop2]; rfl, by simpa using hs', ?_⟩
    simp [hop] at hpop hpop2 hpl
    rw [run18 (by simp [mC])]
    simp [Tryd.f18, mC, mC2, setI, hop, hpop, hpop2, hpl, mB_keys, mB_vws, mB_ups, mB_len hs2, mB_g3, r1, r2, drwK_end]
  · rw [if_neg hin, if_neg hin] at hpl
    have hin' : inArr x m = false := by simpa using hin
    refine ⟨_, m :: n :: G, by simp only [moveF, Ms.top, Ms.pop]; simp [hop, hin', top2, pop2]; rfl, by simpa using hs', ?_⟩
    simp [hop] at hpop hpop2 hpl
    rw [run18 (by simp [mC])]
    simp [Tryd.f18, mC, mC2, hop, hpop, hpop2, hpl, mB_keys, mB_vws, mB_ups, mB_len hs2, mB_g3, drwK_end]
theorem vmoves_run (i : D) (vr cl : Int) (x : Ins) (s : Ms) (G : List Int) (hs : s.stk.length + G.length = 64) (hcl : s.cells.length ≤ 8192) (hf : Fit x s.cells.length s.stk.length) (hop : 1 ≤ x.op ∧ x.op ≤ 7) :
    ∃ t G', moveF x s = some t ∧ t.stk.length + G'.length = 64 ∧ callT ctx 18 [.ptr 0 0 0, .d (insD x)] (mC i vr cl s G) = some (.ret (.d (.bool true)), mC2 i vr cl t G') := by
  have hc : x.op = 1 ∨ x.op = 2 ∨ x.op = 3 ∨ (x.op = 4 ∨ x.op = 5) ∨ x.op = 6 ∨ x.op = 7 := by omega
  rcases hc with h | h | h | h | h | h
  · obtain ⟨G', h1, h2⟩ := mv_1 i vr cl x s G hs hf h
    exact ⟨_, G', by simp [moveF, h], h1, h2⟩
  · obtain ⟨G', h1, h2⟩ := mv_2 i vr cl x s G hs hf h
    exact ⟨_, G', by simp [moveF, h], h1, h2⟩
  · obtain ⟨G', h1, h2⟩ := mv_3 i vr cl x s G hs hf h
    exact ⟨_, G', by simp only [moveF, h]; rfl, h1, h2⟩
  · exact mv_4 i vr cl x s G hs hcl hf h
  · exact mv_6 i vr cl x s G hs hf h
  · exact mv_7 i vr cl x s G hs hcl hf h
theorem vmoves_none (i : D) (vr cl : Int) (x : Ins) (s : Ms) (G : List Int) (hop : 8 ≤ x.op) :
    moveF x s = none ∧ callT ctx 18 [.ptr 0 0 0, .d (insD x)] (mC i vr cl s G) = some (.ret (.d (.bool false)), mC2 i vr cl s G) := by
  have h1 : x.op ≠ 1 := by omega
  have h2 : x.op ≠ 2 := by omega
  have h3 : x.op ≠ 3 := by omega
  have h4 : x.op ≠ 4 := by omega
  have h5 : x.op ≠ 5 := by omega
  have h6 : x.op ≠ 6 := by omega
  have h7 : x.op ≠ 7 := by omega
  refine ⟨by simp [moveF, h1, h2, h3, h4, h5, h6, h7], ?_⟩
  obtain ⟨C, S, a, f, x0⟩ := s
  rw [run18 (by simp [mC])]
  simp [Tryd.f18, mC, mC2, h1, h2, h3, h4, h5, h6, h7, mB_keys, mB_vws, mB_ups]
end Go.Am
end
section
namespace Go.Am
open Go Go.Proofs
set_option maxRecDepth 20000
theorem flats_map : ∀ T : List Int, flats (T.map iA) = some (T.map jD)
  | [] => rfl
  | x :: r => by
    have := flats_map r
    simp only [List.map_cons, iA] at this ⊢
    rw [flats.eq_2, this]
    rfl
theorem mB_drop {I : AV} {vr cl : Int} {cv : AV} {S T G : List Int} {h a f x : Int} : (mB I vr cl cv (S ++ T) G h a f x).drop (4 + S.length) = T.map iA ++ (G.map iA ++ [.d (.int .i64 h), .d (.int .i64 a), .d (.int .i64 f), .d (.int .i64 x)]) := by
  rw [mB, show 4 + S.length = S.length + 1 + 1 + 1 + 1 by omega]
  simp only [List.drop_succ_cons, List.map_append, List.append_assoc]
  rw [List.drop_append_of_le_length (by simp), show S.length = (S.map iA).length by simp, List.drop_length]
  rfl
theorem flatsT {I : AV} {vr cl : Int} {cv : AV} {S T G : List Int} {h a f x : Int} {n : Nat} (hn : n = T.length) : flats (((mB I vr cl cv (S ++ T) G h a f x).drop (4 + S.length)).take n) = some (T.map jD) := by
  rw [mB_drop, hn, List.take_append_of_le_length (by simp), show T.length = (T.map iA).length by simp, List.take_length]
  exact flats_map T
theorem clone64_eq (L : List Int) (hl : L.length ≤ 100000) : callT ctx 17 [.d (.list (L.map jD))] [] = some (.ret (.vec 0 0 0 L.length), [(0, .vec 1 (L.map jD))]) := clone64_run L hl
theorem does_1 (i : D) (vr cl : Int) (x : Ins) (C S G : List Int) (a f x0 n : Int) (hs : S.length + (G.length + 1) = 64) (hn : I64 n) (hb : x.b = 6 ∨ x.b = 7) :
    callT ctx 37 [.ptr 0 0 0, .d (insD x)] [.box (mB (.d i) vr cl (.vec 1 0 0 C.length) (S ++ [n]) G ((S ++ [n]).length : Nat) a f x0), .vec 1 (C.map jD)] =
      some (.ret (.tup []), if (op1 x.b n (decide (x.a = 1))).2.2 = 0 then [(0, .box (mB (.d i) vr cl (.vec 1 0 0 C.length) (S ++ [(op1 x.b n (decide (x.a = 1))).1]) G ((S ++ [n]).length : Nat) a f x0)), (0, .vec 1 (C.map jD))]
        else [(0, .box (mB (.d i) vr cl (.vec 1 0 0 C.length) S (n :: G) S.length a f (op1 x.b n (decide (x.a = 1))).2.2)), (0, .vec 1 (C.map jD))]) := by
  have hop := foldOp1_run x.b n (decide (x.a = 1)) hn
  have hcl := clone64_eq [n] (by simp)
  have hfl : ∀ h, flats (((mB (.d i) vr cl (.vec 1 0 0 C.length) (S ++ [n]) G h a f x0).drop (4 + S.length)).take 1) = some [D.int .i64 n] := fun h => flatsT rfl
  simp only [mB_pop] at hfl
  have g1 : (S.length : Int) ≤ (S.length : Int) + 1 := by omega
  have h1 : (S ++ [n]).length + G.length = 64 := by simp; omega
  have h2 : S.length + (n :: G).length = 64 := by simpa using hs
  have hlt : 4 + S.length + 1 ≤ 72 := by omega
  have hle : S.length + 1 ≤ 64 := by omega
  have hpush := fun v => push_run i vr cl C S G n a f x0 v hs
  have w1 : IntKind.i64.wrap (S.length : Int) = (S.length : Int) := wrap_id (by unfold I64; omega)
  have g0 : (0 : Int) ≤ (S.length : Int) := by omega
  have hbb : (decide (x.b = 6) || decide (x.b = 7)) = true := by simpa using hb
  generalize op1 x.b n (decide (x.a = 1)) = p at *
  have hpush := hpush p.1
  simp at hop hcl hpush
  rw [run37 (by simp)]
  by_cases hp : p.2.2 = 0
  · rcases hb with hb | hb <;> simp only [hb] at hop <;>
    simp [Tryd.f37, hb, hop, hcl, hfl, hp, hpush, mB_keys, mB_vws, mB_ups, mB_len h1, mB_len h2, mB_g68 h1, mB_g68 h2, mB_set68 h1, mB_set68 h2, mB_pop, hlt, hle, w1, g0, g1, drwK_end]
  · rcases hb with hb | hb <;> simp only [hb] at hop <;>
    simp [Tryd.f37, hb, hop, hcl, hfl, hp, mB_keys, mB_vws, mB_ups, mB_len h1, mB_len h2, mB_g68 h1, mB_g68 h2, mB_set68 h1, mB_set68 h2, mB_set71 h2, mB_pop, hlt, hle, w1, g0, g1, drwK_end]
theorem mB_pop2 {I : AV} {vr cl : Int} {cv : AV} {S G : List Int} {h a f x : Int} (m n : Int) : mB I vr cl cv (S ++ [m, n]) G h a f x = mB I vr cl cv S (m :: n :: G) h a f x := by simp [mB]
theorem does_2 (i : D) (vr cl : Int) (x : Ins) (C S G : List Int) (a f x0 m n : Int) (hs : S.length + (G.length + 2) = 64) (hm : I64 m) (hn : I64 n) (hb : ¬ (x.b = 6 ∨ x.b = 7)) :
    callT ctx 37 [.ptr 0 0 0, .d (insD x)] [.box (mB (.d i) vr cl (.vec 1 0 0 C.length) (S ++ [m, n]) G ((S ++ [m, n]).length : Nat) a f x0), .vec 1 (C.map jD)] =
      some (.ret (.tup []), if (op2 x.b m n (decide (x.a = 1))).2.2 = 0 then [(0, .box (mB (.d i) vr cl (.vec 1 0 0 C.length) (S ++ [(op2 x.b m n (decide (x.a = 1))).1]) (n :: G) ((S ++ [n]).length : Nat) a f x0)), (0, .vec 1 (C.map jD))]
        else [(0, .box (mB (.d i) vr cl (.vec 1 0 0 C.length) S (m :: n :: G) S.length a f (op2 x.b m n (decide (x.a = 1))).2.2)), (0, .vec 1 (C.map jD))]) := by
  have hop := foldOp2_run x.b m n (decide (x.a = 1)) hm hn
  have hcl := clone64_eq [m, n] (by simp)
  have hfl : ∀ h, flats (((mB (.d i) vr cl (.vec 1 0 0 C.length) (S ++ [m, n]) G h a f x0).drop (4 + S.length)).take 2) = some [D.int .i64 m, D.int .i64 n] := fun h => flatsT rfl
  simp only [mB_pop2] at hfl
  have g1 : (S.length : Int) ≤ (S.length : Int) + 2 := by omega
  have h2 : S.length + (m :: n :: G).length = 64 := by simpa using hs
  have hlt : 4 + S.length + 2 ≤ 72 := by omega
  have hle : S.length + 2 ≤ 64 := by omega
  have tn : ((S.length : Int) + 2).toNat = S.length + 2 := by omega
  have tn2 : ((S.length : Int) + 2).toNat - S.length = 2 := by omega
  have hle2 : (S.length : Int) + 2 ≤ 64 := by omega
  have hpush := fun v => push_run i vr cl C S (n :: G) m a f x0 v (by simpa using hs)
  have w1 : IntKind.i64.wrap ((S.length : Int) + 2 - 2) = (S.length : Int) := by rw [show (S.length : Int) + 2 - 2 = S.length by omega]; exact wrap_id (by unfold I64; omega)
  have w2 : IntKind.i64.wrap (S.length : Int) = (S.length : Int) := wrap_id (by unfold I64; omega)
  have g0 : (0 : Int) ≤ (S.length : Int) := by omega
  have hb1 : ¬ x.b = 6 := fun h => hb (.inl h)
  have hb2 : ¬ x.b = 7 := fun h => hb (.inr h)
  generalize op2 x.b m n (decide (x.a = 1)) = p at *
  have hpush := hpush p.1
  simp at hop hcl hpush
  rw [run37 (by simp)]
  by_cases hp : p.2.2 = 0
  · simp [Tryd.f37, hb1, hb2, hop, hcl, hfl, hp, hpush, mB_keys, mB_vws, mB_ups, mB_len h2, mB_g68 h2, mB_set68 h2, mB_pop2, mB_pop, hlt, hle, hle2, tn, tn2, w1, w2, g0, g1, drwK_end]
  · simp [Tryd.f37, hb1, hb2, hop, hcl, hfl, hp, mB_keys, mB_vws, mB_ups, mB_len h2, mB_g68 h2, mB_set68 h2, mB_set71 h2, mB_pop2, mB_pop, hlt, hle, hle2, tn, tn2, w1, w2, g0, g1, drwK_end]
end Go.Am
end
section
namespace Go.Am
open Go Go.Proofs
set_option maxRecDepth 20000
/-- Numbers of a state that have room. -/
structure NumsOk (s : Ms) : Prop where
  cells : ∀ n ∈ s.cells, I64 n
  stk : ∀ n ∈ s.stk, I64 n
  few : s.cells.length ≤ 8192
  fuel : 0 ≤ s.fuel ∧ s.fuel ≤ 16384
  place : 0 ≤ s.at_ ∧ s.at_ ≤ 5000
def CtlOk (i : D) (vr cl : Int) (x : Ins) (s : Ms) (G : List Int) : Prop :=
  ∃ G', (ctlF x s).stk.length + G'.length = 64 ∧ callT ctx 19 [.ptr 0 0 0, .d (insD x)] (mC i vr cl s G) = some (.ret (.tup []), mC2 i vr cl (ctlF x s) G')
theorem ct_8 (i : D) (vr cl : Int) (x : Ins) (s : Ms) (G : List Int) (hs : s.stk.length + G.length = 64) (hf : Fit x s.cells.length s.stk.length) (hN : NumsOk s) (hop : x.op = 8) : CtlOk i vr cl x s G := by
  obtain ⟨C, S0, a, f, x0⟩ := s
  simp only at hs hf
  obtain ⟨f1, f2⟩ := hf.i8 hop
  have hstk := hN.stk
  simp only at hstk
  unfold CtlOk
  have hct : ctlF x ⟨C, S0, a, f, x0⟩ = doF x ⟨C, S0, a, f, x0⟩ := by simp [ctlF, hop]
  rw [hct]
  rw [run19 (by simp [mC])]
  by_cases hb : x.b = 6 ∨ x.b = 7
  · obtain ⟨S, n, rfl⟩ := snoc_of (f1 hb)
    have hd := does_1 i vr cl x C S G a f x0 n (by simp at hs; omega) (hstk n (by simp)) hb
    unfold doF
    rw [if_pos hb]
    simp only [Ms.top, Ms.pop, Ms.push, List.getLast?_concat, Option.getD_some, List.dropLast_concat]
    generalize op1 x.b n (decide (x.a = 1)) = p at *
    by_cases hp : p.2.2 = 0
    · rw [if_pos hp] at hd ⊢
      refine ⟨G, by simpa using hs, ?_⟩
      simp [hop] at hd
      simp [Tryd.f19, mC, mC2, hop, hd, mB_keys, mB_vws, mB_ups, drwK_end]
    · rw [if_neg hp] at hd ⊢
      refine ⟨n :: G, by simp at hs ⊢; omega, ?_⟩
      simp [hop] at hd
      simp [Tryd.f19, mC, mC2, hop, hd, mB_keys, mB_vws, mB_ups, drwK_end]
  · obtain ⟨S, m, n, rfl⟩ := snoc2_of (f2 hb)
    have hd := does_2 i vr cl x C S G a f x0 m n (by simp at hs; omega) (hstk m (by simp)) (hstk n (by simp)) hb
    unfold doF
    rw [if_neg hb]
    simp only [Ms.top, Ms.pop, Ms.push, top2, pop2, List.getLast?_concat, Option.getD_some, List.dropLast_concat]
    generalize op2 x.b m n (decide (x.a = 1)) = p at *
    by_cases hp : p.2.2 = 0
    · rw [if_pos hp] at hd ⊢
      refine ⟨n :: G, by simp at hs ⊢; omega, ?_⟩
      simp [hop] at hd
      simp [Tryd.f19, mC, mC2, hop, hd, mB_keys, mB_vws, mB_ups, drwK_end]
    · rw [if_neg hp] at hd ⊢
      refine ⟨m :: n :: G, by simp at hs ⊢; omega, ?_⟩
      simp [hop] at hd
      simp [Tryd.f19, mC, mC2, hop, hd, mB_keys, mB_vws, mB_ups, drwK_end]
theorem ct_9 (i : D) (vr cl : Int) (x : Ins) (s : Ms) (G : List Int) (hs : s.stk.length + G.length = 64) (hop : x.op = 9) : CtlOk i vr cl x s G := by
  obtain ⟨C, S, a, f, x0⟩ := s
  simp only at hs
  unfold CtlOk
  refine ⟨G, by simpa [ctlF, hop] using hs, ?_⟩
  rw [run19 (by simp [mC])]
  simp [Tryd.f19, ctlF, mC, mC2, hop, mB_keys, mB_vws, mB_ups, mB_len hs, mB_set69 hs, drwK_end]
theorem ct_10 (i : D) (vr cl : Int) (x : Ins) (s : Ms) (G : List Int) (hs : s.stk.length + G.length = 64) (hf : Fit x s.cells.length s.stk.length) (hop : x.op = 10) : CtlOk i vr cl x s G := by
  obtain ⟨C, S0, a, f, x0⟩ := s
  simp only at hs hf
  obtain ⟨S, n, rfl⟩ := snoc_of (hf.i10 hop)
  have hs' : S.length + (G.length + 1) = 64 := by simp at hs; omega
  have hpop := pop_run i vr cl C S G a f x0 n hs'
  have hs2 : S.length + (n :: G).length = 64 := by simpa using hs'
  unfold CtlOk
  rw [run19 (by simp [mC])]
  simp at hpop
  by_cases hn : n = 0
  · refine ⟨n :: G, by simp [ctlF, hop, Ms.top, Ms.pop, hn]; omega, ?_⟩
    subst hn
    simp [Tryd.f19, ctlF, Ms.top, Ms.pop, mC, mC2, hop, hpop, mB_keys, mB_vws, mB_ups, mB_len hs2, mB_set69 hs2, drwK_end]
  · refine ⟨n :: G, by simp [ctlF, hop, Ms.top, Ms.pop, hn]; omega, ?_⟩
    simp [Tryd.f19, ctlF, Ms.top, Ms.pop, mC, mC2, hop, hpop, hn, mB_keys, mB_vws, mB_ups, drwK_end]
theorem ct_11 (i : D) (vr cl : Int) (x : Ins) (s : Ms) (G : List Int) (hs : s.stk.length + G.length = 64) (hN : NumsOk s) (hop : x.op = 11) : CtlOk i vr cl x s G := by
  obtain ⟨C, S, a, f, x0⟩ := s
  have hfu := hN.fuel
  simp only at hs hfu
  unfold CtlOk
  rw [run19 (by simp [mC])]
  by_cases hn : f = 0
  · refine ⟨G, by simpa [ctlF, hop, hn] using hs, ?_⟩
    simp [Tryd.f19, ctlF, mC, mC2, hop, hn, mB_keys, mB_vws, mB_ups, mB_len hs, mB_g70 hs, mB_set71 hs, drwK_end]
  · have w : IntKind.i64.wrap (f - 1) = f - 1 := wrap_id (by unfold I64; omega)
    refine ⟨G, by simpa [ctlF, hop, hn] using hs, ?_⟩
    simp [Tryd.f19, ctlF, mC, mC2, hop, hn, w, mB_keys, mB_vws, mB_ups, mB_len hs, mB_g70 hs, mB_set70 hs, drwK_end]
theorem ct_13 (i : D) (vr cl : Int) (x : Ins) (s : Ms) (G : List Int) (hs : s.stk.length + G.length = 64) (hf : Fit x s.cells.length s.stk.length) (hN : NumsOk s) (hop : x.op = 13) : CtlOk i vr cl x s G := by
  obtain ⟨C, S, a, f, x0⟩ := s
  have hfew := hN.few
  simp only at hs hf hfew
  obtain ⟨h1, ⟨a1, a2⟩, ⟨b1, b2⟩, ⟨c1, c2⟩⟩ := hf.i13 hop
  obtain ⟨g, G', rfl, hs'⟩ := room_of hs h1
  have hu := upTo_run i vr cl C S (g :: G') S.length a f x0 x hs ⟨a1, a2, b1, by omega, hfew⟩
  have ht := truth_run (upToS C x)
  have ho : (if upToS C x = true then (1 : Int) else 0) = oneZ (upToS C x) := rfl
  rw [ho] at ht
  have hpush := push_run i vr cl C S G' g a f x0 (oneZ (upToS C x)) hs'
  unfold CtlOk
  rw [run19 (by simp [mC])]
  refine ⟨G', by simp [ctlF, hop, Ms.push]; omega, ?_⟩
  simp [hop] at hu hpush
  simp [Tryd.f19, ctlF, Ms.push, mC, mC2, hop, hu, ht, hpush, mB_keys, mB_vws, mB_ups, drwK_end]
theorem ct_14 (i : D) (vr cl : Int) (x : Ins) (s : Ms) (G : List Int) (hs : s.stk.length + G.length = 64) (hf : Fit x s.cells.length s.stk.length) (hop : x.op = 14) : CtlOk i vr cl x s G := by
  obtain ⟨C, S, a, f, x0⟩ := s
  simp only at hs hf
  obtain ⟨hl, hc1, hc2⟩ := hf.i2 (.inr (.inr hop))
  obtain ⟨g, G', rfl, hs'⟩ := room_of hs hl
  have hpush := fun v => push_run i vr cl C S G' g a f x0 v hs'
  unfold CtlOk
  rw [run19 (by simp [mC])]
  refine ⟨G', by simp [ctlF, hop, Ms.push]; omega, ?_⟩
  have ht := truth_run
  by_cases h1 : x.n ≤ atI C x.a
  · by_cases h2 : atI C x.a ≤ x.m
    · have hpush := hpush 1
      simp at hpush
      simp [Tryd.f19, ctlF, Ms.push, mC, mC2, hop, ht, oneZ, hpush, h1, h2, hc1, hc2, cellAt, mB_keys, mB_vws, mB_ups, mB_len hs, mB_g3, drwK_end]
    · have hpush := hpush 0
      simp at hpush
      simp [Tryd.f19, ctlF, Ms.push, mC, mC2, hop, ht, oneZ, hpush, h1, h2, hc1, hc2, cellAt, mB_keys, mB_vws, mB_ups, mB_len hs, mB_g3, drwK_end]
  · have hpush := hpush 0
    simp at hpush
    simp [Tryd.f19, ctlF, Ms.push, mC, mC2, hop, ht, oneZ, hpush, h1, hc1, hc2, cellAt, mB_keys, mB_vws, mB_ups, mB_len hs, mB_g3, drwK_end]
theorem plainDs_jD : ∀ Y : List Int, plainDs (Y.map jD) = true
  | [] => rfl
  | x :: r => by simp [plainDs, plainD, plainDs_jD r]
theorem putC_map (C Y : List Int) (a : Nat) (h : a + Y.length ≤ C.length) : putCells (C.map jD) a (Y.map jD) = (C.take a ++ Y ++ C.drop (a + Y.length)).map jD := by
  rw [putCells_eq _ _ _ (by simpa using h)]
  simp [List.map_take, List.map_drop]
theorem ct_12 (i : D) (vr cl : Int) (x : Ins) (s : Ms) (G : List Int) (hs : s.stk.length + G.length = 64) (hf : Fit x s.cells.length s.stk.length) (hN : NumsOk s) (hop : x.op = 12) : CtlOk i vr cl x s G := by
  obtain ⟨C, S, a, f, x0⟩ := s
  have hfew := hN.few
  have hcI := hN.cells
  simp only at hs hf hfew hcI
  obtain ⟨k1, k2⟩ := hf.i12 hop
  obtain ⟨pl, hp1, hp2, hp3⟩ := pins_ok x.b
  obtain ⟨o, ho⟩ : ∃ o : Nat, x.a = (o : Int) := ⟨x.a.toNat, by omega⟩
  have k2' : o + pl.length ≤ C.length := by rw [ho] at k2; simp at k2; omega
  have hlen : ((C.drop o).take pl.length).length = pl.length := by simp; omega
  have hst := step_run x.b ((C.drop o).take pl.length) (by rw [hlen, hp2]) (fun y hy => hcI y (List.mem_of_mem_drop (List.mem_of_mem_take hy)))
  have hYl : (stepB x.b ((C.drop o).take pl.length)).length = pl.length := by rw [stepB_len, hlen]
  have hblk : blockF x C = C.take o ++ stepB x.b ((C.drop o).take pl.length) ++ C.drop (o + (stepB x.b ((C.drop o).take pl.length)).length) := by
    unfold blockF
    rw [ho, hYl, ← hp2]
    simp
  have hput := putC_map C (stepB x.b ((C.drop o).take pl.length)) o (by omega)
  rw [← hblk] at hput
  have hbl : (blockF x C).length = C.length := by
    rw [hblk]
    simp only [List.length_append, List.length_take, List.length_drop, hYl]
    omega
  rw [hlen] at hst
  generalize hY : stepB x.b ((C.drop o).take pl.length) = Y at *
  have htk : (Y.map jD).take (C.length - o) = Y.map jD := List.take_of_length_le (by simp; omega)
  have htk2 : (Y.map jD).take pl.length = Y.map jD := List.take_of_length_le (by simp; omega)
  have wa : IntKind.i64.wrap ((o : Int) + (pl.length : Int)) = (o : Int) + (pl.length : Int) := wrap_id (by unfold I64; omega)
  have tn : ((o : Int) + (pl.length : Int)).toNat = o + pl.length := by omega
  have ho1 : o ≤ C.length := by omega
  have ho2 : (o : Int) ≤ (C.length : Int) := by omega
  have ho3 : (0 : Int) ≤ (o : Int) + (pl.length : Int) := by omega
  have ho4 : (o : Int) ≤ (o : Int) + (pl.length : Int) := by omega
  have ho5 : o + (C.length - o) ≤ C.length := by omega
  unfold CtlOk
  refine ⟨G, by simpa [ctlF, hop] using hs, ?_⟩
  rw [run19 (by simp [mC])]
  clear hN hf hcI hY hblk
  try simp at hp1
  simp only [List.map_take, List.map_drop] at hst
  simp [Tryd.f19, ctlF, mC, mC2, hop, ho, hp1, hst, hYl, htk, htk2, hput, hbl, wa, tn, ho1, ho2, ho3, ho4, ho5, k2', mB_keys, mB_vws, mB_ups, mB_len hs, mB_g3, plainDs_jD, drwK_end]
theorem control_run (i : D) (vr cl : Int) (x : Ins) (s : Ms) (G : List Int) (hs : s.stk.length + G.length = 64) (hf : Fit x s.cells.length s.stk.length) (hN : NumsOk s) (hop : 8 ≤ x.op ∧ x.op ≤ 14) : CtlOk i vr cl x s G := by
  have hc : x.op = 8 ∨ x.op = 9 ∨ x.op = 10 ∨ x.op = 11 ∨ x.op = 12 ∨ x.op = 13 ∨ x.op = 14 := by omega
  rcases hc with h | h | h | h | h | h | h
  · exact ct_8 i vr cl x s G hs hf hN h
  · exact ct_9 i vr cl x s G hs h
  · exact ct_10 i vr cl x s G hs hf h
  · exact ct_11 i vr cl x s G hs hN h
  · exact ct_12 i vr cl x s G hs hf hN h
  · exact ct_13 i vr cl x s G hs hf hN h
  · exact ct_14 i vr cl x s G hs hf h
end Go.Am
end
section
namespace Go.Am
open Go Go.Proofs
inductive RunsF (l : List Ins) : Ms → Ms → Prop
  | fault (s : Ms) (h : s.fault ≠ 0) : RunsF l s s
  | fin (s : Ms) (x : Ins) (h0 : s.fault = 0) (hx : l[s.at_.toNat]? = some x) (h : x.op = 15) : RunsF l s s
  | step (s : Ms) (x : Ins) (t : Ms) (h0 : s.fault = 0) (hx : l[s.at_.toNat]? = some x) (h : x.op ≠ 15) (h' : RunsF l (stepF x s) t) : RunsF l s t
structure VInv (l : List Ins) (st : Nat → List Bool) (n : Nat) (s : Ms) : Prop where
  nums : NumsOk s
  len : s.cells.length = n
  h64 : s.stk.length ≤ 64
  here : s.fault = 0 → s.at_.toNat < l.length ∧ s.stk.length = (st s.at_.toNat).length
theorem giveS_some {t : Bool} {S S' : List Bool} (h : giveS t S = some S') : S.length < 64 ∧ S'.length = S.length + 1 := by
  unfold giveS at h
  split at h
  · rename_i hl; cases h; exact ⟨hl, by simp⟩
  · cases h
theorem takeS_some {n : Nat} {t : Bool} {S S' : List Bool} (h : takeS n t S = some S') : n ≤ S.length ∧ S'.length = S.length - n := by
  unfold takeS at h
  split at h
  · cases h
  · rename_i hl
    split at h
    · cases h
    · cases h; exact ⟨by omega, by simp⟩
theorem emptyS_some {S S' : List Bool} (h : emptyS S = some S') : S = [] ∧ S' = [] := by
  unfold emptyS at h
  split at h
  · rename_i hl; cases h; exact ⟨hl, rfl⟩
  · cases h
theorem cellB_ok {cells n : Nat} {a : Int} (h : cellB cells a n = true) : 0 ≤ a ∧ a.toNat + n ≤ cells := by
  unfold cellB at h
  simp only [Bool.and_eq_true, decide_eq_true_eq] at h
  omega
/-- What an instruction does to the stack's height. -/
def hgt (x : Ins) (h : Nat) : Nat :=
  if x.op = 1 ∨ x.op = 2 ∨ x.op = 3 ∨ x.op = 13 ∨ x.op = 14 then h + 1 else if x.op = 4 ∨ x.op = 5 then h else if x.op = 6 ∨ x.op = 10 then h - 1 else if x.op = 7 then h - 2
  else if x.op = 8 then (if x.b = 6 ∨ x.b = 7 then h else h - 1) else h
theorem arrB_ok {n : Nat} {x : Ins} (h : arrB n x = true) : arrOk n x := by
  unfold arrB cellB at h
  unfold arrOk
  simp only [Bool.and_eq_true, decide_eq_true_eq] at h
  omega
theorem fit_of {n : Nat} {last at_ : Int} {x : Ins} {S S' : List Bool} (hfm : formB pinsN n last at_ x = true) (hmv : movesS x S = some S') (h64 : S.length ≤ 64) :
    Fit x n S.length ∧ S'.length = hgt x S.length ∧ (x.op = 10 → S'.length = 0) ∧ (x.op = 9 → S'.length = 0) ∧ (1 ≤ x.op ∧ x.op ≤ 15) := by
  have hop : x.op = 1 ∨ x.op = 2 ∨ x.op = 3 ∨ x.op = 4 ∨ x.op = 5 ∨ x.op = 6 ∨ x.op = 7 ∨ x.op = 8 ∨ x.op = 9 ∨ x.op = 10 ∨ x.op = 11 ∨ x.op = 12 ∨ x.op = 13 ∨ x.op = 14 ∨ x.op = 15 := by
    apply Classical.byContradiction
    intro hc
    simp only [not_or] at hc
    unfold formB at hfm
    simp [hc] at hfm
  unfold formB at hfm
  unfold movesS at hmv
  have one : ∀ {a : Int}, cellB n a 1 = true → cellOk n a := fun h => by
    have := cellB_ok (n := 1) h
    exact ⟨this.1, by omega⟩
  rcases hop with e | e | e | e | e | e | e | e | e | e | e | e | e | e | e <;> simp [e] at hfm hmv
  · obtain ⟨h1, h2⟩ := giveS_some hmv
    exact ⟨⟨h64, fun _ => h1, by simp [e], by simp [e], by simp [e], by simp [e], by simp [e], by simp [e], by simp [e], by simp [e]⟩, by simp [hgt, e, h2], by simp [e], by simp [e], by simp [e]⟩
  · obtain ⟨h1, h2⟩ := giveS_some hmv
    exact ⟨⟨h64, by simp [e], fun _ => ⟨h1, one hfm⟩, by simp [e], by simp [e], by simp [e], by simp [e], by simp [e], by simp [e], by simp [e]⟩, by simp [hgt, e, h2], by simp [e], by simp [e], by simp [e]⟩
  · obtain ⟨h1, h2⟩ := giveS_some hmv
    exact ⟨⟨h64, by simp [e], fun _ => ⟨h1, one hfm⟩, by simp [e], by simp [e], by simp [e], by simp [e], by simp [e], by simp [e], by simp [e]⟩, by simp [hgt, e, h2], by simp [e], by simp [e], by simp [e]⟩
  · obtain ⟨T, t1, t2⟩ := Option.bind_eq_some_iff.1 hmv
    obtain ⟨h1, h2⟩ := takeS_some t1
    obtain ⟨h3, h4⟩ := giveS_some t2
    exact ⟨⟨h64, by simp [e], by simp [e], fun _ => ⟨h1, arrB_ok hfm⟩, by simp [e], by simp [e], by simp [e], by simp [e], by simp [e], by simp [e]⟩, by simp [hgt, e]; omega, by simp [e], by simp [e], by simp [e]⟩
  · obtain ⟨T, t1, t2⟩ := Option.bind_eq_some_iff.1 hmv
    obtain ⟨h1, h2⟩ := takeS_some t1
    obtain ⟨h3, h4⟩ := giveS_some t2
    exact ⟨⟨h64, by simp [e], by simp [e], fun _ => ⟨h1, arrB_ok hfm⟩, by simp [e], by simp [e], by simp [e], by simp [e], by simp [e], by simp [e]⟩, by simp [hgt, e]; omega, by simp [e], by simp [e], by simp [e]⟩
  · obtain ⟨h1, h2⟩ := takeS_some hmv
    exact ⟨⟨h64, by simp [e], by simp [e], by simp [e], fun _ => ⟨h1, one hfm⟩, by simp [e], by simp [e], by simp [e], by simp [e], by simp [e]⟩, by simp [hgt, e]; omega, by simp [e], by simp [e], by simp [e]⟩
  · obtain ⟨h1, h2⟩ := takeS_some hmv
    exact ⟨⟨h64, by simp [e], by simp [e], by simp [e], by simp [e], fun _ => ⟨h1, arrB_ok hfm⟩, by simp [e], by simp [e], by simp [e], by simp [e]⟩, by simp [hgt, e]; omega, by simp [e], by simp [e], by simp [e]⟩
  · obtain ⟨T, t1, t2⟩ := Option.bind_eq_some_iff.1 hmv
    obtain ⟨h1, h2⟩ := takeS_some t1
    obtain ⟨h3, h4⟩ := giveS_some t2
    by_cases hb : x.b = 6 ∨ x.b = 7
    · rw [if_pos hb] at h1 h2
      exact ⟨⟨h64, by simp [e], by simp [e], by simp [e], by simp [e], by simp [e], fun _ => ⟨fun _ => h1, fun h => absurd hb h⟩, by simp [e], by simp [e], by simp [e]⟩, by simp [hgt, e, hb]; omega, by simp [e], by simp [e], by simp [e]⟩
    · rw [if_neg hb] at h1 h2
      exact ⟨⟨h64, by simp [e], by simp [e], by simp [e], by simp [e], by simp [e], fun _ => ⟨fun h => absurd h hb, fun _ => h1⟩, by simp [e], by simp [e], by simp [e]⟩, by simp [hgt, e, hb]; omega, by simp [e], by simp [e], by simp [e]⟩
  · obtain ⟨h1, h2⟩ := emptyS_some hmv
    exact ⟨⟨h64, by simp [e], by simp [e], by simp [e], by simp [e], by simp [e], by simp [e], by simp [e], by simp [e], by simp [e]⟩, by simp [hgt, e, h1, h2], by simp [e], fun _ => by simp [h2], by simp [e]⟩
  · obtain ⟨T, t1, t2⟩ := Option.bind_eq_some_iff.1 hmv
    obtain ⟨h1, h2⟩ := takeS_some t1
    obtain ⟨h3, h4⟩ := emptyS_some t2
    subst h3
    subst h4
    exact ⟨⟨h64, by simp [e], by simp [e], by simp [e], by simp [e], by simp [e], by simp [e], fun _ => h1, by simp [e], by simp [e]⟩, by simp [hgt, e]; simpa using h2, fun _ => rfl, by simp [e], by simp [e]⟩
  · obtain ⟨h1, h2⟩ := emptyS_some hmv
    exact ⟨⟨h64, by simp [e], by simp [e], by simp [e], by simp [e], by simp [e], by simp [e], by simp [e], by simp [e], by simp [e]⟩, by simp [hgt, e, h1, h2], by simp [e], by simp [e], by simp [e]⟩
  · obtain ⟨h1, h2⟩ := emptyS_some hmv
    have hc := cellB_ok hfm.2
    exact ⟨⟨h64, by simp [e], by simp [e], by simp [e], by simp [e], by simp [e], by simp [e], by simp [e], fun _ => hc, by simp [e]⟩, by simp [hgt, e, h1, h2], by simp [e], by simp [e], by simp [e]⟩
  · obtain ⟨h1, h2⟩ := giveS_some hmv
    have hb := cellB_ok (n := 2) hfm.2
    exact ⟨⟨h64, by simp [e], by simp [e], by simp [e], by simp [e], by simp [e], by simp [e], by simp [e], by simp [e], fun _ => ⟨h1, one hfm.1, ⟨hb.1, by omega⟩, ⟨by omega, by omega⟩⟩⟩, by simp [hgt, e, h2], by simp [e], by simp [e], by simp [e]⟩
  · obtain ⟨h1, h2⟩ := giveS_some hmv
    exact ⟨⟨h64, by simp [e], fun _ => ⟨h1, one hfm⟩, by simp [e], by simp [e], by simp [e], by simp [e], by simp [e], by simp [e], by simp [e]⟩, by simp [hgt, e, h2], by simp [e], by simp [e], by simp [e]⟩
  · obtain ⟨h1, h2⟩ := emptyS_some hmv
    exact ⟨⟨h64, by simp [e], by simp [e], by simp [e], by simp [e], by simp [e], by simp [e], by simp [e], by simp [e], by simp [e]⟩, by simp [hgt, e, h1, h2], by simp [e], by simp [e], by simp [e]⟩
end Go.Am
end
section
namespace Go.Am
open Go Go.Proofs
theorem I64_0 : I64 0 := by unfold I64; omega
theorem I64_1 : I64 1 := by unfold I64; omega
theorem oneZ_I (b : Bool) : I64 (oneZ b) := by unfold oneZ; split; exact I64_1; exact I64_0
theorem fitZ_I (z : Int) : I64 (fitZ z).1 := by
  unfold fitZ
  split
  · rename_i h; exact h
  · exact I64_0
theorem fitR_I {p : Int × Bool} (h : I64 p.1) : I64 (fitR p).1 := by
  unfold fitR
  split
  · exact h
  · exact I64_0
theorem tdiv_I {a b : Int} (ha : I64 a) (hb : b ≠ 0) (h : ¬ (a = -9223372036854775808 ∧ b = -1)) : I64 (a.tdiv b) := by
  have hq := tdiv_abs a b
  unfold I64 at *
  have hdl : a.natAbs / b.natAbs ≤ a.natAbs := Nat.div_le_self _ _
  have hle2 : decide (a < 0) = decide (b < 0) → a.natAbs / b.natAbs ≤ 9223372036854775807 := by
    intro hd
    by_cases ha1 : a = -9223372036854775808
    · have hb2 : 2 ≤ b.natAbs := by
        have : b < 0 := by rw [ha1] at hd; simpa using hd
        omega
      have h3 := Nat.div_le_div_left hb2 (by decide) (a := a.natAbs)
      omega
    · omega
  generalize a.natAbs / b.natAbs = q at *
  split at hq
  · rename_i hd
    have := hle2 hd
    omega
  · omega
theorem tmod_I {a b : Int} (ha : I64 a) (hb : b ≠ 0) : I64 (a.tmod b) := by
  have hq := tmod_abs a b
  unfold I64 at *
  have hml2 : a.natAbs % b.natAbs ≤ a.natAbs := Nat.mod_le _ _
  have hml : a.natAbs % b.natAbs < b.natAbs := Nat.mod_lt _ (by omega)
  generalize a.natAbs % b.natAbs = q at *
  split at hq <;> omega
theorem errR_I {p : Int × Int} (h : I64 p.1) : I64 (errR p).1 := by
  unfold errR
  split
  · exact I64_0
  · split
    · exact h
    · exact I64_0
theorem divZ_I {a b : Int} (ha : I64 a) : I64 (divZ a b).1 := by
  unfold divZ
  split
  · exact I64_0
  · rename_i hb
    split
    · exact I64_0
    · rename_i h; exact tdiv_I ha hb h
theorem modZ_I {a b : Int} (ha : I64 a) : I64 (modZ a b).1 := by
  unfold modZ
  split
  · exact I64_0
  · rename_i hb; exact tmod_I ha hb
theorem op1_I (op a : Int) (t : Bool) : I64 (op1 op a t).1 := by
  unfold op1 noOp
  repeat' split
  all_goals first | exact I64_0 | exact oneZ_I _ | exact fitR_I (fitZ_I _)
theorem opT_I (op a b : Int) : I64 (opT op a b).1 := by
  unfold opT noOp
  repeat' split
  all_goals first | exact I64_0 | exact oneZ_I _
theorem opN_I (op a b : Int) (ha : I64 a) : I64 (opN op a b).1 := by
  have k1 := fitR_I (fitZ_I (a + b))
  have k2 := fitR_I (fitZ_I (a - b))
  have k3 := fitR_I (fitZ_I (a * b))
  have k4 := errR_I (divZ_I (b := b) ha)
  have k5 := errR_I (modZ_I (b := b) ha)
  unfold opN noOp
  by_cases h8 : op = 8
  · rw [if_pos h8]; exact k1
  rw [if_neg h8]
  by_cases h9 : op = 9
  · rw [if_pos h9]; exact k2
  rw [if_neg h9]
  by_cases h10 : op = 10
  · rw [if_pos h10]; exact k3
  rw [if_neg h10]
  by_cases h11 : op = 11
  · rw [if_pos h11]; exact k4
  rw [if_neg h11]
  by_cases h12 : op = 12
  · rw [if_pos h12]; exact k5
  rw [if_neg h12]
  repeat' split
  all_goals first | exact I64_0 | exact oneZ_I _
theorem op2_I (op a b : Int) (t : Bool) (ha : I64 a) : I64 (op2 op a b t).1 := by
  unfold op2
  split
  · split
    · exact I64_0
    · exact opT_I ..
  · exact opN_I _ _ _ ha
theorem upZ_I {e b : Int} (he : I64 e) (hb : I64 b) : I64 (upZ e b) := by unfold upZ I64 at *; split <;> omega
theorem stepB_I (k : Int) (c : List Int) (h : ∀ n ∈ c, I64 n) : ∀ n ∈ stepB k c, I64 n := by
  unfold stepB
  split
  · rename_i a b q
    have ha := h a (by simp)
    have hb := h b (by simp)
    have hq := h q (by simp)
    unfold step3
    repeat' split
    all_goals (simp only [List.forall_mem_cons]; simp [ha, hb, hq, oneZ_I])
  · rename_i a b q e
    have ha := h a (by simp)
    have hb := h b (by simp)
    have hq := h q (by simp)
    have he := h e (by simp)
    have hu := upZ_I he hb
    unfold step4
    repeat' split
    all_goals (simp only [List.forall_mem_cons]; simp [ha, hb, hq, he, hu, oneZ_I, I64_0, I64_1])
  · rename_i a b q e p r
    have ha := h a (by simp)
    have hb := h b (by simp)
    have hq := h q (by simp)
    have he := h e (by simp)
    have hp := h p (by simp)
    have hr := h r (by simp)
    have hu := upZ_I he hb
    have hu0 := upZ_I I64_0 hb
    have w1 : p < 9223372036854775807 → I64 (p + 1) := fun _ => by unfold I64 at *; omega
    have w2 : -9223372036854775808 < p → I64 (p - 1) := fun _ => by unfold I64 at *; omega
    have c1 : I64 (if b ≠ 0 then 0 else if a ≠ 0 ∧ r = 0 ∧ p < 9223372036854775807 then p + 1 else p) := by
      split
      · exact I64_0
      · split
        · rename_i h; exact w1 h.2.2
        · exact hp
    have c2 : I64 (if b ≠ 0 then q else if a ≠ 0 ∧ r = 0 ∧ -9223372036854775808 < p then p - 1 else p) := by
      split
      · exact hq
      · split
        · rename_i h; exact w2 h.2.2
        · exact hp
    have c3 : I64 (if a ≠ 0 ∧ p = 0 ∧ r = 0 then 1 else r) := by split; exact I64_1; exact hr
    have c4 : I64 (if a ≠ 0 ∧ p = 0 ∧ r = 0 then 0 else e) := by split; exact I64_0; exact he
    unfold step6 tpS cuS cdS
    dsimp only
    generalize (if b ≠ 0 then 0 else if a ≠ 0 ∧ r = 0 ∧ p < 9223372036854775807 then p + 1 else p) = v1 at *
    generalize (if b ≠ 0 then q else if a ≠ 0 ∧ r = 0 ∧ -9223372036854775808 < p then p - 1 else p) = v2 at *
    generalize (if a ≠ 0 ∧ p = 0 ∧ r = 0 then (1 : Int) else r) = v3 at *
    generalize (if a ≠ 0 ∧ p = 0 ∧ r = 0 then (0 : Int) else e) = v4 at *
    have hu4 := upZ_I c4 hb
    repeat' split
    all_goals (simp only [List.forall_mem_cons]; simp [ha, hb, hq, he, hp, hr, hu, hu4, c1, c2, c3, c4, oneZ_I, I64_0, I64_1])
  · exact h
theorem atI_I {C : List Int} (h : ∀ n ∈ C, I64 n) (k : Int) : I64 (atI C k) := by
  unfold atI
  cases hk : C[k.toNat]? with
  | none => exact I64_0
  | some v => exact h v (List.mem_of_getElem? hk)
theorem setI_I {C : List Int} (h : ∀ n ∈ C, I64 n) (k : Int) {v : Int} (hv : I64 v) : ∀ n ∈ setI C k v, I64 n := by
  intro n hn
  unfold setI at hn
  rcases List.mem_or_eq_of_mem_set hn with hn | rfl
  · exact h n hn
  · exact hv
theorem top_I {S : List Int} (h : ∀ n ∈ S, I64 n) : I64 (S.getLast?.getD 0) := by
  cases hk : S.getLast? with
  | none => exact I64_0
  | some v => exact h v (List.mem_of_getLast? hk)
theorem pop_I {S : List Int} (h : ∀ n ∈ S, I64 n) : ∀ n ∈ S.dropLast, I64 n := fun n hn => h n (by rw [List.dropLast_eq_take] at hn; exact List.mem_of_mem_take hn)
theorem push_I {S : List Int} (h : ∀ n ∈ S, I64 n) {v : Int} (hv : I64 v) : ∀ n ∈ S ++ [v], I64 n := by
  intro n hn
  rcases List.mem_append.1 hn with hn | hn
  · exact h n hn
  · simp at hn; subst hn; exact hv
theorem blockF_I {C : List Int} (h : ∀ n ∈ C, I64 n) (x : Ins) : ∀ n ∈ blockF x C, I64 n := by
  intro n hn
  unfold blockF at hn
  rcases List.mem_append.1 hn with hn | hn
  · rcases List.mem_append.1 hn with hn | hn
    · exact h n (List.mem_of_mem_take hn)
    · exact stepB_I _ _ (fun m hm => h m (List.mem_of_mem_drop (List.mem_of_mem_take hm))) n hn
  · exact h n (List.mem_of_mem_drop hn)
theorem blockF_len {C : List Int} {x : Ins} (h : x.a.toNat + pinsN x.b ≤ C.length) : (blockF x C).length = C.length := by
  unfold blockF
  simp only [List.length_append, List.length_take, List.length_drop, stepB_len]
  omega
end Go.Am
end
section
namespace Go.Am
open Go Go.Proofs
structure StepFacts (x : Ins) (s t : Ms) : Prop where
  len : t.cells.length = s.cells.length
  cI : ∀ n ∈ t.cells, I64 n
  sI : ∀ n ∈ t.stk, I64 n
  h64 : t.stk.length ≤ 64
  fuel : t.fuel = s.fuel ∨ (x.op = 11 ∧ t.fuel + 1 = s.fuel ∧ s.fuel ≠ 0)
  at_ : t.at_ = s.at_ + 1 ∨ ((x.op = 9 ∨ x.op = 10) ∧ t.at_ = x.a)
  ok : t.fault = 0 → t.stk.length = hgt x s.stk.length ∧ (x.op = 9 → t.at_ = x.a) ∧ (x.op = 11 → t.fuel + 1 = s.fuel)
theorem step_facts {x : Ins} {s : Ms} (hf : Fit x s.cells.length s.stk.length) (hN : NumsOk s) (h0 : s.fault = 0) (hop : 1 ≤ x.op ∧ x.op ≤ 14) (hxn : x.op = 1 → I64 x.n) : StepFacts x s (stepF x s) := by
  obtain ⟨C, S, a, f, x0⟩ := s
  obtain ⟨hC, hS, _, _, _⟩ := hN
  simp only at hf hC hS h0
  subst h0
  have h64 := hf.top
  have oI := oneZ_I
  have aI := fun k => atI_I hC k
  have hc : x.op = 1 ∨ x.op = 2 ∨ x.op = 3 ∨ x.op = 4 ∨ x.op = 5 ∨ x.op = 6 ∨ x.op = 7 ∨ x.op = 8 ∨ x.op = 9 ∨ x.op = 10 ∨ x.op = 11 ∨ x.op = 12 ∨ x.op = 13 ∨ x.op = 14 := by omega
  rcases hc with e | e | e | e | e | e | e | e | e | e | e | e | e | e
  · have := hf.i1 e
    have hst : stepF x ⟨C, S, a, f, 0⟩ = ⟨C, S ++ [x.n], a + 1, f, 0⟩ := by simp [stepF, moveF, e, Ms.push]
    rw [hst]
    exact ⟨rfl, hC, push_I hS (hxn e), by simp; omega, .inl rfl, .inl rfl, fun _ => ⟨by simp [hgt, e], by omega, by omega⟩⟩
  · have := hf.i2 (by omega)
    have hst : stepF x ⟨C, S, a, f, 0⟩ = ⟨C, S ++ [atI C x.a], a + 1, f, 0⟩ := by simp [stepF, moveF, e, Ms.push]
    rw [hst]
    exact ⟨rfl, hC, push_I hS (aI _), by simp; omega, .inl rfl, .inl rfl, fun _ => ⟨by simp [hgt, e], by omega, by omega⟩⟩
  · have := hf.i2 (by omega)
    have hst : stepF x ⟨C, S, a, f, 0⟩ = ⟨C, S ++ [oneZ (decide (atI C x.a ≠ 0))], a + 1, f, 0⟩ := by simp [stepF, moveF, e, Ms.push]
    rw [hst]
    exact ⟨rfl, hC, push_I hS (oI _), by simp; omega, .inl rfl, .inl rfl, fun _ => ⟨by simp [hgt, e], by omega, by omega⟩⟩
  · have := hf.i4 (by omega)
    by_cases hin : inArr x (S.getLast?.getD 0) = true
    · have hst : stepF x ⟨C, S, a, f, 0⟩ = ⟨C, S.dropLast ++ [atI C (x.a + (S.getLast?.getD 0 - x.n))], a + 1, f, 0⟩ := by simp [stepF, moveF, e, Ms.push, Ms.pop, Ms.top, hin]
      rw [hst]
      exact ⟨rfl, hC, push_I (pop_I hS) (aI _), by simp; omega, .inl rfl, .inl rfl, fun _ => ⟨by simp [hgt, e]; omega, by omega, by omega⟩⟩
    · have hst : stepF x ⟨C, S, a, f, 0⟩ = ⟨C, S.dropLast, a + 1, f, 3⟩ := by simp [stepF, moveF, e, Ms.push, Ms.pop, Ms.top, hin]
      rw [hst]
      exact ⟨rfl, hC, pop_I hS, by simp; omega, .inl rfl, .inl rfl, fun h => by simp at h⟩
  · have := hf.i4 (by omega)
    by_cases hin : inArr x (S.getLast?.getD 0) = true
    · have hst : stepF x ⟨C, S, a, f, 0⟩ = ⟨C, S.dropLast ++ [oneZ (decide (atI C (x.a + (S.getLast?.getD 0 - x.n)) ≠ 0))], a + 1, f, 0⟩ := by by_cases hz : atI C (x.a + (S.getLast?.getD 0 - x.n)) = 0 <;> simp [stepF, moveF, e, Ms.push, Ms.pop, Ms.top, hin, hz]
      rw [hst]
      exact ⟨rfl, hC, push_I (pop_I hS) (oI _), by simp; omega, .inl rfl, .inl rfl, fun _ => ⟨by simp [hgt, e]; omega, by omega, by omega⟩⟩
    · have hst : stepF x ⟨C, S, a, f, 0⟩ = ⟨C, S.dropLast, a + 1, f, 3⟩ := by simp [stepF, moveF, e, Ms.push, Ms.pop, Ms.top, hin]
      rw [hst]
      exact ⟨rfl, hC, pop_I hS, by simp; omega, .inl rfl, .inl rfl, fun h => by simp at h⟩
  · have := hf.i6 e
    have hst : stepF x ⟨C, S, a, f, 0⟩ = ⟨setI C x.a (S.getLast?.getD 0), S.dropLast, a + 1, f, 0⟩ := by simp [stepF, moveF, e, Ms.pop, Ms.top]
    rw [hst]
    exact ⟨by simp [setI], setI_I hC _ (top_I hS), pop_I hS, by simp; omega, .inl rfl, .inl rfl, fun _ => ⟨by simp [hgt, e], by omega, by omega⟩⟩
  · have := hf.i7 e
    by_cases hin : inArr x (S.dropLast.getLast?.getD 0) = true
    · have hst : stepF x ⟨C, S, a, f, 0⟩ = ⟨setI C (x.a + (S.dropLast.getLast?.getD 0 - x.n)) (S.getLast?.getD 0), S.dropLast.dropLast, a + 1, f, 0⟩ := by simp [stepF, moveF, e, Ms.push, Ms.pop, Ms.top, hin]
      rw [hst]
      exact ⟨by simp [setI], setI_I hC _ (top_I hS), pop_I (pop_I hS), by simp; omega, .inl rfl, .inl rfl, fun _ => ⟨by simp [hgt, e]; omega, by omega, by omega⟩⟩
    · have hst : stepF x ⟨C, S, a, f, 0⟩ = ⟨C, S.dropLast.dropLast, a + 1, f, 3⟩ := by simp [stepF, moveF, e, Ms.push, Ms.pop, Ms.top, hin]
      rw [hst]
      exact ⟨rfl, hC, pop_I (pop_I hS), by simp; omega, .inl rfl, .inl rfl, fun h => by simp at h⟩
  · obtain ⟨f1, f2⟩ := hf.i8 e
    have hst : stepF x ⟨C, S, a, f, 0⟩ = doF x ⟨C, S, a + 1, f, 0⟩ := by simp [stepF, moveF, ctlF, e]
    rw [hst]
    unfold doF
    by_cases hb : x.b = 6 ∨ x.b = 7
    · have := f1 hb
      rw [if_pos hb]
      have key : ∀ p : Int × Bool × Int, I64 p.1 → StepFacts x ⟨C, S, a, f, 0⟩ (if p.2.2 = 0 then ⟨C, S.dropLast ++ [p.1], a + 1, f, 0⟩ else ⟨C, S.dropLast, a + 1, f, p.2.2⟩) := by
        intro p hI
        by_cases hp : p.2.2 = 0
        · rw [if_pos hp]
          exact ⟨rfl, hC, push_I (pop_I hS) hI, by simp; omega, .inl rfl, .inl rfl, fun _ => ⟨by simp [hgt, e, hb]; omega, by omega, by omega⟩⟩
        · rw [if_neg hp]
          exact ⟨rfl, hC, pop_I hS, by simp; omega, .inl rfl, .inl rfl, fun h => absurd h hp⟩
      exact key _ (op1_I x.b (S.getLast?.getD 0) (decide (x.a = 1)))
    · have := f2 hb
      rw [if_neg hb]
      have key : ∀ p : Int × Bool × Int, I64 p.1 → StepFacts x ⟨C, S, a, f, 0⟩ (if p.2.2 = 0 then ⟨C, S.dropLast.dropLast ++ [p.1], a + 1, f, 0⟩ else ⟨C, S.dropLast.dropLast, a + 1, f, p.2.2⟩) := by
        intro p hI
        by_cases hp : p.2.2 = 0
        · rw [if_pos hp]
          exact ⟨rfl, hC, push_I (pop_I (pop_I hS)) hI, by simp; omega, .inl rfl, .inl rfl, fun _ => ⟨by simp [hgt, e, hb]; omega, by omega, by omega⟩⟩
        · rw [if_neg hp]
          exact ⟨rfl, hC, pop_I (pop_I hS), by simp; omega, .inl rfl, .inl rfl, fun h => absurd h hp⟩
      exact key _ (op2_I x.b (S.dropLast.getLast?.getD 0) (S.getLast?.getD 0) (decide (x.a = 1)) (top_I (pop_I hS)))
  · have hst : stepF x ⟨C, S, a, f, 0⟩ = ⟨C, S, x.a, f, 0⟩ := by simp [stepF, moveF, ctlF, e]
    rw [hst]
    exact ⟨rfl, hC, hS, h64, .inl rfl, .inr ⟨.inl e, rfl⟩, fun _ => ⟨by simp [hgt, e], fun _ => rfl, by omega⟩⟩
  · have := hf.i10 e
    by_cases hz : S.getLast?.getD 0 = 0
    · have hst : stepF x ⟨C, S, a, f, 0⟩ = ⟨C, S.dropLast, x.a, f, 0⟩ := by simp [stepF, moveF, ctlF, e, Ms.top, Ms.pop, hz]
      rw [hst]
      exact ⟨rfl, hC, pop_I hS, by simp; omega, .inl rfl, .inr ⟨.inr e, rfl⟩, fun _ => ⟨by simp [hgt, e], by omega, by omega⟩⟩
    · have hst : stepF x ⟨C, S, a, f, 0⟩ = ⟨C, S.dropLast, a + 1, f, 0⟩ := by simp [stepF, moveF, ctlF, e, Ms.top, Ms.pop, hz]
      rw [hst]
      exact ⟨rfl, hC, pop_I hS, by simp; omega, .inl rfl, .inl rfl, fun _ => ⟨by simp [hgt, e], by omega, by omega⟩⟩
  · by_cases hz : f = 0
    · have hst : stepF x ⟨C, S, a, f, 0⟩ = ⟨C, S, a + 1, f, 4⟩ := by simp [stepF, moveF, ctlF, e, hz]
      rw [hst]
      exact ⟨rfl, hC, hS, h64, .inl rfl, .inl rfl, fun h => by simp at h⟩
    · have hst : stepF x ⟨C, S, a, f, 0⟩ = ⟨C, S, a + 1, f - 1, 0⟩ := by simp [stepF, moveF, ctlF, e, hz]
      rw [hst]
      exact ⟨rfl, hC, hS, h64, .inr ⟨e, by simp, hz⟩, .inl rfl, fun _ => ⟨by simp [hgt, e], by omega, fun _ => by simp⟩⟩
  · have := hf.i12 e
    have hst : stepF x ⟨C, S, a, f, 0⟩ = ⟨blockF x C, S, a + 1, f, 0⟩ := by simp [stepF, moveF, ctlF, e]
    rw [hst]
    exact ⟨blockF_len this.2, blockF_I hC x, hS, h64, .inl rfl, .inl rfl, fun _ => ⟨by simp [hgt, e], by omega, by omega⟩⟩
  · have := hf.i13 e
    have hst : stepF x ⟨C, S, a, f, 0⟩ = ⟨C, S ++ [oneZ (upToS C x)], a + 1, f, 0⟩ := by simp [stepF, moveF, ctlF, e, Ms.push]
    rw [hst]
    exact ⟨rfl, hC, push_I hS (oI _), by simp; omega, .inl rfl, .inl rfl, fun _ => ⟨by simp [hgt, e], by omega, by omega⟩⟩
  · have := hf.i2 (by omega)
    have hst : stepF x ⟨C, S, a, f, 0⟩ = ⟨C, S ++ [oneZ (decide (x.n ≤ atI C x.a ∧ atI C x.a ≤ x.m))], a + 1, f, 0⟩ := by simp [stepF, moveF, ctlF, e, Ms.push]
    rw [hst]
    exact ⟨rfl, hC, push_I hS (oI _), by simp; omega, .inl rfl, .inl rfl, fun _ => ⟨by simp [hgt, e], by omega, by omega⟩⟩
/-- Numbers in code have room. -/
def InsOk (l : List Ins) : Prop := ∀ x ∈ l, I64 x.n
theorem step_inv {l : List Ins} {r : Nat → Nat} {st : Nat → List Bool} {n : Nat} {s : Ms} {x : Ins} (hg : Good pinsN n l r st) (hl : InsOk l) (hv : VInv l st n s) (h0 : s.fault = 0) (hx : l[s.at_.toNat]? = some x) (h15 : x.op ≠ 15) :
    Fit x s.cells.length s.stk.length ∧ (1 ≤ x.op ∧ x.op ≤ 14) ∧ VInv l st n (stepF x s) ∧ ((stepF x s).fault = 0 → (stepF x s).fuel + 1 = s.fuel ∨ ((stepF x s).fuel = s.fuel ∧ r (stepF x s).at_.toNat < r s.at_.toNat)) := by
  obtain ⟨hh1, hh2⟩ := hv.here h0
  have hp := hv.nums.place
  have hlen := hg.len
  obtain ⟨hfit, hS', hs10, hs9, hop⟩ := fit_of (S' := st (s.at_.toNat + 1)) (hg.form _ x hx) (hg.mv _ x hx) (by rw [← hh2]; exact hv.h64)
  rw [← hh2] at hfit hS'
  have hfit' : Fit x s.cells.length s.stk.length := by rw [hv.len]; exact hfit
  have hop' : 1 ≤ x.op ∧ x.op ≤ 14 := by omega
  have hF := step_facts hfit' hv.nums h0 hop' (fun _ => hl x (List.mem_of_getElem? hx))
  have hnl : s.at_.toNat + 1 < l.length := by
    have : ¬ s.at_.toNat + 1 = l.length := fun h => h15 ((hg.fifteen hx).2 h)
    omega
  have hja : (x.op = 9 ∨ x.op = 10) → 0 ≤ x.a ∧ x.a.toNat < l.length := fun hj => hg.tgt hx hj
  have hat : 0 ≤ (stepF x s).at_ ∧ (stepF x s).at_.toNat < l.length := by
    rcases hF.at_ with h | ⟨h1, h2⟩
    · rw [h]; omega
    · rw [h2]; exact hja h1
  have hnext : (stepF x s).at_.toNat ∈ nextI l s.at_.toNat ∨ (stepF x s).fault ≠ 0 := by
    by_cases hfz : (stepF x s).fault = 0
    · left
      unfold nextI
      rw [hx]
      simp only
      by_cases e9 : x.op = 9
      · rw [if_pos e9, (hF.ok hfz).2.1 e9]; simp
      · rw [if_neg e9]
        by_cases e10 : x.op = 10
        · rw [if_pos e10]
          rcases hF.at_ with h | ⟨_, h2⟩
          · rw [h]; simp; left; omega
          · rw [h2]; simp
        · rw [if_neg e10, if_neg h15]
          rcases hF.at_ with h | ⟨h1, _⟩
          · rw [h]; simp; omega
          · omega
    · exact .inr hfz
  refine ⟨hfit', hop', ⟨⟨hF.cI, hF.sI, by rw [hF.len]; exact hv.nums.few, ?_, by omega⟩, by rw [hF.len]; exact hv.len, hF.h64, fun hfz => ⟨hat.2, ?_⟩⟩, fun hfz => ?_⟩
  · have := hv.nums.fuel
    rcases hF.fuel with h | ⟨_, h, h2⟩ <;> omega
  · obtain ⟨k1, k2, k3⟩ := hF.ok hfz
    rw [k1]
    by_cases hj : x.op = 9 ∨ x.op = 10
    · have hled := hg.led _ x hx hj
      rcases hF.at_ with h | ⟨_, h⟩
      · rw [h, ← hS']
        congr 2
        omega
      · rw [h, hled]
        rcases hj with e | e
        · rw [← hS', hs9 e]; rfl
        · rw [← hS', hs10 e]; rfl
    · rcases hF.at_ with h | ⟨h1, _⟩
      · rw [h, ← hS']
        congr 2
        omega
      · exact absurd h1 hj
  · by_cases e11 : x.op = 11
    · exact .inl ((hF.ok hfz).2.2 e11)
    · right
      refine ⟨?_, ?_⟩
      · rcases hF.fuel with h | ⟨h, _⟩
        · exact h
        · exact absurd h e11
      · rcases hnext with h | h
        · exact hg.rank _ x hx e11 _ h
        · exact absurd hfz h
theorem runs_ex {l : List Ins} {r : Nat → Nat} {st : Nat → List Bool} {n : Nat} (hg : Good pinsN n l r st) (hl : InsOk l) : ∀ (f k : Nat) (s : Ms), VInv l st n s → s.fuel = (f : Int) → r s.at_.toNat ≤ k → ∃ t, RunsF l s t ∧ VInv l st n t := by
  intro f
  induction f with
  | zero =>
    intro k
    induction k with
    | zero =>
      intro s hv hf hr
      by_cases h0 : s.fault = 0
      · obtain ⟨x, hx⟩ : ∃ x, l[s.at_.toNat]? = some x := ⟨_, List.getElem?_eq_getElem (hv.here h0).1⟩
        by_cases h15 : x.op = 15
        · exact ⟨s, .fin s x h0 hx h15, hv⟩
        · obtain ⟨_, _, hv', hd⟩ := step_inv hg hl hv h0 hx h15
          by_cases hfz : (stepF x s).fault = 0
          · have := hd hfz
            have := hv'.nums.fuel
            omega
          · exact ⟨_, .step s x _ h0 hx h15 (.fault _ hfz), hv'⟩
      · exact ⟨s, .fault s h0, hv⟩
    | succ k ih =>
      intro s hv hf hr
      by_cases h0 : s.fault = 0
      · obtain ⟨x, hx⟩ : ∃ x, l[s.at_.toNat]? = some x := ⟨_, List.getElem?_eq_getElem (hv.here h0).1⟩
        by_cases h15 : x.op = 15
        · exact ⟨s, .fin s x h0 hx h15, hv⟩
        · obtain ⟨_, _, hv', hd⟩ := step_inv hg hl hv h0 hx h15
          by_cases hfz : (stepF x s).fault = 0
          · have hd := hd hfz
            have := hv'.nums.fuel
            obtain ⟨t, h1, h2⟩ := ih (stepF x s) hv' (by omega) (by omega)
            exact ⟨t, .step s x _ h0 hx h15 h1, h2⟩
          · exact ⟨_, .step s x _ h0 hx h15 (.fault _ hfz), hv'⟩
      · exact ⟨s, .fault s h0, hv⟩
  | succ f ihf =>
    intro k
    induction k with
    | zero =>
      intro s hv hf hr
      by_cases h0 : s.fault = 0
      · obtain ⟨x, hx⟩ : ∃ x, l[s.at_.toNat]? = some x := ⟨_, List.getElem?_eq_getElem (hv.here h0).1⟩
        by_cases h15 : x.op = 15
        · exact ⟨s, .fin s x h0 hx h15, hv⟩
        · obtain ⟨_, _, hv', hd⟩ := step_inv hg hl hv h0 hx h15
          by_cases hfz : (stepF x s).fault = 0
          · have hd := hd hfz
            obtain ⟨t, h1, h2⟩ := ihf (r (stepF x s).at_.toNat) (stepF x s) hv' (by omega) (Nat.le_refl _)
            exact ⟨t, .step s x _ h0 hx h15 h1, h2⟩
          · exact ⟨_, .step s x _ h0 hx h15 (.fault _ hfz), hv'⟩
      · exact ⟨s, .fault s h0, hv⟩
    | succ k ih =>
      intro s hv hf hr
      by_cases h0 : s.fault = 0
      · obtain ⟨x, hx⟩ : ∃ x, l[s.at_.toNat]? = some x := ⟨_, List.getElem?_eq_getElem (hv.here h0).1⟩
        by_cases h15 : x.op = 15
        · exact ⟨s, .fin s x h0 hx h15, hv⟩
        · obtain ⟨_, _, hv', hd⟩ := step_inv hg hl hv h0 hx h15
          by_cases hfz : (stepF x s).fault = 0
          · rcases hd hfz with hd | ⟨hd1, hd2⟩
            · obtain ⟨t, h1, h2⟩ := ihf (r (stepF x s).at_.toNat) (stepF x s) hv' (by omega) (Nat.le_refl _)
              exact ⟨t, .step s x _ h0 hx h15 h1, h2⟩
            · obtain ⟨t, h1, h2⟩ := ih (stepF x s) hv' (by omega) (by omega)
              exact ⟨t, .step s x _ h0 hx h15 h1, h2⟩
          · exact ⟨_, .step s x _ h0 hx h15 (.fault _ hfz), hv'⟩
      · exact ⟨s, .fault s h0, hv⟩
end Go.Am
end
section
namespace Go.Am
open Go Go.Proofs
set_option maxRecDepth 20000
theorem rpins10 : retLen (callN ctx 120 42 [.d (.int .i64 10)] []) = some 4 := by kernel_rfl
theorem rpins11 : retLen (callN ctx 120 42 [.d (.int .i64 11)] []) = some 4 := by kernel_rfl
theorem rpins12 : retLen (callN ctx 120 42 [.d (.int .i64 12)] []) = some 6 := by kernel_rfl
theorem rpins13 : retLen (callN ctx 120 42 [.d (.int .i64 13)] []) = some 6 := by kernel_rfl
theorem rpins14 : retLen (callN ctx 120 42 [.d (.int .i64 14)] []) = some 6 := by kernel_rfl
theorem rpins15 : retLen (callN ctx 120 42 [.d (.int .i64 15)] []) = some 3 := by kernel_rfl
theorem rpins16 : retLen (callN ctx 120 42 [.d (.int .i64 16)] []) = some 3 := by kernel_rfl
theorem rpins17 : retLen (callN ctx 120 42 [.d (.int .i64 17)] []) = some 3 := by kernel_rfl
theorem rpins18 : retLen (callN ctx 120 42 [.d (.int .i64 18)] []) = some 3 := by kernel_rfl
theorem rpins19 : retLen (callN ctx 120 42 [.d (.int .i64 19)] []) = some 0 := by kernel_rfl
theorem rpins20 : retLen (callN ctx 120 42 [.d (.int .i64 20)] []) = some 4 := by kernel_rfl
theorem rpins21 : retLen (callN ctx 120 42 [.d (.int .i64 21)] []) = some 9 := by kernel_rfl
theorem rpins22 : retLen (callN ctx 120 42 [.d (.int .i64 22)] []) = some 9 := by kernel_rfl
theorem rpins23 : retLen (callN ctx 120 42 [.d (.int .i64 23)] []) = some 9 := by kernel_rfl
theorem rpins24 : retLen (callN ctx 120 42 [.d (.int .i64 24)] []) = some 12 := by kernel_rfl
theorem rpins25 : retLen (callN ctx 120 42 [.d (.int .i64 25)] []) = some 12 := by kernel_rfl
theorem rpins26 : retLen (callN ctx 120 42 [.d (.int .i64 26)] []) = some 12 := by kernel_rfl
theorem rpins27 : retLen (callN ctx 120 42 [.d (.int .i64 27)] []) = some 10 := by kernel_rfl
theorem rpins28 : retLen (callN ctx 120 42 [.d (.int .i64 28)] []) = some 12 := by kernel_rfl
theorem rpins29 : retLen (callN ctx 120 42 [.d (.int .i64 29)] []) = some 5 := by kernel_rfl
theorem rpins30 : retLen (callN ctx 120 42 [.d (.int .i64 30)] []) = some 6 := by kernel_rfl
theorem rpins31 : retLen (callN ctx 120 42 [.d (.int .i64 31)] []) = some 4 := by kernel_rfl
theorem rpins_ok : PinsOk 42 pinsN := by
  intro b
  by_cases h1 : b < 10
  · refine ⟨[], ?_, ?_, ?_⟩
    · rw [run42 (by simp)]
      simp [Tryd.f42, h1]
    · unfold pinsN; repeat' (rw [if_neg (by omega)])
      rfl
    · unfold pinsN; repeat' (rw [if_neg (by omega)])
      omega
  by_cases h2 : 31 < b
  · refine ⟨[], ?_, ?_, ?_⟩
    · rw [run42 (by simp)]
      simp [Tryd.f42, h1, h2]
    · unfold pinsN; repeat' (rw [if_neg (by omega)])
      rfl
    · unfold pinsN; repeat' (rw [if_neg (by omega)])
      omega
  have h : b = 10 ∨ b = 11 ∨ b = 12 ∨ b = 13 ∨ b = 14 ∨ b = 15 ∨ b = 16 ∨ b = 17 ∨ b = 18 ∨ b = 19 ∨ b = 20 ∨ b = 21 ∨ b = 22 ∨ b = 23 ∨ b = 24 ∨ b = 25 ∨ b = 26 ∨ b = 27 ∨ b = 28 ∨ b = 29 ∨ b = 30 ∨ b = 31 := by omega
  rcases h with rfl | rfl | rfl | rfl | rfl | rfl | rfl | rfl | rfl | rfl | rfl | rfl | rfl | rfl | rfl | rfl | rfl | rfl | rfl | rfl | rfl | rfl
  · obtain ⟨l, h1, h2⟩ := pins_of rpins10; exact ⟨l, h1, by rw [h2]; rfl, by decide⟩
  · obtain ⟨l, h1, h2⟩ := pins_of rpins11; exact ⟨l, h1, by rw [h2]; rfl, by decide⟩
  · obtain ⟨l, h1, h2⟩ := pins_of rpins12; exact ⟨l, h1, by rw [h2]; rfl, by decide⟩
  · obtain ⟨l, h1, h2⟩ := pins_of rpins13; exact ⟨l, h1, by rw [h2]; rfl, by decide⟩
  · obtain ⟨l, h1, h2⟩ := pins_of rpins14; exact ⟨l, h1, by rw [h2]; rfl, by decide⟩
  · obtain ⟨l, h1, h2⟩ := pins_of rpins15; exact ⟨l, h1, by rw [h2]; rfl, by decide⟩
  · obtain ⟨l, h1, h2⟩ := pins_of rpins16; exact ⟨l, h1, by rw [h2]; rfl, by decide⟩
  · obtain ⟨l, h1, h2⟩ := pins_of rpins17; exact ⟨l, h1, by rw [h2]; rfl, by decide⟩
  · obtain ⟨l, h1, h2⟩ := pins_of rpins18; exact ⟨l, h1, by rw [h2]; rfl, by decide⟩
  · obtain ⟨l, h1, h2⟩ := pins_of rpins19; exact ⟨l, h1, by rw [h2]; rfl, by decide⟩
  · obtain ⟨l, h1, h2⟩ := pins_of rpins20; exact ⟨l, h1, by rw [h2]; rfl, by decide⟩
  · obtain ⟨l, h1, h2⟩ := pins_of rpins21; exact ⟨l, h1, by rw [h2]; rfl, by decide⟩
  · obtain ⟨l, h1, h2⟩ := pins_of rpins22; exact ⟨l, h1, by rw [h2]; rfl, by decide⟩
  · obtain ⟨l, h1, h2⟩ := pins_of rpins23; exact ⟨l, h1, by rw [h2]; rfl, by decide⟩
  · obtain ⟨l, h1, h2⟩ := pins_of rpins24; exact ⟨l, h1, by rw [h2]; rfl, by decide⟩
  · obtain ⟨l, h1, h2⟩ := pins_of rpins25; exact ⟨l, h1, by rw [h2]; rfl, by decide⟩
  · obtain ⟨l, h1, h2⟩ := pins_of rpins26; exact ⟨l, h1, by rw [h2]; rfl, by decide⟩
  · obtain ⟨l, h1, h2⟩ := pins_of rpins27; exact ⟨l, h1, by rw [h2]; rfl, by decide⟩
  · obtain ⟨l, h1, h2⟩ := pins_of rpins28; exact ⟨l, h1, by rw [h2]; rfl, by decide⟩
  · obtain ⟨l, h1, h2⟩ := pins_of rpins29; exact ⟨l, h1, by rw [h2]; rfl, by decide⟩
  · obtain ⟨l, h1, h2⟩ := pins_of rpins30; exact ⟨l, h1, by rw [h2]; rfl, by decide⟩
  · obtain ⟨l, h1, h2⟩ := pins_of rpins31; exact ⟨l, h1, by rw [h2]; rfl, by decide⟩
end Go.Am
end
section
namespace Go.Am
open Go Go.Proofs
set_option maxRecDepth 20000
theorem rg3 : List.range' 0 3 = [0, 1, 2] := rfl
theorem rg4 : List.range' 0 4 = [0, 1, 2, 3] := rfl
theorem rg6 : List.range' 0 6 = [0, 1, 2, 3, 4, 5] := rfl
theorem rnum_run (b : Bool) : callT ctx 68 [.d (.bool b)] [] = some (.ret (.d (.int .i64 (oneZ b))), []) := by
  rw [run68 (by simp)]
  cases b <;> simp [Tryd.f68, oneZ]
theorem rup_run (e b : Int) (he : I64 e) (hb : I64 b) : callT ctx 67 [.d (.int .i64 e), .d (.int .i64 b)] [] = some (.ret (.d (.int .i64 (upZ e b))), []) := by
  rw [run67 (by simp)]
  unfold upZ
  by_cases h : e < b
  · have w : IntKind.i64.wrap (e + 1) = e + 1 := wrap_id (by unfold I64 at *; omega)
    simp [Tryd.f67, h, w]
  · simp [Tryd.f67, h]
set_option maxHeartbeats 4000000 in
theorem rstep_other (k : Int) (c : List Int) (hc : c.length = pinsN k) (hk : k < 10 ∨ 18 < k) : callT ctx 47 [.d (.int .i64 k), .d (.list (c.map jD))] [] = some (.ret (.d (.list (c.map jD))), []) := by
  obtain ⟨pl, hp1, hp2, hp3⟩ := rpins_ok k
  have hlen : (pl.length : Int) = c.length := by omega
  have h2 : c.length * 8 ≤ 140737488355328 := by omega
  have h3 : c.length ≤ 4611686018427387904 := by omega
  have ht : (c.map jD).take c.length = c.map jD := List.take_of_length_le (by simp)
  rw [run47 (by simp)]
  try simp at hp1
  simp [Tryd.f47, hp1, hlen, h2, h3, ht, show ¬ k = 10 by omega, show ¬ k = 11 by omega, show ¬ k = 12 by omega, show ¬ k = 13 by omega, show ¬ k = 14 by omega, show ¬ k = 15 by omega, show ¬ k = 16 by omega, show ¬ k = 17 by omega, show ¬ k = 18 by omega, drwK_end]
set_option maxHeartbeats 4000000 in
theorem rstep_run (k : Int) (c : List Int) (hc : c.length = pinsN k) (hI : ∀ x ∈ c, I64 x) : callT ctx 47 [.d (.int .i64 k), .d (.list (c.map jD))] [] = some (.ret (.d (.list ((stepB k c).map jD))), []) := by
  by_cases hk : k < 10 ∨ 18 < k
  · rw [stepB_other hk]; exact rstep_other k c hc hk
  · have hk' : k = 10 ∨ k = 11 ∨ k = 12 ∨ k = 13 ∨ k = 14 ∨ k = 15 ∨ k = 16 ∨ k = 17 ∨ k = 18 := by omega
    clear hk
    obtain ⟨pl, hp1, hp2, hp3⟩ := rpins_ok k
    have hlen : (pl.length : Int) = c.length := by omega
    have ht := rnum_run
    rw [run47 (by simp)]
    have pin : (k = 10 ∨ k = 11 → pinsN k = 4) ∧ (k = 12 ∨ k = 13 ∨ k = 14 → pinsN k = 6) ∧ (k = 15 ∨ k = 16 ∨ k = 17 ∨ k = 18 → pinsN k = 3) := by
      refine ⟨?_, ?_, ?_⟩
      · rintro (rfl | rfl) <;> rfl
      · rintro (rfl | rfl | rfl) <;> rfl
      · rintro (rfl | rfl | rfl | rfl) <;> rfl
    obtain ⟨p4, p6, p3⟩ := pin
    rcases hk' with h | h | h | h | h | h | h | h | h
    · obtain ⟨a, b, q, e, rfl⟩ := len4 (hc.trans (p4 (by omega)))
      have hu := rup_run e b (hI _ (by simp)) (hI _ (by simp))
      subst h
      simp at hp1 hlen
      clear hI hc p3 p4 p6 hp2 hp3
      rcases Decidable.em (a = 0) with rfl | ha <;> simp [Tryd.f47, stepB, step4, drwK_end, bne, rg3, rg4, rg6, *]
    · obtain ⟨a, b, q, e, rfl⟩ := len4 (hc.trans (p4 (by omega)))
      have hu := rup_run e b (hI _ (by simp)) (hI _ (by simp))
      subst h
      simp at hp1 hlen
      clear hI hc p3 p4 p6 hp2 hp3
      rcases Decidable.em (a = 0) with rfl | ha <;> rcases Decidable.em (q = 0) with rfl | hq <;> simp [Tryd.f47, stepB, step4, drwK_end, bne, rg3, rg4, rg6, *]
    · obtain ⟨a, b, q, e, p, r, rfl⟩ := len6 (hc.trans (p6 (by omega)))
      have he : I64 e := hI _ (by simp)
      have hb : I64 b := hI _ (by simp)
      unfold I64 at he hb
      have w : e < b → IntKind.i64.wrap (e + 1) = e + 1 := fun h => wrap_id (by unfold I64; omega)
      subst h
      simp at hp1 hlen
      clear hI hc p3 p4 p6 hp2 hp3
      rcases Decidable.em (a = 0) with rfl | ha
      · rcases Decidable.em (r = 0) with rfl | hr
        · simp [Tryd.f47, stepB, step6, tpS, drwK_end, bne, rg3, rg4, rg6, hp1, hlen, ht]
        · rcases Decidable.em (e < b) with hlt | hlt
          · have w := w hlt
            simp [Tryd.f47, stepB, step6, tpS, upZ, oneZ, drwK_end, bne, rg3, rg4, rg6, hp1, hlen, ht, hr, hlt, w]
          · simp [Tryd.f47, stepB, step6, tpS, upZ, oneZ, drwK_end, bne, rg3, rg4, rg6, hp1, hlen, ht, hr, hlt]
      · rcases Decidable.em (r = 0) with rfl | hr
        · rcases Decidable.em (p = 0) with rfl | hp
          · rcases Decidable.em (0 < b) with hlt | hlt <;> simp [Tryd.f47, stepB, step6, tpS, upZ, oneZ, drwK_end, bne, rg3, rg4, rg6, hp1, hlen, ht, ha, hlt]
          · simp [Tryd.f47, stepB, step6, tpS, drwK_end, bne, rg3, rg4, rg6, hp1, hlen, ht, ha, hp]
        · rcases Decidable.em (e < b) with hlt | hlt
          · have w := w hlt
            rcases Decidable.em (p = 0) with rfl | hp <;> simp [Tryd.f47, stepB, step6, tpS, upZ, oneZ, drwK_end, bne, rg3, rg4, rg6, hp1, hlen, ht, ha, hr, hlt, w, *]
          · rcases Decidable.em (p = 0) with rfl | hp <;> simp [Tryd.f47, stepB, step6, tpS, upZ, oneZ, drwK_end, bne, rg3, rg4, rg6, hp1, hlen, ht, ha, hr, hlt, *]
    · obtain ⟨a, b, q, e, p, r, rfl⟩ := len6 (hc.trans (p6 (by omega)))
      have he : I64 p := hI _ (by simp)
      unfold I64 at he
      have w : ¬ p = 9223372036854775807 → IntKind.i64.wrap (p + 1) = p + 1 ∧ p < 9223372036854775807 := fun h => ⟨wrap_id (by unfold I64; omega), by omega⟩
      subst h
      simp at hp1 hlen
      clear hI hc p3 p4 p6 hp2 hp3 he
      rcases Decidable.em (b = 0) with rfl | hb
      · rcases Decidable.em (a = 0) with rfl | ha
        · simp [Tryd.f47, stepB, step6, cuS, drwK_end, bne, rg3, rg4, rg6, hp1, hlen, ht]
        · rcases Decidable.em (r = 0) with rfl | hr
          · rcases Decidable.em (p = 9223372036854775807) with rfl | hm
            · simp [Tryd.f47, stepB, step6, cuS, drwK_end, bne, rg3, rg4, rg6, hp1, hlen, ht, ha]
            · obtain ⟨w, w2⟩ := w hm
              simp [Tryd.f47, stepB, step6, cuS, drwK_end, bne, rg3, rg4, rg6, hp1, hlen, ht, ha, hm, w, w2]
          · simp [Tryd.f47, stepB, step6, cuS, drwK_end, bne, rg3, rg4, rg6, hp1, hlen, ht, ha, hr]
      · rcases Decidable.em (a = 0) with rfl | ha <;> simp [Tryd.f47, stepB, step6, cuS, drwK_end, bne, rg3, rg4, rg6, hp1, hlen, ht, hb, *]
    · obtain ⟨a, b, q, e, p, r, rfl⟩ := len6 (hc.trans (p6 (by omega)))
      have he : I64 p := hI _ (by simp)
      unfold I64 at he
      have w : ¬ p = -9223372036854775808 → IntKind.i64.wrap (p - 1) = p - 1 ∧ -9223372036854775808 < p := fun h => ⟨wrap_id (by unfold I64; omega), by omega⟩
      subst h
      simp at hp1 hlen
      clear hI hc p3 p4 p6 hp2 hp3 he
      rcases Decidable.em (b = 0) with rfl | hb
      · rcases Decidable.em (a = 0) with rfl | ha
        · simp [Tryd.f47, stepB, step6, cdS, drwK_end, bne, rg3, rg4, rg6, hp1, hlen, ht]
        · rcases Decidable.em (r = 0) with rfl | hr
          · rcases Decidable.em (p = -9223372036854775808) with rfl | hm
            · simp [Tryd.f47, stepB, step6, cdS, drwK_end, bne, rg3, rg4, rg6, hp1, hlen, ht, ha]
            · obtain ⟨w, w2⟩ := w hm
              simp [Tryd.f47, stepB, step6, cdS, drwK_end, bne, rg3, rg4, rg6, hp1, hlen, ht, ha, hm, w, w2]
          · simp [Tryd.f47, stepB, step6, cdS, drwK_end, bne, rg3, rg4, rg6, hp1, hlen, ht, ha, hr]
      · rcases Decidable.em (a = 0) with rfl | ha <;> simp [Tryd.f47, stepB, step6, cdS, drwK_end, bne, rg3, rg4, rg6, hp1, hlen, ht, hb, *]
    · obtain ⟨a, b, q, rfl⟩ := len3 (hc.trans (p3 (by omega)))
      subst h
      simp at hp1 hlen
      clear hI hc p3 p4 p6 hp2 hp3
      rcases Decidable.em (a = 0) with rfl | ha <;> rcases Decidable.em (q = 0) with rfl | hq <;> simp [Tryd.f47, stepB, step3, drwK_end, bne, rg3, rg4, rg6, *]
    · obtain ⟨a, b, q, rfl⟩ := len3 (hc.trans (p3 (by omega)))
      subst h
      simp at hp1 hlen
      clear hI hc p3 p4 p6 hp2 hp3
      rcases Decidable.em (a = 0) with rfl | ha <;> rcases Decidable.em (q = 0) with rfl | hq <;> simp [Tryd.f47, stepB, step3, drwK_end, bne, rg3, rg4, rg6, *]
    · obtain ⟨a, b, q, rfl⟩ := len3 (hc.trans (p3 (by omega)))
      subst h
      simp at hp1 hlen
      clear hI hc p3 p4 p6 hp2 hp3
      rcases Decidable.em (a = 0) with rfl | ha <;> rcases Decidable.em (q = 0) with rfl | hq <;> rcases Decidable.em (b = 0) with rfl | hb <;> simp [Tryd.f47, stepB, step3, drwK_end, bne, rg3, rg4, rg6, *]
    · obtain ⟨a, b, q, rfl⟩ := len3 (hc.trans (p3 (by omega)))
      subst h
      simp at hp1 hlen
      clear hI hc p3 p4 p6 hp2 hp3
      rcases Decidable.em (a = 0) with rfl | ha <;> rcases Decidable.em (q = 0) with rfl | hq <;> rcases Decidable.em (b = 0) with rfl | hb <;> simp [Tryd.f47, stepB, step3, drwK_end, bne, rg3, rg4, rg6, *]
end Go.Am
end
section
namespace Go.Am
open Go Go.Proofs
set_option maxRecDepth 20000
def uD (n : Nat) : D := .int .u64 (n : Int)
/-- A size in its parts, and its sign. -/
def wdD (m : Nat) (s : Bool) : D := .agg [.int .u64 (q0 m : Nat), .int .u64 (q1 m : Nat), .int .u64 (q2 m : Nat), .int .u64 (q3 m : Nat), .bool s]
theorem ucast (a b : Nat) : (a : Int) + (b : Int) = ((a + b : Nat) : Int) := (Int.natCast_add a b).symm
theorem umul (a b : Nat) : (a : Int) * (b : Int) = ((a * b : Nat) : Int) := (Int.natCast_mul a b).symm
theorem uwr (a : Nat) (h : a < 18446744073709551616) : IntKind.u64.wrap (a : Int) = (a : Int) := by rw [IntKind.wrap_u64]; omega
theorem utd (a : Nat) : (a : Int).tdiv 4294967296 = ((a / 4294967296 : Nat) : Int) := by rw [Int.tdiv_eq_ediv_of_nonneg (by omega)]; omega
theorem utm (a : Nat) : (a : Int).tmod 4294967296 = ((a % 4294967296 : Nat) : Int) := by rw [Int.tmod_eq_emod_of_nonneg (by omega)]; omega
theorem sum_run (m n : Nat) (s s2 : Bool) (h : m + n < 340282366920938463463374607431768211456) : callT ctx 100 [.d (wdD m s), .d (wdD n s2)] [] = some (.ret (.d (wdD (m + n) s)), []) := by
  obtain ⟨e0, e1, e2, e3⟩ := dsum m n h
  obtain ⟨a0, a1, a2, a3⟩ := q_lt m
  obtain ⟨b0, b1, b2, b3⟩ := q_lt n
  unfold wdD
  rw [← e0, ← e1, ← e2, ← e3]
  generalize q0 m = m0 at *
  generalize q1 m = m1 at *
  generalize q2 m = m2 at *
  generalize q3 m = m3 at *
  generalize q0 n = n0 at *
  generalize q1 n = n1 at *
  generalize q2 n = n2 at *
  generalize q3 n = n3 at *
  clear e0 e1 e2 e3
  have x0 : IntKind.u64.wrap ((m0 : Int) + n0) = ((m0 + n0 : Nat) : Int) := by rw [ucast, uwr _ (by omega)]
  generalize hx0 : m0 + n0 = y0 at *
  have z0 : IntKind.u64.wrap (y0 : Int) = y0 := uwr _ (by omega)
  have x1 : IntKind.u64.wrap ((m1 : Int) + n1) = ((m1 + n1 : Nat) : Int) := by rw [ucast, uwr _ (by omega)]
  have x1' : IntKind.u64.wrap (((m1 + n1 : Nat) : Int) + ((y0 / 4294967296 : Nat) : Int)) = ((m1 + n1 + y0 / 4294967296 : Nat) : Int) := by rw [ucast, uwr _ (by omega)]
  generalize hx1 : m1 + n1 = k1 at *
  generalize hc1 : y0 / 4294967296 = c1 at *
  have x2 : IntKind.u64.wrap ((m2 : Int) + n2) = ((m2 + n2 : Nat) : Int) := by rw [ucast, uwr _ (by omega)]
  generalize hy1 : k1 + c1 = y1 at *
  have x2' : IntKind.u64.wrap (((m2 + n2 : Nat) : Int) + ((y1 / 4294967296 : Nat) : Int)) = ((m2 + n2 + y1 / 4294967296 : Nat) : Int) := by rw [ucast, uwr _ (by omega)]
  generalize hx2 : m2 + n2 = k2 at *
  generalize hc2 : y1 / 4294967296 = c2 at *
  have x3 : IntKind.u64.wrap ((m3 : Int) + n3) = ((m3 + n3 : Nat) : Int) := by rw [ucast, uwr _ (by omega)]
  generalize hy2 : k2 + c2 = y2 at *
  have x3' : IntKind.u64.wrap (((m3 + n3 : Nat) : Int) + ((y2 / 4294967296 : Nat) : Int)) = ((m3 + n3 + y2 / 4294967296 : Nat) : Int) := by rw [ucast, uwr _ (by omega)]
  generalize hx3 : m3 + n3 = k3 at *
  generalize hc3 : y2 / 4294967296 = c3 at *
  generalize hy3 : k3 + c3 = y3 at *
  have d0 := utd y0
  have d1 := utd y1
  have d2 := utd y2
  have d3 := utd y3
  have r0 := utm y0
  have r1 := utm y1
  have r2 := utm y2
  have r3 := utm y3
  have w0 : IntKind.u64.wrap ((y0 / 4294967296 : Nat) : Int) = ((y0 / 4294967296 : Nat) : Int) := uwr _ (by omega)
  have w1 : IntKind.u64.wrap ((y1 / 4294967296 : Nat) : Int) = ((y1 / 4294967296 : Nat) : Int) := uwr _ (by omega)
  have w2 : IntKind.u64.wrap ((y2 / 4294967296 : Nat) : Int) = ((y2 / 4294967296 : Nat) : Int) := uwr _ (by omega)
  have w3 : IntKind.u64.wrap ((y3 / 4294967296 : Nat) : Int) = ((y3 / 4294967296 : Nat) : Int) := uwr _ (by omega)
  rw [hc1] at d0 w0
  rw [hc2] at d1 w1
  rw [hc3] at d2 w2
  generalize y3 / 4294967296 = c4 at *
  generalize y0 % 4294967296 = g0 at *
  generalize y1 % 4294967296 = g1 at *
  generalize y2 % 4294967296 = g2 at *
  generalize y3 % 4294967296 = g3 at *
  rw [run100 (by simp)]
  simp [Tryd.f100]
  rw [denK_loop]
  simp [x0, z0, d0, r0, w0, drwK_end]
  rw [denK_loop]
  simp [x1, x1', d1, r1, w1, drwK_end]
  rw [denK_loop]
  simp [x2, x2', d2, r2, w2, drwK_end]
  rw [denK_loop]
  simp [x3, x3', d3, r3, w3, drwK_end]
  rw [denK_loop]
  simp
def cmpZ (m n : Nat) : Int := if m < n then -1 else if n < m then 1 else 0
theorem cmp_run (m n : Nat) (s s2 : Bool) (hm : m < 340282366920938463463374607431768211456) (hn : n < 340282366920938463463374607431768211456) : callT ctx 101 [.d (wdD m s), .d (wdD n s2)] [] = some (.ret (.d (.int .i64 (cmpZ m n))), []) := by
  have h1 := dcmp m n hm hn
  have h2 := dcmp n m hn hm
  unfold wdD cmpZ
  rw [run101 (by simp)]
  generalize q0 m = m0 at *
  generalize q1 m = m1 at *
  generalize q2 m = m2 at *
  generalize q3 m = m3 at *
  generalize q0 n = n0 at *
  generalize q1 n = n1 at *
  generalize q2 n = n2 at *
  generalize q3 n = n3 at *
  simp [Tryd.f101]
  rw [denK_loop]
  rcases Nat.lt_trichotomy m3 n3 with c | c | c
  · have a1 : m < n := by omega
    simp [c, a1, drwK_end]
  · subst c
    simp [drwK_end]
    rw [denK_loop]
    rcases Nat.lt_trichotomy m2 n2 with c | c | c
    · have a1 : m < n := by omega
      simp [c, a1, drwK_end]
    · subst c
      simp [drwK_end]
      rw [denK_loop]
      rcases Nat.lt_trichotomy m1 n1 with c | c | c
      · have a1 : m < n := by omega
        simp [c, a1, drwK_end]
      · subst c
        simp [drwK_end]
        rw [denK_loop]
        rcases Nat.lt_trichotomy m0 n0 with c | c | c
        · have a1 : m < n := by omega
          simp [c, a1, drwK_end]
        · subst c
          have a1 : ¬ m < n := by omega
          have a2 : ¬ n < m := by omega
          simp [drwK_end]
          rw [denK_loop]
          simp [a1, a2]
        · have a1 : ¬ m < n := by omega
          have a2 : n < m := by omega
          have c2 : ¬ m0 < n0 := by omega
          simp [c, c2, a1, a2, drwK_end]
      · have a1 : ¬ m < n := by omega
        have a2 : n < m := by omega
        have c2 : ¬ m1 < n1 := by omega
        simp [c, c2, a1, a2, drwK_end]
    · have a1 : ¬ m < n := by omega
      have a2 : n < m := by omega
      have c2 : ¬ m2 < n2 := by omega
      simp [c, c2, a1, a2, drwK_end]
  · have a1 : ¬ m < n := by omega
    have a2 : n < m := by omega
    have c2 : ¬ m3 < n3 := by omega
    simp [c, c2, a1, a2, drwK_end]
theorem less_run (m n : Nat) (s s2 : Bool) (hm : m < 340282366920938463463374607431768211456) (h : n ≤ m) : callT ctx 102 [.d (wdD m s), .d (wdD n s2)] [] = some (.ret (.d (wdD (m - n) s)), []) := by
  obtain ⟨e0, e1, e2, e3⟩ := dless m n _ _ _ _ hm h rfl rfl rfl rfl
  obtain ⟨a0, a1, a2, a3⟩ := q_lt m
  obtain ⟨b0, b1, b2, b3⟩ := q_lt n
  unfold wdD
  rw [← e0, ← e1, ← e2, ← e3]
  generalize q0 m = m0 at *
  generalize q1 m = m1 at *
  generalize q2 m = m2 at *
  generalize q3 m = m3 at *
  generalize q0 n = n0 at *
  generalize q1 n = n1 at *
  generalize q2 n = n2 at *
  generalize q3 n = n3 at *
  clear e0 e1 e2 e3
  have key : ∀ (a b c x : Nat), a < 4294967296 → b < 4294967296 → c ≤ 1 → a + 4294967296 - b - c = x →
      IntKind.u64.wrap ((a : Int) + 4294967296) = ((a + 4294967296 : Nat) : Int) ∧ IntKind.u64.wrap (((a + 4294967296 : Nat) : Int) - (b : Int)) = ((a + 4294967296 - b : Nat) : Int) ∧
      IntKind.u64.wrap (((a + 4294967296 - b : Nat) : Int) - (c : Int)) = (x : Int) ∧ IntKind.u64.wrap ((x / 4294967296 : Nat) : Int) = ((x / 4294967296 : Nat) : Int) ∧ IntKind.u64.wrap (1 - ((x / 4294967296 : Nat) : Int)) = ((1 - x / 4294967296 : Nat) : Int) ∧ 1 - x / 4294967296 ≤ 1 := by
    intro a b c x h1 h2 h3 h4
    have hx : x / 4294967296 ≤ 1 := by omega
    refine ⟨?_, ?_, ?_, uwr _ (by omega), ?_, by omega⟩ <;> rw [IntKind.wrap_u64] <;> omega
  obtain ⟨p0, p1, p2, p3, p4, p5⟩ := key m0 n0 0 (m0 + 4294967296 - n0) a0 b0 (by omega) (by omega)
  generalize hx0 : m0 + 4294967296 - n0 = x0 at *
  generalize hc0 : 1 - x0 / 4294967296 = c0 at *
  obtain ⟨s0, s1, s2', s3, s4, s5⟩ := key m1 n1 c0 (m1 + 4294967296 - n1 - c0) a1 b1 p5 (by omega)
  generalize hx1 : m1 + 4294967296 - n1 - c0 = x1 at *
  generalize hc1 : 1 - x1 / 4294967296 = c1 at *
  obtain ⟨t0, t1, t2, t3, t4, t5⟩ := key m2 n2 c1 (m2 + 4294967296 - n2 - c1) a2 b2 s5 (by omega)
  generalize hx2 : m2 + 4294967296 - n2 - c1 = x2 at *
  generalize hc2 : 1 - x2 / 4294967296 = c2 at *
  obtain ⟨v0, v1, v2, v3, v4, v5⟩ := key m3 n3 c2 (m3 + 4294967296 - n3 - c2) a3 b3 t5 (by omega)
  generalize hx3 : m3 + 4294967296 - n3 - c2 = x3 at *
  generalize hc3 : 1 - x3 / 4294967296 = c3 at *
  have d0 := utd x0
  have d1 := utd x1
  have d2 := utd x2
  have d3 := utd x3
  have r0 := utm x0
  have r1 := utm x1
  have r2 := utm x2
  have r3 := utm x3
  generalize x0 / 4294967296 = k0 at *
  generalize x1 / 4294967296 = k1 at *
  generalize x2 / 4294967296 = k2 at *
  generalize x3 / 4294967296 = k3 at *
  generalize x0 % 4294967296 = g0 at *
  generalize x1 % 4294967296 = g1 at *
  generalize x2 % 4294967296 = g2 at *
  generalize x3 % 4294967296 = g3 at *
  generalize m0 + 4294967296 = y0 at *
  generalize m1 + 4294967296 = y1 at *
  generalize m2 + 4294967296 = y2 at *
  generalize m3 + 4294967296 = y3 at *
  generalize y1 - n1 = z1 at *
  generalize y2 - n2 = z2 at *
  generalize y3 - n3 = z3 at *
  clear key hx0 hc0 hx1 hc1 hx2 hc2 hx3 hc3
  simp at p2
  rw [run102 (by simp)]
  simp [Tryd.f102]
  rw [denK_loop]
  simp [p0, p1, p2, p3, p4, d0, r0, drwK_end]
  rw [denK_loop]
  simp [s0, s1, s2', s3, s4, d1, r1, drwK_end]
  rw [denK_loop]
  simp [t0, t1, t2, t3, t4, d2, r2, drwK_end]
  rw [denK_loop]
  simp [v0, v1, v2, v3, v4, d3, r3, drwK_end]
  rw [denK_loop]
  simp
end Go.Am
end
section
namespace Go.Am
open Go Go.Proofs
set_option maxRecDepth 20000
def sgZ (m : Nat) (s : Bool) : Int := if s = true then -(m : Int) else m
theorem q_small {m : Nat} (h : m < 18446744073709551616) : q0 m = m % 4294967296 ∧ q1 m = m / 4294967296 ∧ q2 m = 0 ∧ q3 m = 0 := by unfold q0 q1 q2 q3; omega
theorem of_run (a : Int) (ha : I64 a) : callT ctx 87 [.d (.int .i64 a)] [] = some (.ret (.d (wdD a.natAbs (decide (a < 0)))), []) := by
  unfold I64 at ha
  have hs : a.natAbs < 18446744073709551616 := by omega
  obtain ⟨e0, e1, e2, e3⟩ := q_small hs
  unfold wdD
  rw [e0, e1, e2, e3]
  have h1 := IntKind.wrap_u64 a
  have td := utd a.natAbs
  have tm := utm a.natAbs
  have wd : IntKind.u64.wrap ((a.natAbs / 4294967296 : Nat) : Int) = ((a.natAbs / 4294967296 : Nat) : Int) := uwr _ (by omega)
  rw [run87 (by simp)]
  by_cases h : a < 0
  · have h2 : IntKind.u64.wrap (-IntKind.u64.wrap a) = (a.natAbs : Nat) := by rw [h1, IntKind.wrap_u64]; omega
    generalize a.natAbs = x at *
    generalize x / 4294967296 = xd at *
    generalize x % 4294967296 = xm at *
    simp [Tryd.f87, h, h2, td, tm, wd, drwK_end]
  · have h2 : IntKind.u64.wrap a = (a.natAbs : Nat) := by rw [h1]; omega
    generalize a.natAbs = x at *
    generalize x / 4294967296 = xd at *
    generalize x % 4294967296 = xm at *
    simp [Tryd.f87, h, h2, td, tm, wd, drwK_end]
theorem turned_run (m : Nat) (s : Bool) : callT ctx 88 [.d (wdD m s)] [] = some (.ret (.d (wdD m (!s))), []) := by
  rw [run88 (by simp)]
  unfold wdD
  simp [Tryd.f88, drwK_end]
def plusM (m n : Nat) (s s2 : Bool) : Nat := if s = s2 then m + n else if n ≤ m then m - n else n - m
def plusS (m n : Nat) (s s2 : Bool) : Bool := if s = s2 then s else if n ≤ m then s else s2
theorem plus_run (m n : Nat) (s s2 : Bool) (h : m + n < 340282366920938463463374607431768211456) : callT ctx 86 [.d (wdD m s), .d (wdD n s2)] [] = some (.ret (.d (wdD (plusM m n s s2) (plusS m n s s2))), []) := by
  have h1 := sum_run m n s s2 h
  have h2 := cmp_run m n s s2 (by omega) (by omega)
  have h3 := fun h' => less_run m n s s2 (by omega) h'
  have h4 := fun h' => less_run n m s2 s (by omega) h'
  rw [run86 (by simp)]
  unfold plusM plusS
  unfold wdD at *
  by_cases hs : s = s2
  · subst hs
    simp [Tryd.f86, h1, drwK_end]
  · by_cases hle : n ≤ m
    · have h3 := h3 hle
      have hc : 0 ≤ cmpZ m n := by unfold cmpZ; rw [if_neg (by omega)]; split <;> omega
      have hs' : ¬ (s == s2) = true := by simpa using hs
      simp only [if_neg hs, if_pos hle]
      simp [Tryd.f86, h2, h3, hs, hc, drwK_end]
    · have h4 := h4 (by omega)
      have hc : ¬ 0 ≤ cmpZ m n := by unfold cmpZ; rw [if_pos (by omega)]; omega
      simp only [if_neg hs, if_neg hle]
      simp [Tryd.f86, h2, h4, hs, hc, drwK_end]
theorem room_run (m : Nat) (s : Bool) (hm : m < 340282366920938463463374607431768211456) : callT ctx 85 [.d (wdD m s)] [] = some (.ret (okZ (fitZ (sgZ m s))), []) := by
  rw [run85 (by simp)]
  have hq := q_eq hm
  obtain ⟨a0, a1, a2, a3⟩ := q_lt m
  unfold wdD fitZ sgZ
  generalize q0 m = m0 at *
  generalize q1 m = m1 at *
  generalize q2 m = m2 at *
  generalize q3 m = m3 at *
  by_cases h2 : m2 = 0
  · by_cases h3 : m3 = 0
    · have hx : (m1 * 4294967296 + m0 : Nat) = m := by omega
      have w1 : IntKind.u64.wrap ((m1 : Int) * 4294967296) = ((m1 * 4294967296 : Nat) : Int) := by rw [IntKind.wrap_u64]; omega
      have w2 : IntKind.u64.wrap (((m1 * 4294967296 : Nat) : Int) + (m0 : Int)) = (m : Int) := by rw [IntKind.wrap_u64]; omega
      have w3 := IntKind.wrap_i64 (m : Int)
      have w4 := IntKind.wrap_i64 (-IntKind.i64.wrap (m : Int))
      simp at w1 w2
      by_cases hlt : m < 9223372036854775808
      · have b1 : (m : Int) < 9223372036854775808 := by omega
        have b2 : (m : Int) ≤ 9223372036854775807 := by omega
        have b3 : -9223372036854775808 ≤ (m : Int) := by omega
        have b4 : -9223372036854775808 ≤ -(m : Int) := by omega
        have b5 : -(m : Int) ≤ 9223372036854775807 := by omega
        have k1 : IntKind.i64.wrap (m : Int) = m := by rw [w3]; omega
        have k2 : IntKind.i64.wrap (-(m : Int)) = -(m : Int) := by rw [IntKind.wrap_i64]; omega
        cases s <;> simp [Tryd.f85, h2, h3, w1, w2, b1, b2, b3, b4, b5, k1, k2]
      · have b1 : ¬ (m : Int) < 9223372036854775808 := by omega
        have b2 : ¬ (m : Int) ≤ 9223372036854775807 := by omega
        cases s
        · simp [Tryd.f85, h2, h3, w1, w2, b1, b2]
        · by_cases he : m = 9223372036854775808
          · subst he
            simp [Tryd.f85, h2, h3, w1, w2, b1, b2]
          · have c1 : ¬ (m : Int) = 9223372036854775808 := by omega
            have c2 : ¬ -9223372036854775808 ≤ -(m : Int) := by omega
            simp [Tryd.f85, h2, h3, w1, w2, b1, b2, c1, c2]
    · have b2 : ¬ (m : Int) ≤ 9223372036854775807 := by omega
      have c2 : ¬ -9223372036854775808 ≤ -(m : Int) := by omega
      cases s <;> simp [Tryd.f85, h2, h3, b2, c2]
  · have b2 : ¬ (m : Int) ≤ 9223372036854775807 := by omega
    have c2 : ¬ -9223372036854775808 ≤ -(m : Int) := by omega
    cases s <;> simp [Tryd.f85, h2, b2, c2]
theorem plus_val (m n : Nat) (s s2 : Bool) : sgZ (plusM m n s s2) (plusS m n s s2) = sgZ m s + sgZ n s2 := by
  unfold plusM plusS sgZ
  cases s <;> cases s2 <;> by_cases h : n ≤ m <;> simp [h] <;> omega
theorem sgZ_abs (a : Int) : sgZ a.natAbs (decide (a < 0)) = a := by unfold sgZ; by_cases h : a < 0 <;> simp [h] <;> omega
theorem rAdd_run (a b : Int) (ha : I64 a) (hb : I64 b) : callT ctx 63 [.d (.int .i64 a), .d (.int .i64 b)] [] = some (.ret (okZ (fitZ (a + b))), []) := by
  have h1 := of_run a ha
  have h2 := of_run b hb
  unfold I64 at ha hb
  have h3 := plus_run a.natAbs b.natAbs (decide (a < 0)) (decide (b < 0)) (by omega)
  have hv := plus_val a.natAbs b.natAbs (decide (a < 0)) (decide (b < 0))
  rw [sgZ_abs, sgZ_abs] at hv
  have hlt : plusM a.natAbs b.natAbs (decide (a < 0)) (decide (b < 0)) < 340282366920938463463374607431768211456 := by unfold plusM; split <;> (try split) <;> omega
  have h4 := room_run _ (plusS a.natAbs b.natAbs (decide (a < 0)) (decide (b < 0))) hlt
  rw [hv] at h4
  rw [run63 (by simp)]
  generalize wdD (plusM a.natAbs b.natAbs (decide (a < 0)) (decide (b < 0))) (plusS a.natAbs b.natAbs (decide (a < 0)) (decide (b < 0))) = z at *
  generalize fitZ (a + b) = p at *
  unfold wdD at *
  simp at h3 h4
  simp [Tryd.f63, h1, h2, h3, h4, drwK_end]
theorem rSub_run (a b : Int) (ha : I64 a) (hb : I64 b) : callT ctx 62 [.d (.int .i64 a), .d (.int .i64 b)] [] = some (.ret (okZ (fitZ (a - b))), []) := by
  have h1 := of_run a ha
  have h2 := of_run b hb
  unfold I64 at ha hb
  have h2' := turned_run b.natAbs (decide (b < 0))
  have h3 := plus_run a.natAbs b.natAbs (decide (a < 0)) (!decide (b < 0)) (by omega)
  have hv := plus_val a.natAbs b.natAbs (decide (a < 0)) (!decide (b < 0))
  have hb2 : sgZ b.natAbs (!decide (b < 0)) = -b := by unfold sgZ; by_cases h : b < 0 <;> simp [h] <;> omega
  rw [sgZ_abs, hb2, ← Int.sub_eq_add_neg] at hv
  have hlt : plusM a.natAbs b.natAbs (decide (a < 0)) (!decide (b < 0)) < 340282366920938463463374607431768211456 := by unfold plusM; split <;> (try split) <;> omega
  have h4 := room_run _ (plusS a.natAbs b.natAbs (decide (a < 0)) (!decide (b < 0))) hlt
  rw [hv] at h4
  rw [run62 (by simp)]
  generalize wdD (plusM a.natAbs b.natAbs (decide (a < 0)) (!decide (b < 0))) (plusS a.natAbs b.natAbs (decide (a < 0)) (!decide (b < 0))) = z at *
  generalize wdD b.natAbs (!decide (b < 0)) = z2 at *
  generalize fitZ (a - b) = p at *
  unfold wdD at *
  simp at h3 h4
  simp [Tryd.f62, h1, h2, h2', h3, h4, drwK_end]
end Go.Am
end
section
namespace Go.Am
open Go Go.Proofs
set_option maxRecDepth 20000
theorem wd_0 (p : Nat) (s : Bool) (h : p < 18446744073709551616) : wdD p s = .agg [.int .u64 (p % 4294967296 : Nat), .int .u64 (p / 4294967296 : Nat), .int .u64 0, .int .u64 0, .bool s] := by
  unfold wdD; obtain ⟨e0, e1, e2, e3⟩ := q_small h; rw [e0, e1, e2, e3]; rfl
theorem wd_1 (p : Nat) (s : Bool) (h : p < 18446744073709551616) : wdD (4294967296 * p) s = .agg [.int .u64 0, .int .u64 (p % 4294967296 : Nat), .int .u64 (p / 4294967296 : Nat), .int .u64 0, .bool s] := by
  obtain ⟨e0, e1, e2, e3⟩ := q_of (a := 0) (b := p % 4294967296) (c := p / 4294967296) (d := 0) (by omega) (by omega) (by omega) (by omega) (m := 4294967296 * p) (by omega)
  unfold wdD; rw [e0, e1, e2, e3]; rfl
theorem wd_2 (p : Nat) (s : Bool) (h : p < 18446744073709551616) : wdD (18446744073709551616 * p) s = .agg [.int .u64 0, .int .u64 0, .int .u64 (p % 4294967296 : Nat), .int .u64 (p / 4294967296 : Nat), .bool s] := by
  obtain ⟨e0, e1, e2, e3⟩ := q_of (a := 0) (b := 0) (c := p % 4294967296) (d := p / 4294967296) (by omega) (by omega) (by omega) (by omega) (m := 18446744073709551616 * p) (by omega)
  unfold wdD; rw [e0, e1, e2, e3]; rfl
theorem wd_z : wdD 0 false = .agg [.int .u64 0, .int .u64 0, .int .u64 0, .int .u64 0, .bool false] := rfl
theorem half_lt {a b : Nat} (ha : a < 4294967296) (hb : b < 4294967296) : a * b ≤ 18446744065119617025 := Nat.mul_le_mul (by omega : a ≤ 4294967295) (by omega : b ≤ 4294967295)
theorem times_run (m n : Nat) (s s2 : Bool) (hm : m < 18446744073709551616) (hn : n < 18446744073709551616) : callT ctx 89 [.d (wdD m s), .d (wdD n s2)] [] = some (.ret (.d (wdD (m * n) (s != s2))), []) := by
  obtain ⟨a0, a1, a2, a3⟩ := q_lt m
  obtain ⟨b0, b1, b2, b3⟩ := q_lt n
  have hmq : m = q0 m + 4294967296 * q1 m := by unfold q0 q1; omega
  have hnq : n = q0 n + 4294967296 * q1 n := by unfold q0 q1; omega
  have hp : m * n = q0 m * q0 n + 4294967296 * (q0 m * q1 n) + 4294967296 * (q1 m * q0 n) + 18446744073709551616 * (q1 m * q1 n) := by
    have := Lib.split_mul (q1 m) (q0 m) (q1 n) (q0 n) 4294967296
    rw [Nat.mul_comm (q1 m) 4294967296, Nat.mul_comm (q1 n) 4294967296, Nat.add_comm (4294967296 * q1 m), Nat.add_comm (4294967296 * q1 n), ← hmq, ← hnq] at this
    rw [this]; omega
  have c00 := half_lt a0 b0
  have c01 := half_lt a0 b1
  have c10 := half_lt a1 b0
  have c11 := half_lt a1 b1
  have u00 : IntKind.u64.wrap ((q0 m : Int) * (q0 n : Int)) = ((q0 m * q0 n : Nat) : Int) := by rw [umul, uwr _ (by omega)]
  have u01 : IntKind.u64.wrap ((q0 m : Int) * (q1 n : Int)) = ((q0 m * q1 n : Nat) : Int) := by rw [umul, uwr _ (by omega)]
  have u10 : IntKind.u64.wrap ((q1 m : Int) * (q0 n : Int)) = ((q1 m * q0 n : Nat) : Int) := by rw [umul, uwr _ (by omega)]
  have u11 : IntKind.u64.wrap ((q1 m : Int) * (q1 n : Int)) = ((q1 m * q1 n : Nat) : Int) := by rw [umul, uwr _ (by omega)]
  rw [hp]
  unfold wdD
  generalize q0 m * q0 n = p00 at *
  generalize q0 m * q1 n = p01 at *
  generalize q1 m * q0 n = p10 at *
  generalize q1 m * q1 n = p11 at *
  clear hp hmq hnq
  have s1 := sum_run 0 p00 false false (by omega)
  have s2' := sum_run (0 + p00) (4294967296 * p01) false false (by omega)
  have s3 := sum_run (0 + p00 + 4294967296 * p01) (4294967296 * p10) false false (by omega)
  have s4 := sum_run (0 + p00 + 4294967296 * p01 + 4294967296 * p10) (18446744073709551616 * p11) false false (by omega)
  rw [wd_z, wd_0 p00 _ (by omega)] at s1
  rw [wd_1 p01 _ (by omega)] at s2'
  rw [wd_1 p10 _ (by omega)] at s3
  rw [wd_2 p11 _ (by omega)] at s4
  have d00 := utd p00
  have d01 := utd p01
  have d10 := utd p10
  have d11 := utd p11
  have t00 := utm p00
  have t01 := utm p01
  have t10 := utm p10
  have t11 := utm p11
  have w00 : IntKind.u64.wrap ((p00 / 4294967296 : Nat) : Int) = ((p00 / 4294967296 : Nat) : Int) := uwr _ (by omega)
  have w01 : IntKind.u64.wrap ((p01 / 4294967296 : Nat) : Int) = ((p01 / 4294967296 : Nat) : Int) := uwr _ (by omega)
  have w10 : IntKind.u64.wrap ((p10 / 4294967296 : Nat) : Int) = ((p10 / 4294967296 : Nat) : Int) := uwr _ (by omega)
  have w11 : IntKind.u64.wrap ((p11 / 4294967296 : Nat) : Int) = ((p11 / 4294967296 : Nat) : Int) := uwr _ (by omega)
  generalize ho1 : 0 + p00 = o1 at *
  generalize ho2 : o1 + 4294967296 * p01 = o2 at *
  generalize ho3 : o2 + 4294967296 * p10 = o3 at *
  generalize ho4 : o3 + 18446744073709551616 * p11 = o4 at *
  have e4 : p00 + 4294967296 * p01 + 4294967296 * p10 + 18446744073709551616 * p11 = o4 := by omega
  rw [e4]
  unfold wdD at *
  generalize p00 / 4294967296 = k00 at *
  generalize p01 / 4294967296 = k01 at *
  generalize p10 / 4294967296 = k10 at *
  generalize p11 / 4294967296 = k11 at *
  generalize p00 % 4294967296 = g00 at *
  generalize p01 % 4294967296 = g01 at *
  generalize p10 % 4294967296 = g10 at *
  generalize p11 % 4294967296 = g11 at *
  rw [run89 (by simp)]
  simp [Tryd.f89]
  rw [denK_loop]
  simp
  rw [denK_loop]
  simp [u00, d00, t00, w00, s1, drwK_end]
  rw [denK_loop]
  simp [u01, d01, t01, w01, s2', drwK_end]
  rw [denK_loop]
  simp
  rw [denK_loop]
  simp
  rw [denK_loop]
  simp [u10, d10, t10, w10, s3, drwK_end]
  rw [denK_loop]
  simp [u11, d11, t11, w11, s4, drwK_end]
  rw [denK_loop]
  simp
  rw [denK_loop]
  simp [drwK_end]
end Go.Am
end
section
namespace Go.Am
open Go Go.Proofs
set_option maxRecDepth 20000
/-- A bit of a size. -/
def bitN (m i : Nat) : Nat := m / 2 ^ i % 2
theorem bit_le (m i : Nat) : bitN m i ≤ 1 := by unfold bitN; omega
theorem bit_step (m i : Nat) : m / 2 ^ i = 2 * (m / 2 ^ (i + 1)) + bitN m i := by
  unfold bitN
  rw [Nat.pow_succ, ← Nat.div_div_eq_div_mul]
  omega
theorem div_bit (m k r : Nat) (hr : r < 32) : m / 2 ^ (32 * k) % 4294967296 / 2 ^ r % 2 = bitN m (32 * k + r) := by
  unfold bitN
  rw [Nat.pow_add, ← Nat.div_div_eq_div_mul]
  generalize m / 2 ^ (32 * k) = x
  have e : (4294967296 : Nat) = 2 ^ r * 2 ^ (32 - r) := by rw [← Nat.pow_add, show r + (32 - r) = 32 by omega]
  rw [e, Nat.mod_mul_right_div_self]
  have e2 : 2 ^ (32 - r) = 2 * 2 ^ (31 - r) := by rw [← Nat.pow_succ']; congr 1; omega
  rw [e2, Nat.mod_mul_right_mod]
theorem bit_0 (m r : Nat) (hr : r < 32) : q0 m / 2 ^ r % 2 = bitN m r := by have := div_bit m 0 r hr; simpa [q0] using this
theorem bit_1 (m r : Nat) (hr : r < 32) : q1 m / 2 ^ r % 2 = bitN m (32 + r) := by have := div_bit m 1 r hr; simpa [q1] using this
theorem bit_2 (m r : Nat) (hr : r < 32) : q2 m / 2 ^ r % 2 = bitN m (64 + r) := by have := div_bit m 2 r hr; simpa [q2] using this
theorem bit_3 (m r : Nat) (hr : r < 32) : q3 m / 2 ^ r % 2 = bitN m (96 + r) := by have := div_bit m 3 r hr; simpa [q3] using this
theorem q_even (x : Nat) : q0 (2 * x + 1) = q0 (2 * x) + 1 ∧ q1 (2 * x + 1) = q1 (2 * x) ∧ q2 (2 * x + 1) = q2 (2 * x) ∧ q3 (2 * x + 1) = q3 (2 * x) := by unfold q0 q1 q2 q3; omega
set_option maxHeartbeats 4000000 in
theorem by_loop (m n : Nat) (s s2 : Bool) (hn : 0 < n) (hn2 : n < 18446744073709551616) (hm : m < 340282366920938463463374607431768211456) (k : Kt) (R : Ans)
    (hx : k (.exit 0) ⟨52, gl0, [(2, true, .ptr 200 1 0), (3, true, .ptr 250 1 0), (4, true, .ptr 300 1 0), (5, true, .ptr 350 1 0), (6, true, .ptr 400 1 0), (7, true, .ptr 450 1 0), (8, true, .d (.int .i64 (-1))), (10, true, .d (.bool false))],
      [⟨200, 1, .box [.d (.int .u64 (q0 m : Nat)), .d (.int .u64 (q1 m : Nat)), .d (.int .u64 (q2 m : Nat)), .d (.int .u64 (q3 m : Nat)), .d (.bool s)]⟩, ⟨250, 1, .box [.d (.int .u64 (q0 n : Nat)), .d (.int .u64 (q1 n : Nat)), .d (.int .u64 (q2 n : Nat)), .d (.int .u64 (q3 n : Nat)), .d (.bool s2)]⟩,
       ⟨300, 1, .box [.d (.int .u64 0), .d (.int .u64 0), .d (.int .u64 0), .d (.int .u64 0), .d (.bool false)]⟩, ⟨350, 1, .box [.d (.int .u64 0), .d (.int .u64 0), .d (.int .u64 0), .d (.int .u64 0), .d (.bool false)]⟩,
       ⟨400, 1, .box [.d (.int .u64 (q0 (m / n) : Nat)), .d (.int .u64 (q1 (m / n) : Nat)), .d (.int .u64 (q2 (m / n) : Nat)), .d (.int .u64 (q3 (m / n) : Nat)), .d (.bool false)]⟩,
       ⟨450, 1, .box [.d (.int .u64 (q0 (m % n) : Nat)), .d (.int .u64 (q1 (m % n) : Nat)), .d (.int .u64 (q2 (m % n) : Nat)), .d (.int .u64 (q3 (m % n) : Nat)), .d (.bool false)]⟩]⟩ = R) :
    ∀ (j : Nat), j ≤ 128 → ∀ (Y Q T : Nat), Y = m / 2 ^ j → Q = Y / n → T = Y % n →
    denK ctx 90 (.loop (Code.at (codeOf Tryd.f90) [1, 1, 0, 1, 0, 0])) ⟨52, gl0, [(2, true, .ptr 200 1 0), (3, true, .ptr 250 1 0), (4, true, .ptr 300 1 0), (5, true, .ptr 350 1 0), (6, true, .ptr 400 1 0), (7, true, .ptr 450 1 0), (8, true, .d (.int .i64 ((j : Int) - 1)))],
      [⟨200, 1, .box [.d (.int .u64 (q0 m : Nat)), .d (.int .u64 (q1 m : Nat)), .d (.int .u64 (q2 m : Nat)), .d (.int .u64 (q3 m : Nat)), .d (.bool s)]⟩, ⟨250, 1, .box [.d (.int .u64 (q0 n : Nat)), .d (.int .u64 (q1 n : Nat)), .d (.int .u64 (q2 n : Nat)), .d (.int .u64 (q3 n : Nat)), .d (.bool s2)]⟩,
       ⟨300, 1, .box [.d (.int .u64 0), .d (.int .u64 0), .d (.int .u64 0), .d (.int .u64 0), .d (.bool false)]⟩, ⟨350, 1, .box [.d (.int .u64 0), .d (.int .u64 0), .d (.int .u64 0), .d (.int .u64 0), .d (.bool false)]⟩,
       ⟨400, 1, .box [.d (.int .u64 (q0 Q : Nat)), .d (.int .u64 (q1 Q : Nat)), .d (.int .u64 (q2 Q : Nat)), .d (.int .u64 (q3 Q : Nat)), .d (.bool false)]⟩,
       ⟨450, 1, .box [.d (.int .u64 (q0 T : Nat)), .d (.int .u64 (q1 T : Nat)), .d (.int .u64 (q2 T : Nat)), .d (.int .u64 (q3 T : Nat)), .d (.bool false)]⟩]⟩ k = R
  | 0, _, Y, Q, T, hY, hQ, hT => by
    simp at hY
    subst hY; subst hQ; subst hT
    rw [denK_loop]
    simp [Tryd.f90, hx]
  | i + 1, hj, Y, Q, T, hY, hQ, hT => by
    have ih := fun Q' T' => by_loop m n s s2 hn hn2 hm k R hx i (by omega) (2 * Y + bitN m i) Q' T' (by rw [hY]; exact (bit_step m i).symm)
    obtain ⟨hq, ht⟩ := half (Y := Y) hn (bit_le m i)
    have hTn : T < n := by rw [hT]; exact Nat.mod_lt _ hn
    have hYm : Y < 340282366920938463463374607431768211456 / 2 := by
      rw [hY, Nat.pow_succ, ← Nat.div_div_eq_div_mul]
      have := Nat.div_le_self m (2 ^ i)
      omega
    have hQY : Q ≤ Y := by rw [hQ]; exact Nat.div_le_self _ _
    have ih := ih _ _ hq.symm ht.symm
    rw [← hQ, ← hT] at ih
    have hS := sum_run T T false false (by omega)
    have hS2 := sum_run Q Q false false (by omega)
    rw [show T + T = 2 * T by omega] at hS
    rw [show Q + Q = 2 * Q by omega] at hS2
    have hb := bit_le m i
    have hC := cmp_run (2 * T + bitN m i) n false s2 (by omega) (by omega)
    have hL := fun h => less_run (2 * T + bitN m i) n false s2 (by omega) h
    have lT := (q_lt (2 * T)).1
    have lQ := (q_lt (2 * Q)).1
    have wT : IntKind.u64.wrap ((q0 (2 * T) : Int) + 1) = ((q0 (2 * T) + 1 : Nat) : Int) := by rw [show (q0 (2 * T) : Int) + 1 = ((q0 (2 * T) + 1 : Nat) : Int) by omega, uwr _ (by omega)]
    have wQ : IntKind.u64.wrap ((q0 (2 * Q) : Int) + 1) = ((q0 (2 * Q) + 1 : Nat) : Int) := by rw [show (q0 (2 * Q) : Int) + 1 = ((q0 (2 * Q) + 1 : Nat) : Int) by omega, uwr _ (by omega)]
    obtain ⟨t0, t1, t2, t3⟩ := q_even T
    obtain ⟨p0, p1, p2, p3⟩ := q_even Q
    obtain ⟨c, r, hi, hr⟩ : ∃ c r, i = 32 * c + r ∧ r < 32 := ⟨i / 32, i % 32, by omega, by omega⟩
    have hc : c = 0 ∨ c = 1 ∨ c = 2 ∨ c = 3 := by omega
    have hbit : (if c = 0 then q0 m else if c = 1 then q1 m else if c = 2 then q2 m else q3 m) / 2 ^ r % 2 = bitN m i := by
      rcases hc with rfl | rfl | rfl | rfl
      · simpa [hi] using bit_0 m r hr
      · simpa [hi] using bit_1 m r hr
      · simpa [hi] using bit_2 m r hr
      · simpa [hi] using bit_3 m r hr
    have td : (i : Int).tdiv 32 = (c : Int) := by rw [Int.tdiv_eq_ediv_of_nonneg (by omega)]; omega
    have tm : (i : Int).tmod 32 = (r : Int) := by rw [Int.tmod_eq_emod_of_nonneg (by omega)]; omega
    have wi : IntKind.i64.wrap (i : Int) = i := wrap_id (by unfold I64; omega)
    have wr : IntKind.i64.wrap (r : Int) = r := wrap_id (by unfold I64; omega)
    have wi1 : IntKind.i64.wrap ((i : Int) - 1) = (i : Int) - 1 := wrap_id (by unfold I64; omega)
    have g0 : (0 : Int) ≤ (i : Int) := by omega
    have wru : IntKind.u64.wrap (r : Int) = r := uwr _ (by omega)
    have mr : min r IntKind.u64.bits = r := Nat.min_eq_left (by show r ≤ 64; omega)
    have fd : ∀ d : Nat, ((d : Int).fdiv (2 ^ r)).tmod 2 = ((d / 2 ^ r % 2 : Nat) : Int) := fun d => by
      rw [Int.fdiv_eq_ediv_of_nonneg _ (by exact Int.le_of_lt (Int.pow_pos (by decide))), Int.tmod_eq_emod_of_nonneg (Int.ediv_nonneg (by omega) (Int.le_of_lt (Int.pow_pos (by decide))))]
      simp
    have d0 := fd (q0 m)
    have d1 := fd (q1 m)
    have d2 := fd (q2 m)
    have d3 := fd (q3 m)
    clear fd
    unfold wdD at *
    have hcz : ∀ x, n ≤ x → 0 ≤ cmpZ x n := fun x h => by unfold cmpZ; rw [if_neg (by omega)]; split <;> omega
    have hcn : ∀ x, ¬ n ≤ x → ¬ 0 ≤ cmpZ x n := fun x h => by unfold cmpZ; rw [if_pos (by omega)]; omega
    have hcz := hcz (2 * T + bitN m i)
    have hcn := hcn (2 * T + bitN m i)
    simp [Tryd.f90] at ih ⊢
    have hbc : bitN m i = 0 ∨ bitN m i = 1 := by omega
    by_cases hle : n ≤ 2 * T + bitN m i
    · have hL := hL hle
      have hcz := hcz hle
      rw [if_pos hle] at ih
      rw [if_pos hle] at ih
      rcases hbc with hb0 | hb0 <;> rw [hb0] at hbit hL hC hcz ih <;> rcases hc with rfl | rfl | rfl | rfl <;>
      (simp only [if_true, if_false, Nat.reduceEqDiff, Nat.succ_ne_self, Nat.one_ne_zero] at hbit
       simp only [hbit] at d0 d1 d2 d3
       try simp only [t0, t1, t2, t3] at hC hL
       try simp only [p0, p1, p2, p3, Nat.add_zero, Nat.sub_zero] at ih hC hL hcz
       try simp only [t0, t1, t2, t3] at ih
       try simp only [Int.natCast_add, Int.cast_ofNat_Int] at wT wQ hC hL ih
       have td : (i : Int).tdiv 32 = _ := td
       rw [denK_loop]
       simp [g0, hS, hS2, td, tm, wi, wr, wru, mr, shiftBin, d0, d1, d2, d3, wT, wQ, hC, hcz, hL, wi1, drwK_end, ih])
    · have hcn := hcn hle
      rw [if_neg hle] at ih
      rw [if_neg hle] at ih
      rcases hbc with hb0 | hb0 <;> rw [hb0] at hbit  hC hcn ih <;> rcases hc with rfl | rfl | rfl | rfl <;>
      (simp only [if_true, if_false, Nat.reduceEqDiff, Nat.succ_ne_self, Nat.one_ne_zero] at hbit
       simp only [hbit] at d0 d1 d2 d3
       try simp only [t0, t1, t2, t3] at hC 
       try simp only [p0, p1, p2, p3, Nat.add_zero, Nat.sub_zero] at ih hC  hcn
       try simp only [t0, t1, t2, t3] at ih
       try simp only [Int.natCast_add, Int.cast_ofNat_Int] at wT wQ hC  ih
       have td : (i : Int).tdiv 32 = _ := td
       rw [denK_loop]
       simp [g0, hS, hS2, td, tm, wi, wr, wru, mr, shiftBin, d0, d1, d2, d3, wT, wQ, hC, hcn, wi1, drwK_end, ih])
theorem by_run (m n : Nat) (s s2 : Bool) (hn : 0 < n) (hn2 : n < 18446744073709551616) (hm : m < 340282366920938463463374607431768211456) :
    callT ctx 90 [.d (wdD m s), .d (wdD n s2)] [] = some (.ret (.tup [.d (wdD (m / n) false), .d (wdD (m % n) false)]), []) := by
  have hl := fun k R hx => by_loop m n s s2 hn hn2 hm k R hx 128 (by omega) 0 0 0 (by rw [Nat.div_eq_of_lt]; exact hm) (by simp) (by simp)
  rw [run90 (by simp)]
  unfold wdD
  simp [Tryd.f90, show q0 0 = 0 from rfl, show q1 0 = 0 from rfl, show q2 0 = 0 from rfl, show q3 0 = 0 from rfl] at hl
  simp [Tryd.f90]
  rw [hl]
  simp [drwK_end]
theorem rMul_run (a b : Int) (ha : I64 a) (hb : I64 b) : callT ctx 64 [.d (.int .i64 a), .d (.int .i64 b)] [] = some (.ret (okZ (fitZ (a * b))), []) := by
  have h1 := of_run a ha
  have h2 := of_run b hb
  unfold I64 at ha hb
  have h3 := times_run a.natAbs b.natAbs (decide (a < 0)) (decide (b < 0)) (by omega) (by omega)
  have hlt : a.natAbs * b.natAbs < 340282366920938463463374607431768211456 := by
    have : a.natAbs * b.natAbs ≤ 9223372036854775808 * 9223372036854775808 := Nat.mul_le_mul (by omega) (by omega)
    omega
  have h4 := room_run _ (decide (a < 0) != decide (b < 0)) hlt
  have hv : sgZ (a.natAbs * b.natAbs) (decide (a < 0) != decide (b < 0)) = a * b := by
    rw [mul_abs]; unfold sgZ
    by_cases h : decide (a < 0) = decide (b < 0) <;> simp [h]
  rw [hv] at h4
  rw [run64 (by simp)]
  generalize wdD (a.natAbs * b.natAbs) (decide (a < 0) != decide (b < 0)) = z at *
  generalize fitZ (a * b) = p at *
  unfold wdD at *
  simp at h3 h4
  simp [Tryd.f64, h1, h2, h3, h4, drwK_end]
end Go.Am
end
section
namespace Go.Am
open Go Go.Proofs
set_option maxRecDepth 20000
theorem rDiv_run (a b : Int) (ha : I64 a) (hb : I64 b) : callT ctx 65 [.d (.int .i64 a), .d (.int .i64 b)] [] = some (.ret (errZ (divZ a b)), []) := by
  rw [run65 (by simp)]
  by_cases h0 : b = 0
  · simp [Tryd.f65, h0, divZ]
  · have h1 := of_run a ha
    have h2 := of_run b hb
    unfold I64 at ha hb
    have h3 := by_run a.natAbs b.natAbs (decide (a < 0)) (decide (b < 0)) (by omega) (by omega) (by omega)
    have hdl : a.natAbs / b.natAbs ≤ a.natAbs := Nat.div_le_self _ _
    have h4 := room_run (a.natAbs / b.natAbs) (decide (a < 0) != decide (b < 0)) (by omega)
    have hv : sgZ (a.natAbs / b.natAbs) (decide (a < 0) != decide (b < 0)) = a.tdiv b := by
      rw [tdiv_abs]; unfold sgZ
      by_cases h : decide (a < 0) = decide (b < 0) <;> simp [h]
    rw [hv] at h4
    have hd : divZ a b = if (fitZ (a.tdiv b)).2 = true then ((fitZ (a.tdiv b)).1, 0) else (0, 2) := by
      unfold divZ fitZ
      rw [if_neg h0]
      by_cases hs : a = -9223372036854775808 ∧ b = -1
      · obtain ⟨rfl, rfl⟩ := hs
        rfl
      · rw [if_neg hs]
        have hI : I64 (a.tdiv b) := by
          have hq := tdiv_abs a b
          unfold I64
          have hle2 : decide (a < 0) = decide (b < 0) → a.natAbs / b.natAbs ≤ 9223372036854775807 := by
            intro hd
            by_cases ha1 : a = -9223372036854775808
            · have hb2 : 2 ≤ b.natAbs := by
                have : b < 0 := by rw [ha1] at hd; simpa using hd
                omega
              have h3 := Nat.div_le_div_left hb2 (by decide) (a := a.natAbs)
              omega
            · omega
          generalize a.natAbs / b.natAbs = q at *
          split at hq
          · rename_i hd
            have := hle2 hd
            omega
          · omega
        unfold I64 at hI
        rw [if_pos hI]
        simp
    rw [hd]
    generalize fitZ (a.tdiv b) = p at *
    generalize a.natAbs / b.natAbs = x at *
    generalize a.natAbs % b.natAbs = y at *
    unfold wdD at *
    try simp at h3
    try simp at h4
    cases hp : p.2 <;> simp [Tryd.f65, h0, h1, h2, h3, h4, hp, drwK_end]
theorem rMod_run (a b : Int) (ha : I64 a) (hb : I64 b) : callT ctx 66 [.d (.int .i64 a), .d (.int .i64 b)] [] = some (.ret (errZ (modZ a b)), []) := by
  rw [run66 (by simp)]
  unfold modZ
  by_cases h0 : b = 0
  · simp [Tryd.f66, h0]
  · rw [if_neg h0]
    have h1 := of_run a ha
    have h2 := of_run b hb
    unfold I64 at ha hb
    have h3 := by_run a.natAbs b.natAbs (decide (a < 0)) (decide (b < 0)) (by omega) (by omega) (by omega)
    have hml : a.natAbs % b.natAbs < b.natAbs := Nat.mod_lt _ (by omega)
    have hml2 : a.natAbs % b.natAbs ≤ a.natAbs := Nat.mod_le _ _
    have h4 := room_run (a.natAbs % b.natAbs) (decide (a < 0)) (by omega)
    have hv : sgZ (a.natAbs % b.natAbs) (decide (a < 0)) = a.tmod b := by
      rw [tmod_abs]; unfold sgZ
      by_cases h : a < 0 <;> simp [h]
    have hI : -9223372036854775808 ≤ a.tmod b ∧ a.tmod b ≤ 9223372036854775807 := by
      rw [← hv]; unfold sgZ
      generalize a.natAbs % b.natAbs = x at *
      split <;> omega
    rw [hv] at h4
    unfold fitZ at h4
    rw [if_pos hI] at h4
    generalize a.tmod b = p at *
    generalize a.natAbs % b.natAbs = x at *
    generalize a.natAbs / b.natAbs = y at *
    unfold wdD at *
    try simp at h3
    try simp at h4
    simp [Tryd.f66, h0, h1, h2, h3, h4, drwK_end]
end Go.Am
end

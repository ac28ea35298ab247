/-
  Texts of one proof, one behind the other.
-/
import Derived.Test.YtgcpbkbmnkjlkaaDoorP5
set_option linter.all false
section
namespace Go.Am
open Go Go.Proofs
variable [Inhabited Mx2]
set_option maxRecDepth 20000
@[simp] def byteD (c : UInt8) : D := .int .u8 c.toNat
theorem ofInt16 (s : W16) : BitVec.ofInt 16 (s.toNat : Int) = s := by
  apply BitVec.eq_of_toNat_eq
  rw [BitVec.toNat_ofInt]
  have := s.isLt
  omega
theorem wrap16 (s : W16) : IntKind.u16.wrap (s.toNat : Int) = s.toNat := by
  have := s.isLt
  simp [IntKind.wrap, IntKind.bits, IntKind.signed]; omega
theorem wrap16_of (n : Nat) : IntKind.u16.wrap (n : Int) = ((BitVec.ofNat 16 n).toNat : Int) := by
  simp [IntKind.wrap, IntKind.bits, IntKind.signed]
theorem top16 (s : W16) : ((s.toNat : Int).fdiv 32768) = ((s.getLsbD 15).toNat : Int) := by
  have h1 := s.isLt
  have e : s.getLsbD 15 = decide (32768 ≤ s.toNat) := by
    rw [BitVec.getLsbD, Nat.testBit_eq_decide_div_mod_eq]
    by_cases h : 32768 ≤ s.toNat
    · simp [h]; omega
    · simp [h]; omega
  rw [e, Int.fdiv_eq_ediv_of_nonneg _ (by omega)]
  by_cases h : 32768 ≤ s.toNat
  · simp [h]; omega
  · simp [h]; omega
theorem sumIn_loop (A8 A9 A10 : AV) (k : Kt) (R : Ans) : ∀ (d i : Nat) (s : W16) (X : Env), i + d = 8 →
    (k (.exit 2) ⟨31, gl0, [(0, true, .d (.int .u16 (cstepN d s).toNat)), (8, true, A8), (9, true, A9), (10, true, A10), (19, true, .d (.int .i64 8)), (20, true, .d (.bool false))], []⟩ = R) →
    denK ctx 102 (.loop (Code.at (codeOf Tryd.f102) [1, 0, 1, 0, 0, 1, 1, 0, 0, 1, 1, 1, 0, 0]))
      ⟨31, gl0, [(0, true, .d (.int .u16 s.toNat)), (8, true, A8), (9, true, A9), (10, true, A10), (19, true, .d (.int .i64 i))], []⟩ k = R
  | 0, i, s, X, hi, hR => by
    have hi : i = 8 := by omega
    subst hi
    simp only [cstepN] at hR
    rw [denK_loop]
    simp [Tryd.f102, hR]
  | d + 1, i, s, X, hi, hR => by
    have ih := sumIn_loop A8 A9 A10 k R d (i + 1) (cstep s) [] (by omega) hR
    have hlt : (i : Int) < 8 := by omega
    have hltN : i < 8 := by omega
    have w4 : IntKind.i64.wrap ((i : Int) + 1) = (i : Int) + 1 := wrap_id (by unfold I64; omega)
    have ht := top16 s
    have e1 : IntKind.u16.wrap ((s.toNat : Int) * 2) = ((s <<< 1).toNat : Int) := by
      have := wrap16_of (s.toNat * 2)
      simp only [Int.natCast_mul] at this
      rw [show ((2 : Nat) : Int) = 2 from rfl] at this
      rw [this, BitVec.toNat_shiftLeft, Nat.shiftLeft_eq]
      simp
    have e2 : IntKind.u16.wrap (((s.getLsbD 15).toNat : Int) * 4129) = ((polyW (s.getLsbD 15)).toNat : Int) := by cases s.getLsbD 15 <;> rfl
    have m1 : ∀ t : W16, ((t.toNat : Int) % 65536).toNat = t.toNat := fun t => by have := t.isLt; omega
    have hkey : IntKind.u16.wrap (((IntKind.u16.wrap ((s.toNat : Int) * 2) % 65536).toNat ^^^ (IntKind.u16.wrap (((s.toNat : Int).fdiv 32768) * 4129) % 65536).toNat : Nat) : Int) = ((cstep s).toNat : Int) := by
      rw [ht, e1, e2, m1, m1, ← BitVec.toNat_xor]
      exact wrap16 _
    have hb : IntKind.bits .u16 = 16 := rfl
    simp [Tryd.f102] at ih
    rw [denK_loop]
    simp [Tryd.f102]
    simp [hlt, hltN, w4, hb, hkey, ih]
theorem sum_loop (l : List UInt8) (hl : l.length ≤ 1000000) (A8 : AV) (hA : A8 = .d (.list (l.map byteD))) (k : Kt) (R : Ans) : ∀ (rest : List UInt8) (j : Nat) (s : W16), l.drop j = rest → j + rest.length = l.length →
    (k (.exit 0) ⟨31, gl0, [(0, true, .d (.int .u16 (crcL s rest).toNat)), (8, true, A8), (9, true, .d (.int .i64 l.length)), (10, true, .d (.int .i64 l.length)), (11, true, .d (.bool false))], []⟩ = R) →
    denK ctx 102 (.loop (Code.at (codeOf Tryd.f102) [1, 0, 1, 0, 0]))
      ⟨31, gl0, [(0, true, .d (.int .u16 s.toNat)), (8, true, A8), (9, true, .d (.int .i64 l.length)), (10, true, .d (.int .i64 j))], []⟩ k = R
  | [], j, s, hd, hj, hR => by
    have hj : j = l.length := by simpa using hj
    subst hj
    subst hA
    simp [crcL] at hR
    rw [denK_loop]
    simp [Tryd.f102, hR]
  | x :: rest, j, s, hd, hj, hR => by
    have hlt : j < l.length := by simp at hj; omega
    have hltI : (j : Int) < l.length := by omega
    have hx : l[j] = x := by
      have := congrArg (·[0]?) hd
      simp at this
      simpa [hlt] using this
    have ih := sum_loop l hl A8 hA k R rest (j + 1) (crcB s x) (by rw [← List.tail_drop, hd]; rfl) (by simp at hj; omega) hR
    have w1 : IntKind.i64.wrap ((j : Int) + 1) = (j : Int) + 1 := wrap_id (by unfold I64; omega)
    have hin := fun A8 A9 A10 k R hR => sumIn_loop A8 A9 A10 k R 8 0 (s ^^^ topB x) [] rfl hR
    have hxl := x.toNat_lt
    have m1 : ∀ t : W16, ((t.toNat : Int) % 65536).toNat = t.toNat := fun t => by have := t.isLt; omega
    have e1 : IntKind.u16.wrap ((x.toNat : Int)) = (x.toNat : Int) := by simp [IntKind.wrap, IntKind.bits, IntKind.signed]; omega
    have e2 : IntKind.u16.wrap ((x.toNat : Int) * 256) = ((topB x).toNat : Int) := by
      have := wrap16_of (x.toNat * 256)
      simp only [Int.natCast_mul] at this
      exact this
    have hs : s.toNat % 65536 = s.toNat := Nat.mod_eq_of_lt s.isLt
    have hkey : IntKind.u16.wrap ((s.toNat ^^^ (IntKind.u16.wrap (((x.toNat : Int)) * 256) % 65536).toNat : Nat) : Int) = ((s ^^^ topB x).toNat : Int) := by
      rw [e2, m1, ← BitVec.toNat_xor]
      exact wrap16 _
    have hb : IntKind.bits .u16 = 16 := rfl
    subst hA
    simp [Tryd.f102] at ih hin
    rw [denK_loop]
    simp [Tryd.f102]
    have hcb : cstepN 8 (s ^^^ topB x) = crcB s x := rfl
    simp [hlt, hltI, hx, w1, hb, e1, hs, hkey, hin, hcb, ih]
theorem sumGo_run (l : List UInt8) (hl : l.length ≤ 1000000) (s : W16) : callT ctx 102 [.d (.int .u16 s.toNat), .d (.list (l.map byteD))] [] = some (.ret (.d (.int .u16 (crcL s l).toNat)), []) := by
  have h := fun k R hR => sum_loop l hl _ rfl k R l 0 s rfl (by simp) hR
  rw [run102 (by simp)]
  simp [Tryd.f102] at h ⊢
  rw [h]
  simp
theorem sumOf_run (l : List UInt8) (hl : l.length ≤ 1000000) : callT ctx 63 [.d (.list (l.map byteD))] [] = some (.ret (.d (.int .u16 (crcL 65535#16 l).toNat)), []) := by
  have h := sumGo_run l hl 65535#16
  rw [run63 (by simp)]
  simp at h
  simp [Tryd.f63, h]
end Go.Am
end
section
namespace Go.Am

/-- A node from which all ways end. -/
inductive Ends (succ : Nat → List Nat) : Nat → Prop
  | mk (i : Nat) (h : ∀ j ∈ succ i, Ends succ j) : Ends succ i
inductive Way (succ : Nat → List Nat) : Nat → Nat → Prop
  | one {i j} (h : j ∈ succ i) : Way succ i j
  | more {i j k} (h : Way succ i j) (h2 : k ∈ succ j) : Way succ i k
theorem Way.trans {succ : Nat → List Nat} {i j k : Nat} (h : Way succ i j) (h2 : Way succ j k) : Way succ i k := by
  induction h2 with
  | one h3 => exact .more h h3
  | more _ h3 ih => exact .more ih h3
theorem Ends.way {succ : Nat → List Nat} {i j : Nat} (h : Ends succ i) (w : Way succ i j) : Ends succ j := by
  induction w with
  | one h2 => cases h with | mk _ h => exact h _ h2
  | more _ h2 ih => cases ih with | mk _ h => exact h _ h2
theorem Ends.no_round {succ : Nat → List Nat} {i : Nat} (h : Ends succ i) : ¬ Way succ i i := by
  induction h with
  | mk i h ih =>
    intro w
    -- the first step of the way
    have first : ∀ {a b}, Way succ a b → ∃ c ∈ succ a, c = b ∨ Way succ c b := by
      intro a b w
      induction w with
      | one h => exact ⟨_, h, .inl rfl⟩
      | more _ h2 ih =>
        obtain ⟨c, hc, h3⟩ := ih
        rcases h3 with rfl | h3
        · exact ⟨_, hc, .inr (.one h2)⟩
        · exact ⟨_, hc, .inr (.more h3 h2)⟩
    obtain ⟨c, hc, h3⟩ := first w
    rcases h3 with rfl | h3
    · exact ih _ hc w
    · exact ih c hc (h3.trans (.one hc))

/- The search: 0 new, 1 open, 2 done. -/
mutual
def dfs (succ : Nat → List Nat) : Nat → Nat → List Nat → Bool × List Nat
  | 0, _, seen => (true, seen)
  | f + 1, at_, seen => if seen.getD at_ 0 ≠ 0 then (seen.getD at_ 0 == 1, seen) else
    match dfsL succ f (succ at_) (seen.set at_ 1) with
    | (true, s) => (true, s)
    | (false, s) => (false, s.set at_ 2)
def dfsL (succ : Nat → List Nat) : Nat → List Nat → List Nat → Bool × List Nat
  | _, [], seen => (false, seen)
  | f, n :: r, seen => match dfs succ f n seen with
    | (true, s) => (true, s)
    | (false, s) => dfsL succ f r s
end
def fresh (seen : List Nat) : Nat := seen.countP (· == 0)
structure DfsOk (succ : Nat → List Nat) (seen seen' : List Nat) : Prop where
  len : seen'.length = seen.length
  grey : ∀ i, seen'.getD i 0 = 1 ↔ seen.getD i 0 = 1
  black : ∀ i, seen.getD i 0 = 2 → seen'.getD i 0 = 2
  vals : (∀ i, seen.getD i 0 ≤ 2) → ∀ i, seen'.getD i 0 ≤ 2
  ends : (∀ i, seen.getD i 0 = 2 → Ends succ i) → ∀ i, seen'.getD i 0 = 2 → Ends succ i
  fresh : fresh seen' ≤ fresh seen
theorem DfsOk.refl (succ : Nat → List Nat) (s : List Nat) : DfsOk succ s s := ⟨rfl, fun _ => Iff.rfl, fun _ h => h, fun h => h, fun h => h, Nat.le_refl _⟩
theorem DfsOk.trans {succ : Nat → List Nat} {a b c : List Nat} (h : DfsOk succ a b) (k : DfsOk succ b c) : DfsOk succ a c :=
  ⟨by rw [k.len, h.len], fun i => (k.grey i).trans (h.grey i), fun i hi => k.black i (h.black i hi), fun hv => k.vals (h.vals hv), fun he => k.ends (h.ends he), Nat.le_trans k.fresh h.fresh⟩
theorem getD_set (l : List Nat) (i j v : Nat) : (l.set i v).getD j 0 = if i = j ∧ i < l.length then v else l.getD j 0 := by
  simp only [List.getD_eq_getElem?_getD, List.getElem?_set]
  by_cases h : i = j
  · subst h
    by_cases h2 : i < l.length
    · simp [h2]
    · simp [h2]
  · simp [h]
theorem fresh_set {l : List Nat} {i v : Nat} (h : l.getD i 0 = 0) (hi : i < l.length) (hv : v ≠ 0) : fresh (l.set i v) + 1 = fresh l := by
  induction l generalizing i with
  | nil => simp at hi
  | cons x r ih =>
    cases i with
    | zero =>
      simp at h
      subst h
      simp [fresh, hv]
    | succ i =>
      have h1 := ih (i := i) (by simpa using h) (by simpa using hi)
      unfold fresh at h1 ⊢
      simp only [List.set_cons_succ, List.countP_cons]
      omega
theorem fresh_set_le {l : List Nat} {i v : Nat} (hv : v ≠ 0) : fresh (l.set i v) ≤ fresh l := by
  induction l generalizing i with
  | nil => simp
  | cons x r ih =>
    cases i with
    | zero =>
      simp only [fresh, List.set_cons_zero, List.countP_cons]
      simp [hv]
    | succ i =>
      have h1 := ih (i := i)
      unfold fresh at h1 ⊢
      simp only [List.set_cons_succ, List.countP_cons]
      omega

/-- The open nodes all lead to a node. -/
def Lead (succ : Nat → List Nat) (seen : List Nat) (at_ : Nat) : Prop := ∀ i, seen.getD i 0 = 1 → Way succ i at_

theorem dfs_all (succ : Nat → List Nat) : ∀ f : Nat,
    (∀ at_ seen, fresh seen < f → at_ < seen.length → (∀ i < seen.length, ∀ j ∈ succ i, j < seen.length) → (∀ i, seen.getD i 0 ≤ 2) → Lead succ seen at_ →
      ((dfs succ f at_ seen).1 = true → ∃ i, i < seen.length ∧ Way succ i i) ∧ ((dfs succ f at_ seen).1 = false → DfsOk succ seen (dfs succ f at_ seen).2 ∧ (dfs succ f at_ seen).2.getD at_ 0 = 2)) ∧
    (∀ l at_ seen, fresh seen < f → (∀ n ∈ l, n ∈ succ at_) → (∀ n ∈ l, n < seen.length) → seen.getD at_ 0 = 1 → (∀ i < seen.length, ∀ j ∈ succ i, j < seen.length) → (∀ i, seen.getD i 0 ≤ 2) → (∀ i, seen.getD i 0 = 1 → i = at_ ∨ Way succ i at_) →
      ((dfsL succ f l seen).1 = true → ∃ i, i < seen.length ∧ Way succ i i) ∧ ((dfsL succ f l seen).1 = false → DfsOk succ seen (dfsL succ f l seen).2 ∧ ∀ n ∈ l, (dfsL succ f l seen).2.getD n 0 = 2))
  | 0 => ⟨fun _ _ h => by omega, fun _ _ _ h => by omega⟩
  | f + 1 => by
    have hd : ∀ at_ seen, fresh seen < f + 1 → at_ < seen.length → (∀ i < seen.length, ∀ j ∈ succ i, j < seen.length) → (∀ i, seen.getD i 0 ≤ 2) → Lead succ seen at_ →
      ((dfs succ (f + 1) at_ seen).1 = true → ∃ i, i < seen.length ∧ Way succ i i) ∧ ((dfs succ (f + 1) at_ seen).1 = false → DfsOk succ seen (dfs succ (f + 1) at_ seen).2 ∧ (dfs succ (f + 1) at_ seen).2.getD at_ 0 = 2) := by
      intro at_ seen hf hl hs hv hlead
      have ihL := (dfs_all succ f).2 (succ at_) at_ (seen.set at_ 1)
      unfold dfs
      by_cases h0 : seen.getD at_ 0 ≠ 0
      · rw [if_pos h0]
        refine ⟨fun h => ⟨at_, hl, hlead at_ (by simpa using h)⟩, fun h => ⟨DfsOk.refl _ _, ?_⟩⟩
        have := hv at_
        simp only [beq_eq_false_iff_ne] at h
        simp only
        omega
      · rw [if_neg h0]
        have h0' : seen.getD at_ 0 = 0 := by omega
        have hfr := fresh_set (v := 1) h0' hl (by decide)
        have hL := ihL (by omega) (fun n h => h) (fun n h => by simpa using hs at_ hl n h) (by rw [getD_set]; simp [hl]) (by simpa using hs)
          (fun i => by rw [getD_set]; split; omega; exact hv i)
          (fun i hi => by
            rw [getD_set] at hi
            split at hi
            · rename_i h; exact .inl h.1.symm
            · exact .inr (hlead i hi))
        obtain ⟨s, b, he⟩ : ∃ s b, dfsL succ f (succ at_) (seen.set at_ 1) = (b, s) := ⟨_, _, rfl⟩
        rw [he] at hL ⊢
        cases b with
        | true => exact ⟨fun _ => by simpa using hL.1 rfl, fun h => by simp at h⟩
        | false =>
          refine ⟨fun h => by simp at h, fun _ => ?_⟩
          obtain ⟨ok, hall⟩ := hL.2 rfl
          simp only at ok hall ⊢
          have hlen : s.length = seen.length := by rw [ok.len]; simp
          refine ⟨⟨by simp [hlen], fun i => ?_, fun i hi => ?_, fun _ i => ?_, fun hend i hi => ?_, ?_⟩, by rw [getD_set]; simp [hlen, hl]⟩
          · rw [getD_set]
            by_cases hi : at_ = i
            · subst hi
              simp only [hlen, hl, and_self, if_true, h0']
              omega
            · simp only [hi, false_and, if_false]
              rw [ok.grey i, getD_set]
              simp [hi]
          · rw [getD_set]
            split
            · rfl
            · refine ok.black i ?_
              rw [getD_set]
              split
              · rename_i h; rw [← h.1, h0'] at hi; omega
              · exact hi
          · rw [getD_set]
            split
            · omega
            · refine ok.vals (fun i => ?_) i
              rw [getD_set]; split; omega; exact hv i
          · have hend1 : ∀ i, s.getD i 0 = 2 → Ends succ i := ok.ends (fun i hi => by
              rw [getD_set] at hi
              split at hi
              · omega
              · exact hend i hi)
            rw [getD_set] at hi
            split at hi
            · rename_i h
              rw [← h.1]
              exact .mk _ (fun j hj => hend1 j (hall j hj))
            · exact hend1 i hi
          · have h1 := fresh_set_le (l := s) (i := at_) (v := 2) (by decide)
            have h2 := ok.fresh
            omega
    refine ⟨hd, ?_⟩
    intro l
    induction l with
    | nil =>
      intro at_ seen _ _ _ _ _ _ _
      unfold dfsL
      exact ⟨fun h => by simp at h, fun _ => ⟨DfsOk.refl _ _, fun n h => by simp at h⟩⟩
    | cons n r ih =>
      intro at_ seen hf hsub hlt hat hs hv hlead
      have h1 := hd n seen hf (hlt n (by simp)) hs hv (fun i hi => by
        have hn := hsub n (by simp)
        rcases hlead i hi with rfl | h
        · exact .one hn
        · exact .more h hn)
      unfold dfsL
      obtain ⟨s, b, he⟩ : ∃ s b, dfs succ (f + 1) n seen = (b, s) := ⟨_, _, rfl⟩
      rw [he] at h1 ⊢
      cases b with
      | true => exact ⟨fun _ => h1.1 rfl, fun h => by simp at h⟩
      | false =>
        obtain ⟨ok, hn2⟩ := h1.2 rfl
        simp only at ok hn2 ⊢
        have h2 := ih at_ s (Nat.lt_of_le_of_lt ok.fresh hf) (fun m hm => hsub m (by simp [hm])) (fun m hm => by rw [ok.len]; exact hlt m (by simp [hm])) ((ok.grey at_).2 hat)
          (by rw [ok.len]; exact hs) (ok.vals hv) (fun i hi => hlead i ((ok.grey i).1 hi))
        refine ⟨fun h => by have := h2.1 h; rwa [ok.len] at this, fun h => ?_⟩
        obtain ⟨ok2, hall⟩ := h2.2 h
        refine ⟨ok.trans ok2, fun m hm => ?_⟩
        rcases List.mem_cons.1 hm with rfl | hm
        · exact ok2.black _ hn2
        · exact hall m hm

/- All nodes, one behind the other. -/
def rounds (succ : Nat → List Nat) (f : Nat) : List Nat → List Nat → Bool
  | [], _ => false
  | n :: r, seen => match dfs succ f n seen with
    | (true, _) => true
    | (false, s) => rounds succ f r s
theorem rounds_iff (succ : Nat → List Nat) (N f : Nat) (hf : N < f) (hs : ∀ i < N, ∀ j ∈ succ i, j < N) :
    rounds succ f (List.range N) (List.replicate N 0) = true ↔ ∃ i < N, ¬ Ends succ i := by
  have key : ∀ (l : List Nat) (seen : List Nat), seen.length = N → (∀ n ∈ l, n < N) → (∀ i, seen.getD i 0 ≠ 1) → (∀ i, seen.getD i 0 ≤ 2) → (∀ i, seen.getD i 0 = 2 → Ends succ i) → (∀ i < N, i ∈ l ∨ seen.getD i 0 = 2) →
      (rounds succ f l seen = true ↔ ∃ i < N, ¬ Ends succ i) := by
    intro l
    induction l with
    | nil =>
      intro seen _ _ _ _ he hall
      unfold rounds
      refine ⟨fun h => by simp at h, ?_⟩
      rintro ⟨i, hi, hn⟩
      rcases hall i hi with h | h
      · simp at h
      · exact absurd (he i h) hn
    | cons n r ih =>
      intro seen hl hlt hg hv he hall
      have hfr : fresh seen ≤ seen.length := List.countP_le_length
      have h1 := (dfs_all succ f).1 n seen (by omega) (by rw [hl]; exact hlt n (by simp)) (by rw [hl]; exact hs) hv (fun i hi => absurd hi (hg i))
      unfold rounds
      obtain ⟨s, b, hd⟩ : ∃ s b, dfs succ f n seen = (b, s) := ⟨_, _, rfl⟩
      rw [hd] at h1 ⊢
      cases b with
      | true =>
        refine ⟨fun _ => ?_, fun _ => rfl⟩
        obtain ⟨i, hi, w⟩ := h1.1 rfl
        exact ⟨i, by omega, fun h => h.no_round w⟩
      | false =>
        obtain ⟨ok, hn2⟩ := h1.2 rfl
        simp only at ok hn2 ⊢
        refine ih s (by rw [ok.len, hl]) (fun m hm => hlt m (by simp [hm])) (fun i hi => hg i ((ok.grey i).1 hi)) (ok.vals hv) (ok.ends he) (fun i hi => ?_)
        rcases hall i hi with h | h
        · rcases List.mem_cons.1 h with rfl | h
          · exact .inr hn2
          · exact .inl h
        · exact .inr (ok.black i h)
  refine key _ _ (by simp) (by simp) (fun i => ?_) (fun i => ?_) (fun i hi => ?_) (fun i hi => .inl (by simpa using hi))
  · simp [List.getD_eq_getElem?_getD, List.getElem?_replicate]; split <;> simp
  · simp [List.getD_eq_getElem?_getD, List.getElem?_replicate]; split <;> simp
  · simp [List.getD_eq_getElem?_getD, List.getElem?_replicate] at hi
    split at hi <;> simp at hi
/- Striking out. -/
def strike (succ : Nat → List Nat) (s : List Bool × Bool) (i : Nat) : List Bool × Bool :=
  if s.1.getD i true = true then s else if (succ i).all (fun j => s.1.getD j true) = true then (s.1.set i true, true) else s
def strikes (succ : Nat → List Nat) (l : List Nat) (s : List Bool × Bool) : List Bool × Bool := l.foldl (strike succ) s
def struck (succ : Nat → List Nat) (l : List Nat) : Nat → List Bool → List Bool
  | 0, g => g
  | f + 1, g => match strikes succ l (g, false) with
    | (g', true) => struck succ l f g'
    | (g', false) => g'
def left (g : List Bool) : Nat := g.countP (· == false)
theorem getD_setB (l : List Bool) (i j : Nat) (v : Bool) : (l.set i v).getD j true = if i = j ∧ i < l.length then v else l.getD j true := by
  simp only [List.getD_eq_getElem?_getD, List.getElem?_set]
  by_cases h : i = j
  · subst h
    by_cases h2 : i < l.length
    · simp [h2]
    · simp [h2]
  · simp [h]
theorem left_set {l : List Bool} {i : Nat} (h : l.getD i true = false) : left (l.set i true) + 1 = left l := by
  induction l generalizing i with
  | nil => simp at h
  | cons x r ih =>
    cases i with
    | zero =>
      simp at h
      subst h
      simp [left]
    | succ i =>
      have h1 := ih (i := i) (by simpa using h)
      unfold left at h1 ⊢
      simp only [List.set_cons_succ, List.countP_cons]
      omega
structure StrikeOk (succ : Nat → List Nat) (s s' : List Bool × Bool) : Prop where
  len : s'.1.length = s.1.length
  ends : (∀ i < s.1.length, s.1.getD i true = true → Ends succ i) → ∀ i < s.1.length, s'.1.getD i true = true → Ends succ i
  less : s'.2 = true → s.2 = false → left s'.1 < left s.1
  le : left s'.1 ≤ left s.1
  more : s.2 = true → s'.2 = true
  same : s'.2 = false → s' = s
theorem strike_ok {succ : Nat → List Nat} {s : List Bool × Bool} {i : Nat} (hs : ∀ j ∈ succ i, j < s.1.length) : StrikeOk succ s (strike succ s i) := by
  unfold strike
  split
  · exact ⟨rfl, fun h => h, fun a b => (by rw [a] at b; cases b), Nat.le_refl _, fun h => h, fun _ => rfl⟩
  · rename_i h0
    split
    · rename_i h1
      have h2 := left_set (l := s.1) (i := i) (by simpa using h0)
      refine ⟨by simp, fun he j hj h => ?_, fun _ _ => by simp only; omega, by simp only; omega, fun _ => rfl, fun h => by simp at h⟩
      simp only at h
      rw [getD_setB] at h
      split at h
      · rename_i hij
        rw [← hij.1]
        exact .mk _ (fun k hk => he k (hs k hk) (by simpa using List.all_eq_true.1 h1 k hk))
      · exact he j hj h
    · exact ⟨rfl, fun h => h, fun a b => (by rw [a] at b; cases b), Nat.le_refl _, fun h => h, fun _ => rfl⟩
theorem StrikeOk.trans {succ : Nat → List Nat} {a b c : List Bool × Bool} (h : StrikeOk succ a b) (k : StrikeOk succ b c) : StrikeOk succ a c :=
  ⟨by rw [k.len, h.len], fun he => by have := k.ends; rw [h.len] at this; exact this (h.ends he), fun h1 h2 => by
      cases hb : b.2 with
      | true => exact Nat.lt_of_le_of_lt k.le (h.less hb h2)
      | false => exact Nat.lt_of_lt_of_le (k.less h1 hb) h.le, Nat.le_trans k.le h.le, fun h1 => k.more (h.more h1), fun h1 => by
      cases hb : b.2 with
      | true => rw [k.more hb] at h1; cases h1
      | false => rw [k.same h1, h.same hb]⟩
theorem strikes_ok {succ : Nat → List Nat} {N : Nat} (hs : ∀ i < N, ∀ j ∈ succ i, j < N) : ∀ (l : List Nat) (s : List Bool × Bool), s.1.length = N → (∀ i ∈ l, i < N) →
    StrikeOk succ s (strikes succ l s) ∧ ((strikes succ l s).2 = false → ∀ i ∈ l, s.1.getD i true = false → ∃ j ∈ succ i, s.1.getD j true = false)
  | [], s, _, _ => ⟨⟨rfl, fun h => h, fun a b => (by rw [show (strikes succ [] s).2 = s.2 from rfl, b] at a; cases a), Nat.le_refl _, fun h => h, fun _ => rfl⟩, fun _ i h => by simp at h⟩
  | i :: r, s, hl, hlt => by
    have h1 := strike_ok (s := s) (i := i) (by rw [hl]; exact hs i (hlt i (by simp)))
    obtain ⟨h2, h3⟩ := strikes_ok hs r (strike succ s i) (by rw [h1.len, hl]) (fun j hj => hlt j (by simp [hj]))
    have e : strikes succ (i :: r) s = strikes succ r (strike succ s i) := rfl
    rw [e]
    refine ⟨h1.trans h2, fun hf j hj hg => ?_⟩
    have hsame : strike succ s i = s := h1.same (by
      cases hb : (strike succ s i).2 with
      | false => rfl
      | true => rw [h2.more hb] at hf; cases hf)
    rcases List.mem_cons.1 hj with rfl | hj
    · unfold strike at hsame
      rw [if_neg (by rw [hg]; simp)] at hsame
      split at hsame
      · rename_i h4
        have : left (s.1.set j true) = left s.1 := by rw [show s.1.set j true = s.1 from congrArg Prod.fst hsame]
        have := left_set hg
        omega
      · rename_i h4
        simp only [List.all_eq_true, Classical.not_forall] at h4
        obtain ⟨k, hk, h5⟩ := h4
        exact ⟨k, hk, by simpa using h5⟩
    · rw [hsame] at h3 hf
      exact h3 hf j hj hg
theorem struck_all {succ : Nat → List Nat} {N : Nat} (hs : ∀ i < N, ∀ j ∈ succ i, j < N) (l : List Nat) (hl : ∀ i, i ∈ l ↔ i < N) : ∀ (f : Nat) (g : List Bool), g.length = N → left g < f → (∀ i < N, g.getD i true = true → Ends succ i) →
    (struck succ l f g).length = N ∧ ∀ i < N, ((struck succ l f g).getD i true = true ↔ Ends succ i)
  | 0, g, _, h, _ => by omega
  | f + 1, g, hg, hf, he => by
    obtain ⟨ok, hfix⟩ := strikes_ok hs l (g, false) hg (fun i hi => (hl i).1 hi)
    unfold struck
    obtain ⟨g', b, hd⟩ : ∃ g' b, strikes succ l (g, false) = (g', b) := ⟨_, _, rfl⟩
    rw [hd] at ok hfix ⊢
    have hlen : g'.length = N := by have := ok.len; simp only at this; omega
    cases b with
    | true =>
      have := ok.less rfl rfl
      simp only at this
      exact struck_all hs l hl f g' hlen (by omega) (by have := ok.ends; simp only [hg] at this; exact this he)
    | false =>
      have hsame := ok.same rfl
      simp only [Prod.mk.injEq] at hsame
      obtain ⟨rfl, _⟩ := hsame
      refine ⟨hlen, fun i hi => ⟨he i hi, fun h => ?_⟩⟩
      induction h with
      | mk i h ih =>
        simp only
        cases hg2 : g'.getD i true with
        | true => rfl
        | false =>
          obtain ⟨j, hj, hg3⟩ := hfix rfl i ((hl i).2 hi) hg2
          have := ih j hj (hs i hi j hj)
          simp only at this hg3
          rw [this] at hg3; cases hg3
/-- Nodes that lead nowhere may be left out of what is led to. -/
theorem ends_filter {succ : Nat → List Nat} {p : Nat → Bool} (hp : ∀ j, p j = false → Ends succ j) (i : Nat) : Ends (fun i => (succ i).filter p) i ↔ Ends succ i := by
  constructor
  · intro h
    induction h with
    | mk i h ih =>
      refine .mk _ (fun j hj => ?_)
      cases hpj : p j with
      | false => exact hp j hpj
      | true => exact ih j (by simp [hj, hpj])
  · intro h
    induction h with
    | mk i h ih => exact .mk _ (fun j hj => ih j ((List.mem_filter.1 hj).1))
end Go.Am
end
section
namespace Go.Am

structure Ins where
  op : Int
  a : Int
  b : Int
  n : Int
  m : Int

/-- Cells that are there. -/
def cellB (cells at_ n : Int) : Bool := decide (0 ≤ at_) && decide (0 ≤ n) && decide (n ≤ cells) && decide (at_ ≤ cells - n)
def thereB (cells at_ n : Int) : Bool := decide (0 ≤ at_) && decide (at_ ≤ 8192) && decide (at_ + n ≤ cells)
theorem cell_there {cells at_ n : Int} (hc : 0 ≤ cells ∧ cells ≤ 8192) (hn : 1 ≤ n) : cellB cells at_ n = thereB cells at_ n := by
  unfold cellB thereB
  rw [Bool.eq_iff_iff]
  simp only [Bool.and_eq_true, decide_eq_true_eq]
  omega
def doesB (x : Ins) : Bool :=
  if x.a = 0 then decide (x.b = 6) || decide (8 ≤ x.b) && decide (x.b ≤ 18)
  else if x.a = 1 then decide (x.b = 7) || decide (x.b = 13) || decide (x.b = 14) || decide (19 ≤ x.b) && decide (x.b ≤ 21)
  else false
def arrB (cells : Int) (x : Ins) : Bool := decide (0 ≤ x.n) && decide (x.n ≤ x.m) && decide (x.m ≤ 255) && cellB cells x.a (x.m - x.n + 1)
/-- Is an instruction one by itself? pins: how many cells a block of a kind has. -/
def formB (pins : Int → Nat) (cells last at_ : Int) (x : Ins) : Bool :=
  if x.op = 1 ∨ x.op = 11 then true
  else if x.op = 2 ∨ x.op = 3 ∨ x.op = 6 ∨ x.op = 14 then cellB cells x.a 1
  else if x.op = 13 then cellB cells x.a 1 && cellB cells x.b 2
  else if x.op = 4 ∨ x.op = 5 ∨ x.op = 7 then arrB cells x
  else if x.op = 8 then doesB x
  else if x.op = 9 ∨ x.op = 10 then decide (0 ≤ x.a) && decide (x.a ≤ last)
  else if x.op = 12 then decide (0 < pins x.b) && cellB cells x.a (pins x.b)
  else if x.op = 15 then decide (at_ = last)
  else false
def formsB (pins : Int → Nat) (cells last : Int) : Nat → List Ins → Bool
  | _, [] => true
  | i, x :: r => formB pins cells last i x && formsB pins cells last (i + 1) r

/-- What an instruction does with the stack: its truths, the top at the end. -/
def takeS (n : Nat) (t : Bool) (S : List Bool) : Option (List Bool) :=
  if S.length < n then none else if t && (S.drop (S.length - n)).any (fun b => !b) then none else some (S.take (S.length - n))
def giveS (t : Bool) (S : List Bool) : Option (List Bool) := if S.length < 64 then some (S ++ [t]) else none
def emptyS (S : List Bool) : Option (List Bool) := if S = [] then some [] else none
def movesS (x : Ins) (S : List Bool) : Option (List Bool) :=
  if x.op = 1 then giveS (decide (x.n = 0) || decide (x.n = 1)) S
  else if x.op = 2 then giveS false S
  else if x.op = 3 ∨ x.op = 13 ∨ x.op = 14 then giveS true S
  else if x.op = 4 then (takeS 1 false S).bind (giveS false)
  else if x.op = 5 then (takeS 1 false S).bind (giveS true)
  else if x.op = 6 then takeS 1 false S
  else if x.op = 7 then takeS 2 false S
  else if x.op = 8 then (takeS (if x.b = 6 ∨ x.b = 7 then 1 else 2) (decide (x.a = 1)) S).bind (giveS (decide (x.b = 7) || decide (13 ≤ x.b)))
  else if x.op = 10 then (takeS 1 true S).bind emptyS
  else emptyS S
def stackS (led : List Bool) : Nat → List Ins → List Bool → Bool
  | _, [], _ => true
  | i, x :: r, S => if led.getD i false && !S.isEmpty then false else match movesS x S with
    | none => false
    | some S' => stackS led (i + 1) r S'
/-- Where jumps lead. -/
def ledOf (ins : List Ins) : List Bool := ins.foldl (fun l x => if x.op = 9 ∨ x.op = 10 then l.set x.a.toNat true else l) (List.replicate ins.length false)

/-- The next places, those of steps left out. -/
def nextI (ins : List Ins) (i : Nat) : List Nat :=
  match ins[i]? with
  | none => []
  | some x => if x.op = 9 then [x.a.toNat] else if x.op = 10 then [i + 1, x.a.toNat] else if x.op = 15 then [] else [i + 1]
def tickAt (ins : List Ins) (i : Nat) : Bool :=
  match ins[i]? with
  | none => false
  | some x => decide (x.op = 11)
def succI (ins : List Ins) (i : Nat) : List Nat := if tickAt ins i = true then [] else nextI ins i
/-- The program's: without the steps. -/
def succP (ins : List Ins) (i : Nat) : List Nat := (succI ins i).filter fun j => !tickAt ins j
theorem succ_ends (ins : List Ins) (i : Nat) : Ends (succP ins) i ↔ Ends (succI ins) i :=
  ends_filter (p := fun j => !tickAt ins j) (fun j hj => .mk _ (fun k hk => by
    have : tickAt ins j = true := by simpa using hj
    simp [succI, this] at hk)) i
def headB (n vars cells : Int) (lastOp : Int) : Bool := decide (1 ≤ n) && decide (n ≤ 4096) && decide (0 ≤ cells) && decide (cells ≤ 8192) && decide (0 ≤ vars) && decide (vars ≤ cells) && decide (lastOp = 15)
def lastOp (ins : List Ins) : Int := (ins.getLast?.map (·.op)).getD 0
def okForms (pins : Int → Nat) (ins : List Ins) (vars cells : Int) : Bool := headB ins.length vars cells (lastOp ins) && formsB pins cells ((ins.length : Int) - 1) 0 ins
/-- Can it be run? -/
def okCode (pins : Int → Nat) (ins : List Ins) (vars cells : Int) : Bool :=
  okForms pins ins vars cells && stackS (ledOf ins) 0 ins [] && !(rounds (succP ins) (ins.length + 1) (List.range ins.length) (List.replicate ins.length 0))

theorem forms_get {pins : Int → Nat} {cells last : Int} : ∀ {ins : List Ins} {i0 : Nat}, formsB pins cells last i0 ins = true → ∀ i x, ins[i]? = some x → formB pins cells last ((i0 + i : Nat) : Int) x = true
  | y :: r, i0, h, i, x, hx => by
    simp only [formsB, Bool.and_eq_true] at h
    cases i with
    | zero => simp at hx; subst hx; exact h.1
    | succ i =>
      have := forms_get h.2 i x (by simpa using hx)
      rw [show i0 + (i + 1) = i0 + 1 + i by omega]
      exact this
theorem succ_in {pins : Int → Nat} {ins : List Ins} {vars cells : Int} (h : okForms pins ins vars cells = true) : ∀ i < ins.length, ∀ j ∈ succI ins i, j < ins.length := by
  intro i hi j hj
  simp only [okForms, Bool.and_eq_true] at h
  have hx : ins[i]? = some ins[i] := by simp [hi]
  have hf := forms_get h.2 i _ hx
  simp only [Nat.zero_add] at hf
  have hlast : i + 1 = ins.length → ins[i].op = 15 := by
    intro h1
    have h2 := h.1
    simp only [headB, Bool.and_eq_true, decide_eq_true_eq] at h2
    have h3 := h2.2
    unfold lastOp at h3
    rw [List.getLast?_eq_getElem?, show ins.length - 1 = i by omega, hx] at h3
    simpa using h3
  unfold succI at hj
  split at hj
  · simp at hj
  · unfold nextI at hj
    rw [hx] at hj
    simp only at hj
    unfold formB at hf
    by_cases h9 : ins[i].op = 9
    · simp [h9] at hj hf
      omega
    · by_cases h10 : ins[i].op = 10
      · simp [h10] at hj hf
        have : i + 1 ≠ ins.length := fun h => by have := hlast h; omega
        omega
      · by_cases h15 : ins[i].op = 15
        · simp [h15] at hj
        · simp [h9, h10, h15] at hj
          have : i + 1 ≠ ins.length := fun h => h15 (hlast h)
          omega
theorem round_iff {pins : Int → Nat} {ins : List Ins} {vars cells : Int} (h : okForms pins ins vars cells = true) :
    rounds (succP ins) (ins.length + 1) (List.range ins.length) (List.replicate ins.length 0) = true ↔ ∃ i < ins.length, ¬ Ends (succI ins) i := by
  rw [rounds_iff (succP ins) ins.length (ins.length + 1) (by omega) (fun i hi j hj => succ_in h i hi j (List.mem_filter.1 hj).1)]
  simp only [succ_ends]
end Go.Am
end
section
namespace Go.Am
open Go Go.Proofs
variable [Inhabited Mx2]
set_option maxRecDepth 20000
@[simp] def insD (x : Ins) : D := .agg [.int .i64 x.op, .int .i64 x.a, .int .i64 x.b, .int .i64 x.n, .int .i64 x.m]
@[simp] def kBox (ins : List Ins) (vars cells : Int) (x y : AV) : Cont := .box [.d (.list (ins.map insD)), .d (.int .i64 vars), .d (.int .i64 cells), x, y]
@[simp] def bD (l : List Bool) : List D := l.map .bool

section
variable (ins : List Ins) (vars cells : Int) (s1 o1 n1 s2 o2 n2 : Nat) (S T : List D)
theorem cell_run (at_ n : Int) (hc : 0 ≤ cells ∧ cells ≤ 8192) (hI : I64 n) :
    callT ctx 117 [.ptr 0 0 0, .d (.int .i64 at_), .d (.int .i64 n)] [kBox ins vars cells (.vec 1 0 0 n1) (.vec 2 0 0 n2), .vec 1 S, .vec 1 T] =
      some (.ret (.d (.bool (cellB cells at_ n))), [(0, kBox ins vars cells (.vec 1 0 0 n1) (.vec 2 0 0 n2)), (0, .vec 1 S), (0, .vec 1 T)]) := by
  rw [run117 (by simp)]
  unfold cellB
  by_cases h1 : 0 ≤ at_ <;> by_cases h2 : 0 ≤ n <;> by_cases h3 : n ≤ cells <;> simp [Tryd.f117, h1, h2, h3]
  rw [wrap_id (by unfold I64; omega)]
theorem array_run (x : Ins) (hc : 0 ≤ cells ∧ cells ≤ 8192) :
    callT ctx 118 [.ptr 0 0 0, .d (insD x)] [kBox ins vars cells (.vec 1 0 0 n1) (.vec 2 0 0 n2), .vec 1 S, .vec 1 T] =
      some (.ret (.d (.bool (arrB cells x))), [(0, kBox ins vars cells (.vec 1 0 0 n1) (.vec 2 0 0 n2)), (0, .vec 1 S), (0, .vec 1 T)]) := by
  rw [run118 (by simp)]
  unfold arrB
  by_cases h1 : 0 ≤ x.n
  · by_cases h2 : x.n ≤ x.m
    · by_cases h3 : x.m ≤ 255
      · have h := cell_run ins vars cells n1 n2 S T x.a (x.m - x.n + 1) hc (by unfold I64; omega)
        have w1 : IntKind.i64.wrap (x.m - x.n) = x.m - x.n := wrap_id (by unfold I64; omega)
        have w2 : IntKind.i64.wrap (x.m - x.n + 1) = x.m - x.n + 1 := wrap_id (by unfold I64; omega)
        simp at h
        simp [Tryd.f118, h1, h2, h3, w1, w2, h]
      · simp [Tryd.f118, h1, h2, h3]
    · simp [Tryd.f118, h1, h2]
  · simp [Tryd.f118, h1]
theorem does_run (x : Ins) : callT ctx 119 [.d (insD x)] [] = some (.ret (.d (.bool (doesB x))), []) := by
  rw [run119 (by simp)]
  unfold doesB
  by_cases h0 : x.a = 0
  · by_cases h1 : x.b = 6
    · simp [Tryd.f119, h0, h1]
    · by_cases h2 : 8 ≤ x.b <;> simp [Tryd.f119, h0, h1, h2]
  · by_cases h1 : x.a = 1
    · by_cases h2 : x.b = 7
      · simp [Tryd.f119, h1, h2]
      · by_cases h3 : x.b = 13
        · simp [Tryd.f119, h1, h3]
        · by_cases h4 : x.b = 14
          · simp [Tryd.f119, h1, h4]
          · by_cases h5 : 19 ≤ x.b <;> simp [Tryd.f119, h1, h2, h3, h4, h5]
    · simp [Tryd.f119, h0, h1]
end
end Go.Am
end
section
namespace Go.Am
open Go Go.Proofs
variable [Inhabited Mx2]
set_option maxRecDepth 20000
def PinsOk (f : Nat) (pins : Int → Nat) : Prop := ∀ b : Int, ∃ l : List D, callT ctx f [.d (.int .i64 b)] [] = some (.ret (.d (.list l)), []) ∧ l.length = pins b ∧ pins b ≤ 100
set_option maxHeartbeats 2000000 in
theorem form_run (pins : Int → Nat) (hp : PinsOk 109 pins) (ins : List Ins) (vars cells : Int) (n1 n2 : Nat) (S T : List D) (at_ : Int) (x : Ins) (hc : 0 ≤ cells ∧ cells ≤ 8192) (hl : ins.length ≤ 5000) :
    callT ctx 75 [.ptr 0 0 0, .d (.int .i64 at_), .d (insD x)] [kBox ins vars cells (.vec 1 0 0 n1) (.vec 2 0 0 n2), .vec 1 S, .vec 1 T] =
      some (.ret (.d (.bool (formB pins cells ((ins.length : Int) - 1) at_ x))), [(0, kBox ins vars cells (.vec 1 0 0 n1) (.vec 2 0 0 n2)), (0, .vec 1 S), (0, .vec 1 T)]) := by
  have hA1 := cell_run ins vars cells n1 n2 S T x.a 1 hc (by unfold I64; omega)
  have w1 : IntKind.i64.wrap ((ins.length : Int) - 1) = (ins.length : Int) - 1 := wrap_id (by unfold I64; omega)
  rw [run75 (by simp)]
  unfold formB
  simp at hA1
  by_cases e1 : x.op = 1
  · simp [Tryd.f75, w1, e1]
  by_cases e11 : x.op = 11
  · simp [Tryd.f75, w1, e11]
  by_cases e2 : x.op = 2
  · simp [Tryd.f75, w1, e2, hA1]
  by_cases e3 : x.op = 3
  · simp [Tryd.f75, w1, e3, hA1]
  by_cases e6 : x.op = 6
  · simp [Tryd.f75, w1, e6, hA1]
  by_cases e14 : x.op = 14
  · simp [Tryd.f75, w1, e14, hA1]
  by_cases e13 : x.op = 13
  · have hB2 := cell_run ins vars cells n1 n2 S T x.b 2 hc (by unfold I64; omega)
    simp at hB2
    cases hq : cellB cells x.a 1 <;> simp [Tryd.f75, w1, e13, hA1, hB2, hq]
  have harr := array_run ins vars cells n1 n2 S T x hc
  simp at harr
  by_cases e4 : x.op = 4
  · simp [e4] at harr
    simp [Tryd.f75, w1, e4, harr]
  by_cases e5 : x.op = 5
  · simp [e5] at harr
    simp [Tryd.f75, w1, e5, harr]
  by_cases e7 : x.op = 7
  · simp [e7] at harr
    simp [Tryd.f75, w1, e7, harr]
  by_cases e8 : x.op = 8
  · have hd := does_run x
    simp [e8] at hd
    simp [Tryd.f75, w1, e8, hd]
  by_cases e9 : x.op = 9
  · by_cases h0 : 0 ≤ x.a <;> simp [Tryd.f75, w1, e9, h0]
  by_cases e10 : x.op = 10
  · by_cases h0 : 0 ≤ x.a <;> simp [Tryd.f75, w1, e10, h0]
  by_cases e12 : x.op = 12
  · obtain ⟨l, hl1, hl2, hl3⟩ := hp x.b
    have hB := cell_run ins vars cells n1 n2 S T x.a (pins x.b) hc (by unfold I64; omega)
    simp at hB
    by_cases h0 : 0 < pins x.b
    · simp [Tryd.f75, w1, e12, h0, hl1, hl2, hB]
    · simp [Tryd.f75, w1, e12, h0, hl1, hl2, hB]
  by_cases e15 : x.op = 15
  · simp [Tryd.f75, w1, e15]
  · simp [Tryd.f75, w1, e1, e2, e3, e4, e5, e6, e7, e8, e9, e10, e11, e12, e13, e14, e15]
end Go.Am
end
section
namespace Go.Am
open Go Go.Proofs
variable [Inhabited Mx2]
set_option maxRecDepth 20000
theorem forms_loop (pins : Int → Nat) (hp : PinsOk 109 pins) (vars cells : Int) (n1 n2 : Nat) (S T : List D) (B : Cont) (hc : 0 ≤ cells ∧ cells ≤ 8192) (L : Int) : ∀ (rest pre : List Ins) (v : Nat) (ct : Cont), ((pre ++ rest).length : Int) - 1 = L → (pre ++ rest).length ≤ 5000 → ∀ k : Kt,
    ∃ v' ct', denK ctx 37 (.loop (Code.at (codeOf Tryd.f37) [1, 1, 1, 1, 0, 1, 0, 0])) ⟨66, gl0, [(0, true, .ptr 0 0 0), (53, true, .d (.list ((pre ++ rest).map insD))), (54, true, .d (.int .i64 (pre ++ rest).length)), (55, true, .d (.int .i64 pre.length))],
        [⟨0, 0, kBox (pre ++ rest) vars cells (.vec 1 0 0 n1) (.vec 2 0 0 n2)⟩, ⟨1, 0, .vec 1 S⟩, ⟨2, 0, .vec 1 T⟩, ⟨250, 1, B⟩, ⟨400, v, ct⟩]⟩ k =
      if formsB pins cells L pre.length rest = true then
        k (.exit 0) ⟨66, gl0, [(0, true, .ptr 0 0 0), (53, true, .d (.list ((pre ++ rest).map insD))), (54, true, .d (.int .i64 (pre ++ rest).length)), (55, true, .d (.int .i64 (pre ++ rest).length)), (56, true, .d (.bool false))],
        [⟨0, 0, kBox (pre ++ rest) vars cells (.vec 1 0 0 n1) (.vec 2 0 0 n2)⟩, ⟨1, 0, .vec 1 S⟩, ⟨2, 0, .vec 1 T⟩, ⟨250, 1, B⟩, ⟨400, v', ct'⟩]⟩
      else k .ret ⟨66, gl0, [(2, true, .d (.bool false))], [⟨0, 0, kBox (pre ++ rest) vars cells (.vec 1 0 0 n1) (.vec 2 0 0 n2)⟩, ⟨1, 0, .vec 1 S⟩, ⟨2, 0, .vec 1 T⟩, ⟨250, 1, B⟩, ⟨400, v', ct'⟩]⟩
  | [], pre, v, ct, hL, hl, k => by
    refine ⟨v, ct, ?_⟩
    rw [denK_loop]
    simp [Tryd.f37, formsB]
  | x :: rest, pre, v, ct, hL, hl, k => by
    have hf := form_run pins hp (pre ++ x :: rest) vars cells n1 n2 S T pre.length x hc hl
    rw [hL] at hf
    have h1 : (pre.length : Int) < pre.length + (rest.length + 1) := by omega
    have h2 : IntKind.i64.wrap ((pre.length : Int) + 1) = pre.length + 1 := wrap_id (by unfold I64; simp at hl; omega)
    cases hq : formB pins cells L pre.length x
    · refine ⟨v + 1, .box [.d (.int .i64 x.op), .d (.int .i64 x.a), .d (.int .i64 x.b), .d (.int .i64 x.n), .d (.int .i64 x.m)], ?_⟩
      rw [denK_loop]
      simp [hq] at hf
      simp [Tryd.f37, formsB, hq]
      simp [h1, hf]
    · obtain ⟨v', ct', ih⟩ := forms_loop pins hp vars cells n1 n2 S T B hc L rest (pre ++ [x]) (v + 1) (.box [.d (.int .i64 x.op), .d (.int .i64 x.a), .d (.int .i64 x.b), .d (.int .i64 x.n), .d (.int .i64 x.m)]) (by simpa using hL) (by simpa using hl) k
      refine ⟨v', ct', ?_⟩
      rw [denK_loop]
      simp [hq] at hf
      simp [Tryd.f37, formsB, hq] at ih ⊢
      simp [h1, h2, hf, ih]
theorem forms_run (pins : Int → Nat) (hp : PinsOk 109 pins) (ins : List Ins) (vars cells : Int) (n1 n2 : Nat) (S T : List D) (hl : ins.length ≤ 5000) :
    callT ctx 37 [.ptr 0 0 0] [kBox ins vars cells (.vec 1 0 0 n1) (.vec 2 0 0 n2), .vec 1 S, .vec 1 T] =
      some (.ret (.d (.bool (okForms pins ins vars cells))), [(0, kBox ins vars cells (.vec 1 0 0 n1) (.vec 2 0 0 n2)), (0, .vec 1 S), (0, .vec 1 T)]) := by
  rw [run37 (by simp)]
  unfold okForms headB
  by_cases h1 : 1 ≤ (ins.length : Int)
  · have c1 : ¬ ((ins.length : Int) < 1) := by omega
    obtain ⟨ini, last, rfl⟩ : ∃ ini last, ins = ini ++ [last] := ⟨ins.dropLast, ins.getLast (by intro h; simp [h] at h1), (List.dropLast_concat_getLast _).symm⟩
    have hlast : lastOp (ini ++ [last]) = last.op := by simp [lastOp]
    rw [hlast]
    have w1 : IntKind.i64.wrap ((ini.length : Int) + 1 - 1) = ini.length := by rw [wrap_id (by unfold I64; simp at hl; omega)]; omega
    simp at w1
    simp only [List.length_append, List.length_cons, List.length_nil] at hl
    by_cases h2 : (ini.length : Int) + 1 ≤ 4096
    rotate_left
    · have h2' : (4096 : Int) < (ini.length : Int) + 1 := by omega
      simp [Tryd.f37, h2, h2', w1]
    have h2' : ¬ ((4096 : Int) < (ini.length : Int) + 1) := by omega
    by_cases h3 : 0 ≤ cells
    rotate_left
    · simp [Tryd.f37, h2, h2', h3, w1]
    by_cases h4 : cells ≤ 8192
    rotate_left
    · simp [Tryd.f37, h2, h2', h3, h4, w1]
    by_cases h5 : 0 ≤ vars
    rotate_left
    · simp [Tryd.f37, h2, h2', h3, h4, h5, w1]
    by_cases h6 : vars ≤ cells
    rotate_left
    · simp [Tryd.f37, h2, h2', h3, h4, h5, h6, w1]
    by_cases h7 : last.op = 15
    rotate_left
    · simp [Tryd.f37, h2, h2', h3, h4, h5, h6, h7, w1]
    have h8 : (1 : Int) ≤ (ini.length : Int) + 1 := by omega
    have hloop := fun B => forms_loop pins hp vars cells n1 n2 S T B ⟨h3, h4⟩ ini.length (ini ++ [last]) [] 0 .dead (by simp) (by simp; omega)
    simp [Tryd.f37, h2, h2', h3, h4, h5, h6, h7, h8, w1] at hloop ⊢
    obtain ⟨v', ct', h9⟩ := hloop _ _
    rw [h9]
    split
    · rename_i q; simp [q]
    · rename_i q; simp [q]
  · have c1 : (ins.length : Int) < 1 := by omega
    simp [Tryd.f37, c1, h1]
end Go.Am
end
section
namespace Go.Am
open Go Go.Proofs
variable [Inhabited Mx2]
set_option maxRecDepth 20000
section
variable (ins : List Ins) (vars cells : Int) (n2 : Nat) (T : List D)
theorem give_run (t : Bool) (S : List Bool) (hl : S.length ≤ 5000) :
    callT ctx 120 [.ptr 0 0 0, .d (.bool t)] [kBox ins vars cells (.vec 1 0 0 S.length) (.vec 2 0 0 n2), .vec 1 (bD S), .vec 1 T] =
      some (.ret (.d (.bool (decide (S.length < 64)))), [(0, kBox ins vars cells (.vec 1 1 0 (S.length + 1)) (.vec 2 0 0 n2)), (1, .vec 1 (bD (S ++ [t]))), (0, .vec 1 T)]) := by
  have g1 : S.length + 1 ≤ 140737488355328 ∧ S.length ≤ 4611686018427387903 := by omega
  have g2 : ((S.length : Int) + 1 ≤ 64) = (S.length < 64) := by simp; omega
  rw [run120 (by simp)]
  simp [Tryd.f120, g1, g2]
theorem empty_run (S : List D) (n1 : Nat) :
    callT ctx 76 [.ptr 0 0 0] [kBox ins vars cells (.vec 1 0 0 n1) (.vec 2 0 0 n2), .vec 1 S, .vec 1 T] =
      some (.ret (.d (.bool (decide (n1 = 0)))), [(0, kBox ins vars cells (.vec 1 0 0 n1) (.vec 2 0 0 n2)), (0, .vec 1 S), (0, .vec 1 T)]) := by
  rw [run76 (by simp)]
  by_cases q : n1 = 0 <;> simp [Tryd.f76, q]
theorem take_loop (n : Nat) (t : Bool) (A : List Bool) (hA : A.length ≤ 5000) : ∀ (rest pre : List Bool), (pre ++ rest).length = n → n ≤ 5000 → ∀ k : Kt,
    denK ctx 121 (.loop (Code.at (codeOf Tryd.f121) [1, 1, 0, 1, 0, 0])) ⟨54, gl0, [(0, true, .ptr 0 0 0), (1, true, .d (.int .i64 n)), (2, true, .d (.bool t)), (27, true, .vec 1 0 A.length n), (28, true, .d (.int .i64 n)), (29, true, .d (.int .i64 pre.length))],
      [⟨0, 0, kBox ins vars cells (.vec 1 0 0 (A ++ (pre ++ rest)).length) (.vec 2 0 0 n2)⟩, ⟨1, 0, .vec 1 (bD (A ++ (pre ++ rest)))⟩, ⟨2, 0, .vec 1 T⟩]⟩ k =
      if (t && rest.any (fun b => !b)) = true then k .ret ⟨54, gl0, [(6, true, .d (.bool false))], [⟨0, 0, kBox ins vars cells (.vec 1 0 0 (A ++ (pre ++ rest)).length) (.vec 2 0 0 n2)⟩, ⟨1, 0, .vec 1 (bD (A ++ (pre ++ rest)))⟩, ⟨2, 0, .vec 1 T⟩]⟩
      else k (.exit 0) ⟨54, gl0, [(0, true, .ptr 0 0 0), (1, true, .d (.int .i64 n)), (2, true, .d (.bool t)), (27, true, .vec 1 0 A.length n), (28, true, .d (.int .i64 n)), (29, true, .d (.int .i64 n)), (30, true, .d (.bool false))],
      [⟨0, 0, kBox ins vars cells (.vec 1 0 0 (A ++ (pre ++ rest)).length) (.vec 2 0 0 n2)⟩, ⟨1, 0, .vec 1 (bD (A ++ (pre ++ rest)))⟩, ⟨2, 0, .vec 1 T⟩]⟩
  | [], pre, hn, hl, k => by
    subst hn
    rw [denK_loop]
    simp [Tryd.f121]
  | x :: rest, pre, hn, hl, k => by
    have ih := take_loop n t A hA rest (pre ++ [x]) (by simpa using hn) hl k
    have h1 : (pre.length : Int) < n := by simp at hn; omega
    have h1' : pre.length < n := by omega
    have h2 : IntKind.i64.wrap ((pre.length : Int) + 1) = pre.length + 1 := wrap_id (by unfold I64; omega)
    rw [denK_loop]
    simp [Tryd.f121] at ih ⊢
    cases t
    · simp [h1, h1', h2] at ih ⊢
      exact ih
    · cases x
      · simp [h1, h1', h2]
      · simp [h1, h1', h2] at ih ⊢
        exact ih
theorem take_run (n : Nat) (t : Bool) (S : List Bool) (hl : S.length ≤ 5000) (hn : n ≤ 5000) :
    callT ctx 121 [.ptr 0 0 0, .d (.int .i64 n), .d (.bool t)] [kBox ins vars cells (.vec 1 0 0 S.length) (.vec 2 0 0 n2), .vec 1 (bD S), .vec 1 T] =
      match takeS n t S with
      | some S' => some (.ret (.d (.bool true)), [(0, kBox ins vars cells (.vec 1 1 0 S'.length) (.vec 2 0 0 n2)), (1, .vec 1 (bD S')), (0, .vec 1 T)])
      | none => some (.ret (.d (.bool false)), [(0, kBox ins vars cells (.vec 1 1 0 S.length) (.vec 2 0 0 n2)), (1, .vec 1 (bD S)), (0, .vec 1 T)]) := by
  rw [run121 (by simp)]
  unfold takeS
  by_cases h1 : S.length < n
  · have h1' : (S.length : Int) < n := by omega
    simp [Tryd.f121, h1, h1']
  · have h1' : ¬ ((S.length : Int) < n) := by omega
    obtain ⟨A, B, rfl, hB⟩ : ∃ A B, S = A ++ B ∧ B.length = n := ⟨S.take (S.length - n), S.drop (S.length - n), (List.take_append_drop _ _).symm, by simp; omega⟩
    have hA : (A ++ B).length - n = A.length := by simp; omega
    have w1 : IntKind.i64.wrap (((A ++ B).length : Int) - n) = A.length := by rw [wrap_id (by unfold I64; omega)]; simp; omega
    have hloop := take_loop ins vars cells n2 T n t A (by simp at hl; omega) B [] (by simpa using hB) hn
    have hAn : A.length + B.length - A.length = n := by omega
    have hAn2 : A.length + n - A.length = n := by omega
    subst hB
    rw [hA]
    have c1 : ¬ ((A.length : Int) + B.length < B.length) := by omega
    have c2 : (A.length : Int) ≤ (A.length : Int) + B.length := by omega
    have c3 : ((A.length : Int) + B.length).toNat - A.length = B.length := by omega
    have c4 : ¬ (A.length + B.length < B.length) := by omega
    simp at h1 h1' w1
    simp [Tryd.f121] at hloop ⊢
    simp [w1, c1, c2, c3, c4]
    rw [drwK_nil (by kernel_rfl)]
    simp [c1, c2, c3, c4, hloop]
    by_cases q : t = true ∧ false ∈ B
    · simp [q]
    · rw [if_neg q, if_neg q]
      simp [w1, c1, c2, c3, c4]
      rw [drwK_nil (by kernel_rfl)]
      simp [w1]
end
end Go.Am
end
section
namespace Go.Am
open Go Go.Proofs
variable [Inhabited Mx2]
set_option maxRecDepth 20000
section
variable (ins : List Ins) (vars cells : Int) (n2 : Nat) (T : List D)
def MovesOk (x : Ins) (S : List Bool) (r : Ans) : Prop := ∃ S' : List Bool, r = some (.ret (.d (.bool (movesS x S).isSome)), [(0, kBox ins vars cells (.vec 1 1 0 S'.length) (.vec 2 0 0 n2)), (1, .vec 1 (bD S')), (0, .vec 1 T)]) ∧ ∀ S2, movesS x S = some S2 → S2 = S'
theorem takeS_len {n : Nat} {t : Bool} {S S' : List Bool} (h : takeS n t S = some S') : S'.length ≤ S.length := by
  unfold takeS at h
  split at h
  · cases h
  · split at h
    · cases h
    · cases h; simp
set_option maxHeartbeats 4000000 in
theorem moves_run (x : Ins) (S : List Bool) (hl : S.length ≤ 64) :
    MovesOk ins vars cells n2 T x S (callT ctx 77 [.ptr 0 0 0, .d (insD x)] [kBox ins vars cells (.vec 1 0 0 S.length) (.vec 2 0 0 n2), .vec 1 (bD S), .vec 1 T]) := by
  rw [run77 (by simp)]
  unfold MovesOk movesS
  have hgt := give_run ins vars cells n2 T true S (by omega)
  have hgf := give_run ins vars cells n2 T false S (by omega)
  have he := empty_run ins vars cells n2 T (bD S) S.length
  simp at hgt hgf he
  by_cases e1 : x.op = 1
  · refine ⟨S ++ [decide (x.n = 0) || decide (x.n = 1)], ?_, ?_⟩
    · by_cases q : x.n = 0
      · simp [Tryd.f77, e1, q, hgt, giveS]
        split <;> simp [*]
      · by_cases q1 : x.n = 1
        · simp [Tryd.f77, e1, q1, hgt, giveS]
          split <;> simp [*]
        · simp [Tryd.f77, e1, q, q1, hgf, giveS]
          split <;> simp [*]
    · simp [e1, giveS]
  by_cases e2 : x.op = 2
  · refine ⟨S ++ [false], ?_, ?_⟩
    · simp [Tryd.f77, e2, hgf, giveS]
      split <;> simp [*]
    · simp [e2, giveS]
  by_cases e3 : x.op = 3
  · refine ⟨S ++ [true], ?_, ?_⟩
    · simp [Tryd.f77, e3, hgt, giveS]
      split <;> simp [*]
    · simp [e3, giveS]
  by_cases e13 : x.op = 13
  · refine ⟨S ++ [true], ?_, ?_⟩
    · simp [Tryd.f77, e13, hgt, giveS]
      split <;> simp [*]
    · simp [e13, giveS]
  by_cases e14 : x.op = 14
  · refine ⟨S ++ [true], ?_, ?_⟩
    · simp [Tryd.f77, e14, hgt, giveS]
      split <;> simp [*]
    · simp [e14, giveS]
  have ht1 := take_run ins vars cells n2 T 1 false S (by omega) (by omega)
  by_cases e4 : x.op = 4
  · cases q : takeS 1 false S with
    | none =>
      simp [q] at ht1
      refine ⟨S, ?_, ?_⟩
      · simp [Tryd.f77, e4, ht1, q]
      · simp [e4, q]
    | some S1 =>
      have hl1 := takeS_len q
      have hg1 := give_run ins vars cells n2 T false S1 (by omega)
      simp [q] at ht1
      simp at hg1
      refine ⟨S1 ++ [false], ?_, ?_⟩
      · simp [Tryd.f77, e4, ht1, hg1, q, giveS]
        split <;> simp [*]
      · simp [e4, q, giveS]
  by_cases e5 : x.op = 5
  · cases q : takeS 1 false S with
    | none =>
      simp [q] at ht1
      refine ⟨S, ?_, ?_⟩
      · simp [Tryd.f77, e5, ht1, q]
      · simp [e5, q]
    | some S1 =>
      have hl1 := takeS_len q
      have hg1 := give_run ins vars cells n2 T true S1 (by omega)
      simp [q] at ht1
      simp at hg1
      refine ⟨S1 ++ [true], ?_, ?_⟩
      · simp [Tryd.f77, e5, ht1, hg1, q, giveS]
        split <;> simp [*]
      · simp [e5, q, giveS]
  by_cases e6 : x.op = 6
  · cases q : takeS 1 false S with
    | none =>
      simp [q] at ht1
      refine ⟨S, ?_, ?_⟩
      · simp [Tryd.f77, e6, ht1, q]
      · simp [e6, q]
    | some S1 =>
      simp [q] at ht1
      refine ⟨S1, ?_, ?_⟩
      · simp [Tryd.f77, e6, ht1, q]
      · simp [e6, q]
  by_cases e7 : x.op = 7
  · have ht2 := take_run ins vars cells n2 T 2 false S (by omega) (by omega)
    cases q : takeS 2 false S with
    | none =>
      simp [q] at ht2
      refine ⟨S, ?_, ?_⟩
      · simp [Tryd.f77, e7, ht2, q]
      · simp [e7, q]
    | some S1 =>
      simp [q] at ht2
      refine ⟨S1, ?_, ?_⟩
      · simp [Tryd.f77, e7, ht2, q]
      · simp [e7, q]
  by_cases e10 : x.op = 10
  · have ht2 := take_run ins vars cells n2 T 1 true S (by omega) (by omega)
    cases q : takeS 1 true S with
    | none =>
      simp [q] at ht2
      refine ⟨S, ?_, ?_⟩
      · simp [Tryd.f77, e10, ht2, q]
      · simp [e10, q]
    | some S1 =>
      have he1 := empty_run ins vars cells n2 T (bD S1) S1.length
      simp at he1
      simp [q] at ht2
      refine ⟨S1, ?_, ?_⟩
      · simp [Tryd.f77, e10, ht2, q, emptyS, he1]
        split <;> simp [*]
      · simp [e10, q, emptyS]
  by_cases e8 : x.op = 8
  · obtain ⟨n, hn⟩ : ∃ n : Nat, n = (if x.b = 6 ∨ x.b = 7 then 1 else 2) := ⟨_, rfl⟩
    obtain ⟨g, hg⟩ : ∃ g, g = (decide (x.b = 7) || decide (13 ≤ x.b)) := ⟨_, rfl⟩
    have hn2 : n ≤ 2 := by rw [hn]; split <;> omega
    have ht2 := take_run ins vars cells n2 T n (decide (x.a = 1)) S (by omega) (by omega)
    rw [← hn, ← hg]
    have hc : (x.b = 6 ∧ n = 1 ∧ g = false) ∨ (x.b = 7 ∧ n = 1 ∧ g = true) ∨ (x.b ≠ 6 ∧ x.b ≠ 7 ∧ ¬ 13 ≤ x.b ∧ n = 2 ∧ g = false) ∨ (x.b ≠ 6 ∧ x.b ≠ 7 ∧ 13 ≤ x.b ∧ n = 2 ∧ g = true) := by
      rw [hn, hg]
      by_cases h6 : x.b = 6
      · simp [h6]
      · by_cases h7 : x.b = 7
        · simp [h7]
        · by_cases h13 : 13 ≤ x.b <;> simp [h6, h7, h13]
    clear hn hg
    cases q : takeS n (decide (x.a = 1)) S with
    | none =>
      simp [q] at ht2
      refine ⟨S, ?_, ?_⟩
      · rcases hc with ⟨h1, rfl, rfl⟩ | ⟨h1, rfl, rfl⟩ | ⟨h1, h2, h3, rfl, rfl⟩ | ⟨h1, h2, h3, rfl, rfl⟩
        · simp at ht2
          simp [Tryd.f77, e8, h1, ht2, q]
        · simp at ht2
          simp [Tryd.f77, e8, h1, ht2, q]
        · simp at ht2
          simp [Tryd.f77, e8, h1, h2, h3, ht2, q]
        · simp at ht2
          simp [Tryd.f77, e8, h1, h2, h3, ht2, q]
      · simp [e8, q]
    | some S1 =>
      have hl1 := takeS_len q
      have hg1 := give_run ins vars cells n2 T g S1 (by omega)
      simp [q] at ht2
      simp at hg1
      refine ⟨S1 ++ [g], ?_, ?_⟩
      · rcases hc with ⟨h1, rfl, rfl⟩ | ⟨h1, rfl, rfl⟩ | ⟨h1, h2, h3, rfl, rfl⟩ | ⟨h1, h2, h3, rfl, rfl⟩
        · simp at ht2
          simp [Tryd.f77, e8, h1, ht2, hg1, q, giveS]
          split <;> simp [*]
        · simp at ht2
          simp [Tryd.f77, e8, h1, ht2, hg1, q, giveS]
          split <;> simp [*]
        · simp at ht2
          simp [Tryd.f77, e8, h1, h2, h3, ht2, hg1, q, giveS]
          split <;> simp [*]
        · simp at ht2
          simp [Tryd.f77, e8, h1, h2, h3, ht2, hg1, q, giveS]
          split <;> simp [*]
      · simp [e8, q, giveS]
  · refine ⟨S, ?_, ?_⟩
    · simp [Tryd.f77, e1, e2, e3, e4, e5, e6, e7, e8, e10, e13, e14, emptyS, he]
      split <;> simp [*]
    · simp [e1, e2, e3, e4, e5, e6, e7, e8, e10, e13, e14, emptyS]
end
end Go.Am
end
section
namespace Go.Am
open Go Go.Proofs
variable [Inhabited Mx2]
set_option maxRecDepth 20000
def ledStep (l : List Bool) (x : Ins) : List Bool := if x.op = 9 ∨ x.op = 10 then l.set x.a.toNat true else l
theorem ledStep_len (l : List Bool) (x : Ins) : (ledStep l x).length = l.length := by unfold ledStep; split <;> simp
theorem bD_set (l : List Bool) (i : Nat) (b : Bool) : (bD l).set i (.bool b) = bD (l.set i b) := by simp [bD, List.map_set]
theorem movesS_len {x : Ins} {S S' : List Bool} (hl : S.length ≤ 64) (h : movesS x S = some S') : S'.length ≤ 64 := by
  have g : ∀ {t S S'}, giveS t S = some S' → S'.length ≤ 64 := by
    intro t S S' h
    unfold giveS at h
    split at h
    · cases h; simp; omega
    · cases h
  have e : ∀ {S S'}, emptyS S = some S' → S'.length ≤ 64 := by
    intro S S' h
    unfold emptyS at h
    split at h
    · cases h; simp
    · cases h
  have tk : ∀ {n t S'}, takeS n t S = some S' → S'.length ≤ 64 := fun h => Nat.le_trans (takeS_len h) hl
  unfold movesS at h
  repeat' split at h
  all_goals first
    | exact g h
    | exact e h
    | exact tk h
    | (obtain ⟨y, _, h2⟩ := Option.bind_eq_some_iff.1 h; exact g h2)
    | (obtain ⟨y, _, h2⟩ := Option.bind_eq_some_iff.1 h; exact e h2)
section
variable (ins : List Ins) (vars cells : Int)
theorem led_loop (B : Cont) : ∀ (rest pre : List Ins) (T : List Bool) (v : Nat) (ct : Cont), (pre ++ rest).length ≤ 5000 → (∀ x ∈ rest, x.op = 9 ∨ x.op = 10 → 0 ≤ x.a ∧ x.a < T.length) → ∀ k : Kt,
    ∃ v' ct', denK ctx 38 (.loop (Code.at (codeOf Tryd.f38) [1, 0, 1, 0, 0])) ⟨63, gl0, [(0, true, .ptr 0 0 0), (11, true, .d (.list ((pre ++ rest).map insD))), (12, true, .d (.int .i64 (pre ++ rest).length)), (13, true, .d (.int .i64 pre.length))],
        [⟨0, 0, kBox ins vars cells (.vec 1 0 0 0) (.vec 2 0 0 T.length)⟩, ⟨1, 0, .vec 1 []⟩, ⟨2, 0, .vec 1 (bD T)⟩, ⟨300, v, ct⟩, ⟨400, 0, B⟩]⟩ k =
      k (.exit 0) ⟨63, gl0, [(0, true, .ptr 0 0 0), (11, true, .d (.list ((pre ++ rest).map insD))), (12, true, .d (.int .i64 (pre ++ rest).length)), (13, true, .d (.int .i64 (pre ++ rest).length)), (14, true, .d (.bool false))],
        [⟨0, 0, kBox ins vars cells (.vec 1 0 0 0) (.vec 2 0 0 T.length)⟩, ⟨1, 0, .vec 1 []⟩, ⟨2, 0, .vec 1 (bD (rest.foldl ledStep T))⟩, ⟨300, v', ct'⟩, ⟨400, 0, B⟩]⟩
  | [], pre, T, v, ct, hl, hT, k => by
    refine ⟨v, ct, ?_⟩
    rw [denK_loop]
    simp [Tryd.f38]
  | x :: rest, pre, T, v, ct, hl, hT, k => by
    obtain ⟨v', ct', ih⟩ := led_loop B rest (pre ++ [x]) (ledStep T x) (v + 1) (.box [.d (.int .i64 x.op), .d (.int .i64 x.a), .d (.int .i64 x.b), .d (.int .i64 x.n), .d (.int .i64 x.m)]) (by simpa using hl) (fun y hy h => by rw [ledStep_len]; exact hT y (by simp [hy]) h) k
    refine ⟨v', ct', ?_⟩
    have h1 : (pre.length : Int) < pre.length + (rest.length + 1) := by omega
    have h2 : IntKind.i64.wrap ((pre.length : Int) + 1) = pre.length + 1 := wrap_id (by unfold I64; simp at hl; omega)
    rw [ledStep_len] at ih
    rw [denK_loop]
    by_cases e9 : x.op = 9
    · obtain ⟨a1, a2⟩ := hT x (by simp) (.inl e9)
      have a3 : x.a.toNat < T.length := by omega
      have e : ledStep T x = T.set x.a.toNat true := by simp [ledStep, e9]
      rw [e, ← bD_set] at ih
      simp [Tryd.f38, e9] at ih ⊢
      simp [h1, h2, a1, a3]
      rw [drwK_nil (by kernel_rfl)]
      simp [h2, e, ih]
    · by_cases e10 : x.op = 10
      · obtain ⟨a1, a2⟩ := hT x (by simp) (.inr e10)
        have a3 : x.a.toNat < T.length := by omega
        have e : ledStep T x = T.set x.a.toNat true := by simp [ledStep, e10]
        rw [e, ← bD_set] at ih
        simp [Tryd.f38, e10] at ih ⊢
        simp [h1, h2, a1, a3]
        rw [drwK_nil (by kernel_rfl)]
        simp [h2, e, ih]
      · have e : ledStep T x = T := by simp [ledStep, e9, e10]
        rw [e] at ih
        simp [Tryd.f38, e9, e10] at ih ⊢
        simp [h1, h2, e, ih]
theorem stk_loop (L : List Bool) : ∀ (rest pre : List Ins) (S : List Bool) (v v1 : Nat) (B : Cont), (pre ++ rest).length = L.length → L.length ≤ 5000 → S.length ≤ 64 → ∀ (C : Cont) (vc : Nat) (k : Kt),
    ∃ v' v1' ct' S', denK ctx 38 (.loop (Code.at (codeOf Tryd.f38) [1, 1, 0, 1, 0, 0])) ⟨63, gl0, [(0, true, .ptr 0 0 0), (37, true, .d (.list ((pre ++ rest).map insD))), (38, true, .d (.int .i64 (pre ++ rest).length)), (39, true, .d (.int .i64 pre.length))],
        [⟨0, 0, kBox ins vars cells (.vec 1 v1 0 S.length) (.vec 2 0 0 L.length)⟩, ⟨1, v1, .vec 1 (bD S)⟩, ⟨2, 0, .vec 1 (bD L)⟩, ⟨300, vc, C⟩, ⟨400, v, B⟩]⟩ k =
      if stackS L pre.length rest S = true then
        k (.exit 2) ⟨63, gl0, [(0, true, .ptr 0 0 0), (37, true, .d (.list ((pre ++ rest).map insD))), (38, true, .d (.int .i64 (pre ++ rest).length)), (39, true, .d (.int .i64 (pre ++ rest).length)), (40, true, .d (.bool false))],
          [⟨0, 0, kBox ins vars cells (.vec 1 v1' 0 (S' : List Bool).length) (.vec 2 0 0 L.length)⟩, ⟨1, v1', .vec 1 (bD S')⟩, ⟨2, 0, .vec 1 (bD L)⟩, ⟨300, vc, C⟩, ⟨400, v', ct'⟩]⟩
      else k .ret ⟨63, gl0, [(2, true, .d (.bool false))], [⟨0, 0, kBox ins vars cells (.vec 1 v1' 0 S'.length) (.vec 2 0 0 L.length)⟩, ⟨1, v1', .vec 1 (bD S')⟩, ⟨2, 0, .vec 1 (bD L)⟩, ⟨300, vc, C⟩, ⟨400, v', ct'⟩]⟩
  | [], pre, S, v, v1, B, hl, hL, hS, C, vc, k => by
    refine ⟨v, v1, B, S, ?_⟩
    rw [denK_loop]
    simp [Tryd.f38, stackS]
  | x :: rest, pre, S, v, v1, B, hl, hL, hS, C, vc, k => by
    have h1 : (pre.length : Int) < pre.length + (rest.length + 1) := by omega
    have h2 : IntKind.i64.wrap ((pre.length : Int) + 1) = pre.length + 1 := wrap_id (by unfold I64; simp at hl; omega)
    have hp : pre.length < L.length := by simp at hl; omega
    obtain ⟨S2, hm, hm2⟩ := moves_run ins vars cells L.length (bD L) x S hS
    have he := empty_run ins vars cells L.length (bD L) (bD S) S.length
    have hget : (L.getD pre.length false) = L[pre.length] := by simp [hp]
    cases hb : L[pre.length]
    · cases hmv : movesS x S with
      | none =>
        refine ⟨v + 1, v1 + 1, .box [.d (.int .i64 x.op), .d (.int .i64 x.a), .d (.int .i64 x.b), .d (.int .i64 x.n), .d (.int .i64 x.m)], S2, ?_⟩
        rw [denK_loop]
        have hst : stackS L pre.length (x :: rest) S = false := by simp [stackS, hget, hb, hmv]
        rw [hst]
        simp [hmv] at hm
        simp [Tryd.f38, h1, hp, hb, hm]
      | some S3 =>
        have hS3 := movesS_len hS hmv
        obtain rfl := hm2 S3 hmv
        obtain ⟨v', v1', ct', S', ih⟩ := stk_loop L rest (pre ++ [x]) S3 (v + 1) (v1 + 1) (.box [.d (.int .i64 x.op), .d (.int .i64 x.a), .d (.int .i64 x.b), .d (.int .i64 x.n), .d (.int .i64 x.m)]) (by simpa using hl) hL hS3 C vc k
        refine ⟨v', v1', ct', S', ?_⟩
        have hst : stackS L pre.length (x :: rest) S = stackS L (pre ++ [x]).length rest S3 := by rw [stackS, hget, hb]; simp [hmv]
        rw [hst, denK_loop]
        simp [hmv] at hm
        simp [Tryd.f38] at ih ⊢
        simp [h1, h2, hp, hb, hm, ih]
    · cases S with
      | nil =>
        simp at he
        cases hmv : movesS x [] with
        | none =>
          refine ⟨v + 1, v1 + 1, .box [.d (.int .i64 x.op), .d (.int .i64 x.a), .d (.int .i64 x.b), .d (.int .i64 x.n), .d (.int .i64 x.m)], S2, ?_⟩
          rw [denK_loop]
          have hst : stackS L pre.length (x :: rest) [] = false := by simp [stackS, hmv]
          rw [hst]
          simp [hmv] at hm
          simp [Tryd.f38, h1, hp, hb, hm, he]
        | some S3 =>
          have hS3 := movesS_len hS hmv
          obtain rfl := hm2 S3 hmv
          obtain ⟨v', v1', ct', S', ih⟩ := stk_loop L rest (pre ++ [x]) S3 (v + 1) (v1 + 1) (.box [.d (.int .i64 x.op), .d (.int .i64 x.a), .d (.int .i64 x.b), .d (.int .i64 x.n), .d (.int .i64 x.m)]) (by simpa using hl) hL hS3 C vc k
          refine ⟨v', v1', ct', S', ?_⟩
          have hst : stackS L pre.length (x :: rest) [] = stackS L (pre ++ [x]).length rest S3 := by simp [stackS, hmv]
          rw [hst, denK_loop]
          simp [hmv] at hm
          simp [Tryd.f38] at ih ⊢
          simp [h1, h2, hp, hb, hm, he, ih]
      | cons y S =>
        refine ⟨v + 1, v1, .box [.d (.int .i64 x.op), .d (.int .i64 x.a), .d (.int .i64 x.b), .d (.int .i64 x.n), .d (.int .i64 x.m)], y :: S, ?_⟩
        have hst : stackS L pre.length (x :: rest) (y :: S) = false := by rw [stackS, hget, hb]; simp
        rw [hst, denK_loop]
        simp at he
        simp [Tryd.f38, h1, hp, hb, he]
theorem stacks_run (hl : ins.length ≤ 5000) (hA : ∀ x ∈ ins, x.op = 9 ∨ x.op = 10 → 0 ≤ x.a ∧ x.a < ins.length) :
    ∃ S', callT ctx 38 [.ptr 0 0 0] [kBox ins vars cells (.vec 1 0 0 0) (.vec 2 0 0 ins.length), .vec 1 [], .vec 1 (bD (List.replicate ins.length false))] =
      some (.ret (.d (.bool (stackS (ledOf ins) 0 ins []))), [(0, kBox ins vars cells (.vec 1 1 0 (S' : List Bool).length) (.vec 2 1 0 ins.length)), (1, .vec 1 (bD S')), (1, .vec 1 (bD (ledOf ins)))]) := by
  have hll : (ledOf ins).length = ins.length := by
    have : ∀ (l : List Ins) (T : List Bool), (l.foldl ledStep T).length = T.length := by
      intro l
      induction l with
      | nil => intro T; rfl
      | cons x l ih => intro T; simp only [List.foldl_cons]; rw [ih, ledStep_len]
    rw [show ledOf ins = ins.foldl ledStep (List.replicate ins.length false) from rfl, this]; simp
  have h1 := fun B => led_loop ins vars cells B ins [] (List.replicate ins.length false) 0 .dead hl (by simpa using hA)
  rw [show ins.foldl ledStep (List.replicate ins.length false) = ledOf ins from rfl] at h1
  have h2 := fun C vc => stk_loop ins vars cells (ledOf ins) ins [] [] 0 0 .dead (by simp [hll]) (by omega) (by simp) C vc
  generalize ledOf ins = L at hll h1 h2
  generalize hr : callT ctx 38 _ _ = r
  rw [run38 (by simp)] at hr
  simp [Tryd.f38, hll] at h1 h2 hr
  obtain ⟨f1, h1⟩ := Classical.axiomOfChoice (h1 .dead)
  obtain ⟨f2, h1⟩ := Classical.axiomOfChoice h1
  rw [h1] at hr
  clear h1
  generalize f1 _ = a at hr
  generalize f2 _ = b at hr
  simp at hr
  replace h2 := h2 b a
  obtain ⟨g1, h2⟩ := Classical.axiomOfChoice h2
  obtain ⟨g2, h2⟩ := Classical.axiomOfChoice h2
  obtain ⟨g3, h2⟩ := Classical.axiomOfChoice h2
  obtain ⟨g4, h2⟩ := Classical.axiomOfChoice h2
  rw [h2] at hr
  clear h2
  generalize g1 _ = a1 at hr
  generalize g2 _ = a2 at hr
  generalize g3 _ = a3 at hr
  generalize g4 _ = S' at hr
  refine ⟨S', ?_⟩
  rw [← hr]
  have hl2 : ins.length ≤ L.length := by omega
  have ht : List.take ins.length (List.map D.bool L) = List.map D.bool L := by rw [← hll]; simp
  cases hq : stackS L 0 ins []
  · simp [hl2, ht]
  · simp [hl2, ht]
end
end Go.Am
end
section
namespace Go.Am
open Go Go.Proofs
variable [Inhabited Mx2]
set_option maxRecDepth 20000
theorem dfs_keeps (succ : Nat → List Nat) : ∀ f : Nat,
    (∀ at_ seen, (dfs succ f at_ seen).2.length = seen.length ∧ fresh (dfs succ f at_ seen).2 ≤ fresh seen) ∧ (∀ l seen, (dfsL succ f l seen).2.length = seen.length ∧ fresh (dfsL succ f l seen).2 ≤ fresh seen)
  | 0 => by
    have h0 : ∀ at_ seen, (dfs succ 0 at_ seen).2.length = seen.length ∧ fresh (dfs succ 0 at_ seen).2 ≤ fresh seen := fun at_ seen => by unfold dfs; exact ⟨rfl, Nat.le_refl _⟩
    refine ⟨h0, fun l seen => ?_⟩
    cases l with
    | nil => unfold dfsL; exact ⟨rfl, Nat.le_refl _⟩
    | cons n r => unfold dfsL dfs; exact ⟨rfl, Nat.le_refl _⟩
  | f + 1 => by
    have hd : ∀ at_ seen, (dfs succ (f + 1) at_ seen).2.length = seen.length ∧ fresh (dfs succ (f + 1) at_ seen).2 ≤ fresh seen := by
      intro at_ seen
      unfold dfs
      split
      · exact ⟨rfl, Nat.le_refl _⟩
      · have h := (dfs_keeps succ f).2 (succ at_) (seen.set at_ 1)
        have h1 := fresh_set_le (l := seen) (i := at_) (v := 1) (by decide)
        obtain ⟨s, b, he⟩ : ∃ s b, dfsL succ f (succ at_) (seen.set at_ 1) = (b, s) := ⟨_, _, rfl⟩
        rw [he] at h ⊢
        simp only [List.length_set] at h
        cases b with
        | true => exact ⟨h.1, by simp only; omega⟩
        | false =>
          have h2 := fresh_set_le (l := s) (i := at_) (v := 2) (by decide)
          exact ⟨by simp only [List.length_set]; exact h.1, by simp only; omega⟩
    refine ⟨hd, fun l => ?_⟩
    induction l with
    | nil => intro seen; unfold dfsL; exact ⟨rfl, Nat.le_refl _⟩
    | cons n r ih =>
      intro seen
      unfold dfsL
      have h := hd n seen
      obtain ⟨s, b, he⟩ : ∃ s b, dfs succ (f + 1) n seen = (b, s) := ⟨_, _, rfl⟩
      rw [he] at h ⊢
      cases b with
      | true => exact h
      | false =>
        have h2 := ih s
        simp only at h
        exact ⟨by simp only; rw [h2.1, h.1], by simp only; omega⟩
@[simp] def iD (l : List Nat) : List D := l.map fun (n : Nat) => D.int .i64 (n : Int)
def nextL (i : Nat) (x : Ins) : List Nat := if x.op = 9 then [x.a.toNat] else if x.op = 10 then [i + 1, x.a.toNat] else if x.op = 15 then [] else [i + 1]
theorem next_run (i : Nat) (x : Ins) (hi : i < 5000) (ha : x.op = 9 ∨ x.op = 10 → 0 ≤ x.a) : callT ctx 122 [.d (.int .i64 i), .d (insD x)] [] = some (.ret (.d (.list (iD (nextL i x)))), []) := by
  have w : IntKind.i64.wrap ((i : Int) + 1) = i + 1 := wrap_id (by unfold I64; omega)
  rw [run122 (by simp)]
  unfold nextL
  by_cases e9 : x.op = 9
  · have h := ha (.inl e9)
    have h2 : max x.a 0 = x.a := by omega
    simp [Tryd.f122, e9, h2]
  by_cases e10 : x.op = 10
  · have h := ha (.inr e10)
    have h2 : max x.a 0 = x.a := by omega
    simp [Tryd.f122, e10, w, h2, List.range']
  by_cases e15 : x.op = 15
  · simp [Tryd.f122, e15]
  · simp [Tryd.f122, e9, e10, e15, w]
section
variable (ins : List Ins) (vars cells : Int) (n1 n2 : Nat) (S T : List D)
def RoundOk (f : Nat) : Prop := ∀ (at_ : Nat) (seen : List Nat), fresh seen < f → at_ < ins.length → seen.length = ins.length →
    callT ctx 78 [.ptr 0 0 0, .d (.int .i64 at_), .vec 1 0 0 ins.length] [kBox ins vars cells (.vec 2 0 0 n1) (.vec 3 0 0 n2), .vec 1 (iD seen), .vec 1 S, .vec 1 T] =
      some (.ret (.d (.bool (dfs (succP ins) f at_ seen).1)), [(0, kBox ins vars cells (.vec 2 0 0 n1) (.vec 3 0 0 n2)), (0, .vec 1 (iD (dfs (succP ins) f at_ seen).2)), (0, .vec 1 S), (0, .vec 1 T)])
theorem round_loop (hlen : ins.length ≤ 5000) (f at_ : Nat) (hr : RoundOk ins vars cells n1 n2 S T f) : ∀ (rest pre : List Nat) (seen : List Nat), fresh seen < f → (pre ++ rest).length < 5000 → (∀ n ∈ rest, n < ins.length) → seen.length = ins.length → ∀ k : Kt,
    denK ctx 78 (.loop (Code.at (codeOf Tryd.f78) [1, 1, 1, 0, 1, 0, 1, 0, 0])) ⟨67, gl0, [(0, true, .ptr 0 0 0), (1, true, .d (.int .i64 at_)), (2, true, .vec 1 0 0 ins.length), (41, true, .d (.list (iD (pre ++ rest)))), (42, true, .d (.int .i64 (pre ++ rest).length)), (43, true, .d (.int .i64 pre.length))],
        [⟨0, 0, kBox ins vars cells (.vec 2 0 0 n1) (.vec 3 0 0 n2)⟩, ⟨1, 0, .vec 1 (iD seen)⟩, ⟨2, 0, .vec 1 S⟩, ⟨3, 0, .vec 1 T⟩]⟩ k =
      if (dfsL (succP ins) f (rest.filter fun j => !tickAt ins j) seen).1 = true then
        k .ret ⟨67, gl0, [(6, true, .d (.bool true))], [⟨0, 0, kBox ins vars cells (.vec 2 0 0 n1) (.vec 3 0 0 n2)⟩, ⟨1, 0, .vec 1 (iD (dfsL (succP ins) f (rest.filter fun j => !tickAt ins j) seen).2)⟩, ⟨2, 0, .vec 1 S⟩, ⟨3, 0, .vec 1 T⟩]⟩
      else k (.exit 0) ⟨67, gl0, [(0, true, .ptr 0 0 0), (1, true, .d (.int .i64 at_)), (2, true, .vec 1 0 0 ins.length), (41, true, .d (.list (iD (pre ++ rest)))), (42, true, .d (.int .i64 (pre ++ rest).length)), (43, true, .d (.int .i64 (pre ++ rest).length)), (44, true, .d (.bool false))],
        [⟨0, 0, kBox ins vars cells (.vec 2 0 0 n1) (.vec 3 0 0 n2)⟩, ⟨1, 0, .vec 1 (iD (dfsL (succP ins) f (rest.filter fun j => !tickAt ins j) seen).2)⟩, ⟨2, 0, .vec 1 S⟩, ⟨3, 0, .vec 1 T⟩]⟩
  | [], pre, seen, hf, hl, hn, hs, k => by
    rw [denK_loop]
    simp [Tryd.f78, dfsL]
  | n :: rest, pre, seen, hf, hl, hn, hs, k => by
    have hn0 := hn n (by simp)
    have hget : ins[n]? = some ins[n] := by simp [hn0]
    have h1 : (pre.length : Int) < pre.length + (rest.length + 1) := by omega
    have h2 : IntKind.i64.wrap ((pre.length : Int) + 1) = pre.length + 1 := wrap_id (by unfold I64; simp at hl; omega)
    by_cases ht : ins[n].op = 11
    · have htk : tickAt ins n = true := by simp [tickAt, hget, ht]
      have ih := round_loop hlen f at_ hr rest (pre ++ [n]) seen hf (by simpa using hl) (fun m hm => hn m (by simp [hm])) hs k
      rw [denK_loop]
      simp [Tryd.f78, htk] at ih ⊢
      simp [h1, h2, hn0, ht, ih]
    · have htk : tickAt ins n = false := by simp [tickAt, hget, ht]
      have hc := hr n seen hf hn0 hs
      have hk := (dfs_keeps (succP ins) f).1 n seen
      have e : dfsL (succP ins) f ((n :: rest).filter fun j => !tickAt ins j) seen = if (dfs (succP ins) f n seen).1 = true then (true, (dfs (succP ins) f n seen).2) else dfsL (succP ins) f (rest.filter fun j => !tickAt ins j) (dfs (succP ins) f n seen).2 := by
        rw [List.filter_cons, htk]
        simp only [Bool.not_false, if_true]
        rw [dfsL]
        obtain ⟨s, b, he⟩ : ∃ s b, dfs (succP ins) f n seen = (b, s) := ⟨_, _, rfl⟩
        rw [he]
        cases b <;> rfl
      rw [e]
      obtain ⟨s, b, he⟩ : ∃ s b, dfs (succP ins) f n seen = (b, s) := ⟨_, _, rfl⟩
      rw [he] at hc hk ⊢
      simp only at hk
      rw [denK_loop]
      cases b
      · have ih := round_loop hlen f at_ hr rest (pre ++ [n]) s (by omega) (by simpa using hl) (fun m hm => hn m (by simp [hm])) (by omega) k
        simp [Tryd.f78] at ih hc ⊢
        simp [h1, h2, hn0, ht, hc, ih]
      · simp at hc
        simp [Tryd.f78]
        simp [h1, h2, hn0, ht, hc]
end
end Go.Am
end
section
namespace Go.Am
open Go Go.Proofs
variable [Inhabited Mx2]
set_option maxRecDepth 20000
/-- Where an instruction leads is one. -/
def Inside (ins : List Ins) : Prop := ∀ i x, ins[i]? = some x → (x.op = 9 ∨ x.op = 10 → 0 ≤ x.a ∧ x.a < (ins.length : Int)) ∧ (x.op ≠ 9 → x.op ≠ 15 → i + 1 < ins.length)
theorem inside_of {pins : Int → Nat} {ins : List Ins} {vars cells : Int} (h : okForms pins ins vars cells = true) : Inside ins := by
  intro i x hx
  simp only [okForms, Bool.and_eq_true] at h
  have hf := forms_get h.2 i _ hx
  have hi : i < ins.length := (List.getElem?_eq_some_iff.1 hx).1
  simp only [Nat.zero_add] at hf
  have hlast : i + 1 = ins.length → x.op = 15 := by
    intro h1
    have h2 := h.1
    simp only [headB, Bool.and_eq_true, decide_eq_true_eq] at h2
    have h3 := h2.2
    unfold lastOp at h3
    rw [List.getLast?_eq_getElem?, show ins.length - 1 = i by omega, hx] at h3
    simpa using h3
  refine ⟨fun hj => ?_, fun h9 h15 => ?_⟩
  · unfold formB at hf
    rcases hj with hj | hj <;> simp [hj] at hf <;> omega
  · have : i + 1 ≠ ins.length := fun h => h15 (hlast h)
    omega
section
variable (ins : List Ins) (vars cells : Int) (n1 n2 : Nat) (S T : List D)
theorem nextL_len (i : Nat) (x : Ins) : (nextL i x).length ≤ 2 := by
  unfold nextL
  repeat' split
  all_goals simp
theorem next_in (hin : Inside ins) {i : Nat} (hi : i < ins.length) : ∀ j ∈ nextL i ins[i], j < ins.length := by
  have h := hin i ins[i] (by simp [hi])
  intro j hj
  unfold nextL at hj
  split at hj
  · rename_i h9
    have := h.1 (.inl h9)
    simp at hj; omega
  · rename_i h9
    split at hj
    · rename_i h10
      have := h.1 (.inr h10)
      have := h.2 h9 (by omega)
      simp at hj; omega
    · split at hj
      · simp at hj
      · rename_i h15
        have := h.2 h9 h15
        simp at hj; omega
theorem succP_eq {i : Nat} (hi : i < ins.length) : succP ins i = if ins[i].op = 11 then [] else (nextL i ins[i]).filter fun j => !tickAt ins j := by
  have hx : ins[i]? = some ins[i] := by simp [hi]
  unfold succP succI tickAt nextI nextL
  rw [hx]
  simp only [decide_eq_true_eq]
  split <;> rfl
theorem round_all (hlen : ins.length ≤ 5000) (hin : Inside ins) : ∀ f, RoundOk ins vars cells n1 n2 S T f
  | 0 => fun at_ seen hf _ _ => by omega
  | f + 1 => by
    intro at_ seen hf hat hs
    have hat2 : at_ < seen.length := by omega
    have hget : seen.getD at_ 0 = seen[at_] := by simp [hat2]
    rw [run78 (by simp)]
    unfold dfs
    rw [hget]
    by_cases h0 : seen[at_] = 0
    · rw [if_neg (by simp [h0])]
      have hfr := fresh_set (l := seen) (i := at_) (v := 1) (by rw [hget]; exact h0) hat2 (by decide)
      have hset : (iD seen).set at_ (.int .i64 1) = iD (seen.set at_ 1) := by simp [iD, List.map_set]
      rw [succP_eq ins hat]
      by_cases ht : ins[at_].op = 11
      · rw [if_pos ht]
        have hset2 : ((iD seen).set at_ (.int .i64 1)).set at_ (.int .i64 2) = iD ((seen.set at_ 1).set at_ 2) := by simp [iD, List.map_set]
        simp at hset2
        simp [Tryd.f78, hat2, hat, h0, ht, dfsL, hset2]
      · rw [if_neg ht]
        have hn := next_run at_ ins[at_] (by omega) (fun h => ((hin at_ _ (by simp [hat])).1 h).1)
        have hloop := round_loop ins vars cells n1 n2 S T hlen f at_ (round_all hlen hin f) (nextL at_ ins[at_]) [] (seen.set at_ 1) (by omega) (by have := nextL_len at_ ins[at_]; simp; omega) (next_in ins hin hat) (by simp; omega)
        simp only [List.nil_append, List.length_nil] at hloop
        rw [← hset] at hloop
        have hk := (dfs_keeps (succP ins) f).2 ((nextL at_ ins[at_]).filter fun j => !tickAt ins j) (seen.set at_ 1)
        obtain ⟨s, b, he⟩ : ∃ s b, dfsL (succP ins) f ((nextL at_ ins[at_]).filter fun j => !tickAt ins j) (seen.set at_ 1) = (b, s) := ⟨_, _, rfl⟩
        rw [he] at hloop hk ⊢
        have hset3 : (iD s).set at_ (.int .i64 2) = iD (s.set at_ 2) := by simp [iD, List.map_set]
        simp only [List.length_set] at hk
        have hs3 : at_ < s.length := by omega
        simp at hset3
        cases b
        · simp [Tryd.f78] at hn hloop ⊢
          simp [hat2, hat, h0, ht, hn, hloop, hs3, hset3]
        · simp [Tryd.f78] at hn hloop ⊢
          simp [hat2, hat, h0, ht, hn, hloop]
    · rw [if_pos h0]
      simp [Tryd.f78, hat2, hat, h0]
      generalize seen[at_] = z
      by_cases q : z = 1
      · subst q; rfl
      · have q2 : ¬ ((z : Int) = 1) := by omega
        simp [q, q2]
theorem rounds_loop (hlen : ins.length ≤ 5000) (hin : Inside ins) : ∀ (rest pre : List Nat) (seen : List Nat), pre ++ rest = List.range ins.length → seen.length = ins.length → ∀ (v : Nat) (k : Kt),
    ∃ v' s', denK ctx 39 (.loop (Code.at (codeOf Tryd.f39) [1, 1, 0, 1, 0, 0])) ⟨26, gl0, [(0, true, .ptr 0 0 0), (3, true, .vec 650 v 0 ins.length), (17, true, .d (.int .i64 ins.length)), (18, true, .d (.int .i64 pre.length))],
        [⟨0, 0, kBox ins vars cells (.vec 1 0 0 n1) (.vec 2 0 0 n2)⟩, ⟨1, 0, .vec 1 S⟩, ⟨2, 0, .vec 1 T⟩, ⟨650, v, .vec 1 (iD seen)⟩]⟩ k =
      if rounds (succP ins) (ins.length + 1) rest seen = true then
        k .ret ⟨26, gl0, [(2, true, .d (.bool true))], [⟨0, 0, kBox ins vars cells (.vec 1 0 0 n1) (.vec 2 0 0 n2)⟩, ⟨1, 0, .vec 1 S⟩, ⟨2, 0, .vec 1 T⟩, ⟨650, v', .vec 1 (iD s')⟩]⟩
      else k (.exit 0) ⟨26, gl0, [(0, true, .ptr 0 0 0), (3, true, .vec 650 v' 0 ins.length), (17, true, .d (.int .i64 ins.length)), (18, true, .d (.int .i64 ins.length)), (19, true, .d (.bool false))],
        [⟨0, 0, kBox ins vars cells (.vec 1 0 0 n1) (.vec 2 0 0 n2)⟩, ⟨1, 0, .vec 1 S⟩, ⟨2, 0, .vec 1 T⟩, ⟨650, v', .vec 1 (iD s')⟩]⟩
  | [], pre, seen, hp, hs, v, k => by
    refine ⟨v, seen, ?_⟩
    have hpl : pre.length = ins.length := by simpa using congrArg List.length hp
    rw [denK_loop]
    simp [Tryd.f39, rounds, hpl]
  | n :: rest, pre, seen, hp, hs, v, k => by
    have hpl : pre.length + (rest.length + 1) = ins.length := by simpa using congrArg List.length hp
    have hn : n = pre.length := by
      have := congrArg (fun l => l[pre.length]?) hp
      simp at this
      rw [List.getElem?_range (by omega)] at this
      simpa using this
    have h1 : pre.length < ins.length := by omega
    have h2 : IntKind.i64.wrap ((pre.length : Int) + 1) = pre.length + 1 := wrap_id (by unfold I64; omega)
    have hfr : fresh seen ≤ seen.length := List.countP_le_length
    have hr := round_all ins vars cells n1 n2 S T hlen hin (ins.length + 1) pre.length seen (by omega) (by omega) hs
    have hk := ((dfs_keeps (succP ins) (ins.length + 1)).1 pre.length seen).1
    subst hn
    rw [rounds]
    obtain ⟨s, b, he⟩ : ∃ s b, dfs (succP ins) (ins.length + 1) pre.length seen = (b, s) := ⟨_, _, rfl⟩
    rw [he] at hr hk ⊢
    simp only at hk
    cases b
    · obtain ⟨v', s', ih⟩ := rounds_loop hlen hin rest (pre ++ [pre.length]) s (by simpa using hp) (by omega) v k
      refine ⟨v', s', ?_⟩
      rw [denK_loop]
      simp [Tryd.f39] at ih hr ⊢
      simp [h1, h2, hr, ih]
    · refine ⟨v, s, ?_⟩
      rw [denK_loop]
      simp at hr
      simp [Tryd.f39]
      simp [h1, h2, hr]
theorem rounds_run (hlen : ins.length ≤ 5000) (hin : Inside ins) :
    callT ctx 39 [.ptr 0 0 0] [kBox ins vars cells (.vec 1 0 0 n1) (.vec 2 0 0 n2), .vec 1 S, .vec 1 T] =
      some (.ret (.d (.bool (rounds (succP ins) (ins.length + 1) (List.range ins.length) (List.replicate ins.length 0)))), [(0, kBox ins vars cells (.vec 1 0 0 n1) (.vec 2 0 0 n2)), (0, .vec 1 S), (0, .vec 1 T)]) := by
  have h1 := rounds_loop ins vars cells n1 n2 S T hlen hin (List.range ins.length) [] (List.replicate ins.length 0) rfl (by simp) 1
  obtain ⟨f1, h1⟩ := Classical.axiomOfChoice h1
  obtain ⟨f2, h1⟩ := Classical.axiomOfChoice h1
  have g1 : (ins.length : Int) * 8 ≤ 140737488355328 ∧ (ins.length : Int) ≤ 4611686018427387904 := by omega
  rw [run39 (by simp)]
  simp [Tryd.f39] at h1 ⊢
  simp [g1, h1]
  cases hq : rounds (succP ins) (ins.length + 1) (List.range ins.length) (List.replicate ins.length 0) <;> simp
  trace_state
end
end Go.Am
end
section
namespace Go.Am
open Go Go.Proofs
variable [Inhabited Mx2]
set_option maxRecDepth 20000
@[simp] def codeD (ins : List Ins) (vars cells : Int) : D := .agg [.list (ins.map insD), .int .i64 vars, .int .i64 cells]
theorem checkCode_run (pins : Int → Nat) (hp : PinsOk 109 pins) (ins : List Ins) (vars cells : Int) (hl : ins.length ≤ 5000) :
    callT ctx 16 [.d (codeD ins vars cells)] [] = some (.ret (.d (.bool (okCode pins ins vars cells))), []) := by
  have hf := forms_run pins hp ins vars cells 0 ins.length [] (bD (List.replicate ins.length false)) hl
  have g1 : (ins.length : Int) ≤ 140737488355328 ∧ (ins.length : Int) ≤ 4611686018427387904 := by omega
  rw [run16 (by simp)]
  unfold okCode
  cases hq : okForms pins ins vars cells
  · simp [hq] at hf
    simp [Tryd.f16, g1]
    rw [drwK_nil (by kernel_rfl)]
    simp [hf]
  · have hin := inside_of hq
    obtain ⟨S', hs⟩ := stacks_run ins vars cells hl (fun x hx h => by
      obtain ⟨i, hi, rfl⟩ := List.getElem_of_mem hx
      exact (hin i _ (by simp [hi])).1 h)
    have hr := rounds_run ins vars cells S'.length ins.length (bD S') (bD (ledOf ins)) hl hin
    simp [hq] at hf hs hr
    simp [Tryd.f16, g1]
    rw [drwK_nil (by kernel_rfl)]
    simp [hf, hs]
    cases hq2 : stackS (ledOf ins) 0 ins []
    · simp
    · simp [hr]
end Go.Am
end
section
namespace Go.Am
open Go
abbrev AnsT := Option (Out × List (Nat × Cont))
theorem hoistB (c : Prop) [Decidable c] (a b : Bool) (l : List (Nat × Cont)) : (if c then (some (Out.ret (.d (.bool a)), l) : AnsT) else some (Out.ret (.d (.bool b)), l)) = some (Out.ret (.d (.bool (if c then a else b))), l) := by split <;> rfl
theorem retB_iff (a b : Bool) (l : List (Nat × Cont)) : (some (Out.ret (.d (.bool a)), l) : AnsT) = some (Out.ret (.d (.bool b)), l) ↔ (a = true ↔ b = true) := by
  cases a <;> cases b <;> simp
theorem hoistI (c : Prop) [Decidable c] (k : IntKind) (a b : Int) (l : List (Nat × Cont)) : (if c then (some (Out.ret (.d (.int k a)), l) : AnsT) else some (Out.ret (.d (.int k b)), l)) = some (Out.ret (.d (.int k (if c then a else b))), l) := by split <;> rfl
theorem hoistT (c : Prop) [Decidable c] (a b : List AV) (l : List (Nat × Cont)) : (if c then (some (Out.ret (.tup a), l) : AnsT) else some (Out.ret (.tup b), l)) = some (Out.ret (.tup (if c then a else b)), l) := by split <;> rfl
end Go.Am
end
section
namespace Go.Am
open Go Go.Proofs
variable [Inhabited Mx2]
set_option maxRecDepth 20000
/-- Which parts a kind has. -/
def hasA (op : Int) : Bool := decide (op = 2 ∨ op = 3 ∨ op = 6 ∨ op = 9 ∨ op = 10 ∨ op = 4 ∨ op = 5 ∨ op = 7 ∨ op = 14 ∨ op = 8 ∨ op = 12 ∨ op = 13)
def hasB (op : Int) : Bool := decide (op = 8 ∨ op = 12 ∨ op = 13)
def hasN (op : Int) : Bool := decide (op = 1 ∨ op = 4 ∨ op = 5 ∨ op = 7 ∨ op = 14)
def hasM (op : Int) : Bool := decide (op = 4 ∨ op = 5 ∨ op = 7 ∨ op = 14)
def hasK (op : Int) : Bool := decide (1 ≤ op ∧ op ≤ 15)
theorem has_run (op : Int) : callT ctx 101 [.d (.int .i64 op)] [] = some (.ret (.tup [.d (.bool (hasA op)), .d (.bool (hasB op)), .d (.bool (hasN op)), .d (.bool (hasM op)), .d (.bool (hasK op))]), []) := by
  rw [run101 (by simp)]
  simp [Tryd.f101, drwK_end]
  by_cases hk : 1 ≤ op ∧ op ≤ 15
  · have h : op = 1 ∨ op = 2 ∨ op = 3 ∨ op = 4 ∨ op = 5 ∨ op = 6 ∨ op = 7 ∨ op = 8 ∨ op = 9 ∨ op = 10 ∨ op = 11 ∨ op = 12 ∨ op = 13 ∨ op = 14 ∨ op = 15 := by omega
    rcases h with rfl | rfl | rfl | rfl | rfl | rfl | rfl | rfl | rfl | rfl | rfl | rfl | rfl | rfl | rfl <;> simp [hasA, hasB, hasN, hasM, hasK]
  · have h : ∀ z : Int, 1 ≤ z → z ≤ 15 → ¬ op = z := fun z h1 h2 h3 => hk (by omega)
    simp [hasA, hasB, hasN, hasM, hasK, hk, h]
def fitsB (x : Ins) : Bool := hasK x.op && (hasA x.op || decide (x.a = 0)) && (hasB x.op || decide (x.b = 0)) && (hasN x.op || decide (x.n = 0)) && (hasM x.op || decide (x.m = 0))
theorem fits_run (x : Ins) : callT ctx 60 [.d (insD x)] [] = some (.ret (.d (.bool (fitsB x))), []) := by
  have h := has_run x.op
  rw [run60 (by simp)]
  unfold fitsB
  generalize hasK x.op = bK at *
  generalize hasA x.op = bA at *
  generalize hasB x.op = bB at *
  generalize hasN x.op = bN at *
  generalize hasM x.op = bM at *
  simp [Tryd.f60, drwK_end, h]
  cases bK <;> cases bA <;> cases bB <;> cases bN <;> cases bM <;> simp [hoistB, retB_iff, Bool.and_assoc]
/-- A number as bytes, the highest first. -/
def bigB (n : Nat) : Nat → List UInt8
  | 0 => []
  | s + 1 => UInt8.ofNat (n / 2 ^ (8 * s)) :: bigB n s
theorem bigB_len (n : Nat) : ∀ s, (bigB n s).length = s
  | 0 => rfl
  | s + 1 => by simp [bigB, bigB_len n s]
theorem big_loop (n : Nat) (k : Kt) (R : Ans) (T : List UInt8) (hT : T.length ≤ 1000000) (V : Nat) (hR : k (.exit 0) ⟨24, gl0, [(0, true, .vec 0 V 0 T.length), (1, true, .d (.int .u64 n)), (7, true, .d (.int .i64 (-1))), (11, true, .d (.bool false))], [⟨0, V, .vec 1 (T.map byteD)⟩]⟩ = R) : ∀ (s v : Nat) (out : List UInt8), s ≤ 8 → v + s = V → out ++ bigB n s = T →
    denK ctx 61 (.loop (Code.at (codeOf Tryd.f61) [1, 0, 1, 0, 0])) ⟨24, gl0, [(0, true, .vec 0 v 0 out.length), (1, true, .d (.int .u64 n)), (7, true, .d (.int .i64 ((s : Int) - 1)))], [⟨0, v, .vec 1 (out.map byteD)⟩]⟩ k = R
  | 0, v, out, hs, hv, ho => by
    have ho : out = T := by simpa [bigB] using ho
    subst ho
    have hv : v = V := by omega
    subst hv
    rw [denK_loop]
    simp [Tryd.f61, hR]
  | s + 1, v, out, hs, hv, ho => by
    have ih := big_loop n k R T hT V hR s (v + 1) (out ++ [UInt8.ofNat (n / 2 ^ (8 * s))]) (by omega) (by omega) (by rw [← ho]; simp [bigB])
    have hl : out.length ≤ 1000000 := by have := congrArg List.length ho; simp at this; omega
    have e0 : ((s + 1 : Nat) : Int) - 1 = s := by omega
    have w1 : IntKind.i64.wrap ((s : Int) - 1) = (s : Int) - 1 := wrap_id (by unfold I64; omega)
    have w2 : IntKind.i64.wrap (8 * (s : Int)) = 8 * (s : Int) := by rw [wrap_id (by unfold I64; omega)]
    have w3 : IntKind.u64.wrap (8 * (s : Int)) = 8 * (s : Int) := by simp [IntKind.wrap, IntKind.bits, IntKind.signed]; omega
    have w4 : (8 * (s : Int)).toNat = 8 * s := by omega
    have w5 : (0 : Int) ≤ 8 * (s : Int) := by omega
    have hmin : min (8 * s) 64 = 8 * s := by omega
    have hb : IntKind.bits .u64 = 64 := rfl
    have g1 : out.length ≤ 140737488355327 := by omega
    have g2 : out.length ≤ 4611686018427387903 := by omega
    have hbyte : IntKind.u8.wrap ((n : Int).fdiv (2 ^ (8 * s))) = ((n / 2 ^ (8 * s) : Nat) : Int) % 256 := by
      rw [Int.fdiv_eq_ediv_of_nonneg _ (Int.le_of_lt (Int.pow_pos (by omega)))]
      have e : ((n : Int) / 2 ^ (8 * s)) = ((n / 2 ^ (8 * s) : Nat) : Int) := by simp
      rw [e]
      generalize n / 2 ^ (8 * s) = z
      simp [IntKind.wrap, IntKind.bits, IntKind.signed]
    rw [e0, denK_loop]
    generalize n / 2 ^ (8 * s) = z at *
    simp [Tryd.f61] at ih
    simp [Tryd.f61]
    simp [w1, w2, w3, w4, w5, hmin, hb, hbyte, g1, g2, ih]
theorem big_run (out : List UInt8) (n s : Nat) (hs : 1 ≤ s ∧ s ≤ 8) (hl : out.length ≤ 900000) : callT ctx 61 [.vec 0 0 0 out.length, .d (.int .u64 n), .d (.int .i64 s)] [.vec 1 (out.map byteD)] =
    some (.ret (.vec 0 1 0 (out ++ bigB n s).length), [(1, .vec 1 ((out ++ bigB n s).map byteD))]) := by
  have hlen := bigB_len n s
  have h := fun k R hR => big_loop n k R (out ++ bigB n s) (by simp; omega) s hR s 0 out (by omega) (by omega) rfl
  have w1 : IntKind.i64.wrap ((s : Int) - 1) = (s : Int) - 1 := wrap_id (by unfold I64; omega)
  have hs0 : ¬ s = 0 := by omega
  generalize out ++ bigB n s = T at *
  rw [run61 (by simp)]
  simp [Tryd.f61] at h
  simp [Tryd.f61, w1]
  rw [h]
  simp [hs0]
end Go.Am
end
section
namespace Go.Am
open Go Go.Proofs
variable [Inhabited Mx2]
set_option maxRecDepth 20000
def u64N (z : Int) : Nat := (z % 18446744073709551616).toNat
theorem u64N_wrap (z : Int) : IntKind.u64.wrap z = (u64N z : Int) := by
  unfold u64N
  have e : IntKind.u64.wrap z = z % 18446744073709551616 := by simp [IntKind.wrap, IntKind.bits, IntKind.signed]
  rw [e, Int.toNat_of_nonneg (Int.emod_nonneg _ (by omega))]
def opByte (z : Int) : UInt8 := UInt8.ofNat (z % 256).toNat
theorem opByte_wrap (z : Int) : IntKind.u8.wrap z = ((opByte z).toNat : Int) := by
  unfold opByte
  have e : IntKind.u8.wrap z = z % 256 := by simp [IntKind.wrap, IntKind.bits, IntKind.signed]
  rw [e]
  have h0 : 0 ≤ z % 256 := Int.emod_nonneg _ (by omega)
  have h1 : z % 256 < 256 := Int.emod_lt_of_pos _ (by omega)
  simp
  omega
def partB (b : Bool) (z : Int) (s : Nat) : List UInt8 := if b then bigB (u64N z) s else []
def putB (x : Ins) : List UInt8 := opByte x.op :: (partB (hasA x.op) x.a 2 ++ (partB (hasB x.op) x.b 2 ++ (partB (hasN x.op) x.n 8 ++ partB (hasM x.op) x.m 8)))
theorem partB_len (b : Bool) (z : Int) (s : Nat) : (partB b z s).length ≤ s := by
  unfold partB; split <;> simp [bigB_len]
theorem putB_len (x : Ins) : 1 ≤ (putB x).length ∧ (putB x).length ≤ 21 := by
  have h1 := partB_len (hasA x.op) x.a 2
  have h2 := partB_len (hasB x.op) x.b 2
  have h3 := partB_len (hasN x.op) x.n 8
  have h4 := partB_len (hasM x.op) x.m 8
  unfold putB
  simp only [List.length_cons, List.length_append]
  omega
/-- A part that may be there. -/
theorem bigPart_run (b : Bool) (o1 : List UInt8) (z : Int) (s : Nat) (hs : 1 ≤ s ∧ s ≤ 8) (hl : o1.length ≤ 900000) : ∃ o2, o2 = o1 ++ partB b z s ∧ o2.length ≤ o1.length + 8 ∧
    (b = true → callT ctx 61 [.vec 0 0 0 o1.length, .d (.int .u64 (u64N z)), .d (.int .i64 s)] [.vec 1 (o1.map byteD)] = some (.ret (.vec 0 1 0 o2.length), [(1, .vec 1 (o2.map byteD))])) ∧ (b = false → o2 = o1) := by
  refine ⟨_, rfl, ?_, fun h => ?_, fun h => by simp [h, partB]⟩
  · have := partB_len b z s; simp; omega
  · have := big_run o1 (u64N z) s hs hl
    simpa [h, partB] using this
set_option maxHeartbeats 2000000 in
theorem put_run (out : List UInt8) (x : Ins) (hl : out.length ≤ 800000) : callT ctx 62 [.vec 0 0 0 out.length, .d (insD x)] [.vec 1 (out.map byteD)] =
    some (.ret (.vec 0 1 0 (out ++ putB x).length), [(1, .vec 1 ((out ++ putB x).map byteD))]) := by
  have hh := has_run x.op
  have hop := opByte_wrap x.op
  have ha := u64N_wrap x.a
  have hb := u64N_wrap x.b
  have hn := u64N_wrap x.n
  have hm := u64N_wrap x.m
  have g1 : out.length ≤ 140737488355327 ∧ out.length ≤ 4611686018427387903 := by omega
  have h1 := partB_len (hasA x.op) x.a 2
  have h2 := partB_len (hasB x.op) x.b 2
  have h3 := partB_len (hasN x.op) x.n 8
  unfold putB
  generalize hasA x.op = bA at *
  generalize hasB x.op = bB at *
  generalize hasN x.op = bN at *
  generalize hasM x.op = bM at *
  generalize hasK x.op = bK at *
  have e0 : out ++ opByte x.op :: (partB bA x.a 2 ++ (partB bB x.b 2 ++ (partB bN x.n 8 ++ partB bM x.m 8))) = (((out ++ [opByte x.op]) ++ partB bA x.a 2) ++ partB bB x.b 2) ++ partB bN x.n 8 ++ partB bM x.m 8 := by simp
  rw [e0]
  obtain ⟨o1, ho1⟩ : ∃ o1, o1 = out ++ [opByte x.op] := ⟨_, rfl⟩
  rw [← ho1]
  have hm1 : out.map byteD ++ [D.int .u8 (opByte x.op).toNat] = o1.map byteD := by rw [ho1]; simp
  have hl1 : out.length + 1 = o1.length := by rw [ho1]; simp
  obtain ⟨o2, ho2, hl2, F1⟩ := bigPart_run bA o1 x.a 2 (by omega) (by omega)
  obtain ⟨o3, ho3, hl3, F2⟩ := bigPart_run bB o2 x.b 2 (by omega) (by omega)
  obtain ⟨o4, ho4, hl4, F3⟩ := bigPart_run bN o3 x.n 8 (by omega) (by omega)
  obtain ⟨o5, ho5, hl5, F4⟩ := bigPart_run bM o4 x.m 8 (by omega) (by omega)
  rw [← ho2, ← ho3, ← ho4, ← ho5]
  have z1 : o1.length ≤ 140737488355328 ∧ o1.length ≤ 4611686018427387904 := by omega
  clear ho2 ho3 ho4 ho5 h1 h2 h3 e0 hl2 hl3 hl4 hl5 hl ho1
  rw [run62 (by simp)]
  cases bA <;> cases bB <;> cases bN <;> cases bM
  all_goals
    simp at F1 F2 F3 F4
    subst_vars
    simp [Tryd.f62, drwK_end, *]
end Go.Am
end
section
namespace Go.Am
open Go Go.Proofs
variable [Inhabited Mx2]
set_option maxRecDepth 20000
def retLen : Option (Out × List (Nat × Cont)) → Option Nat
  | some (.ret (.d (.list l)), []) => some l.length
  | _ => none
theorem retLen_some {r : Option (Out × List (Nat × Cont))} {n : Nat} (h : retLen r = some n) : ∃ l, r = some (.ret (.d (.list l)), []) ∧ l.length = n := by
  unfold retLen at h
  split at h
  · rename_i l; exact ⟨l, rfl, by simpa using h⟩
  · cases h
theorem pins_of {f : FuncId} {b : Int} {n : Nat} (h : retLen (callN ctx 120 f [.d (.int .i64 b)] []) = some n) : ∃ l : List D, callT ctx f [.d (.int .i64 b)] [] = some (.ret (.d (.list l)), []) ∧ l.length = n := by
  obtain ⟨l, h1, h2⟩ := retLen_some h
  exact ⟨l, callT_of 120 h1, h2⟩
theorem pins10 : retLen (callN ctx 120 109 [.d (.int .i64 10)] []) = some 4 := by kernel_rfl
theorem pins11 : retLen (callN ctx 120 109 [.d (.int .i64 11)] []) = some 4 := by kernel_rfl
theorem pins12 : retLen (callN ctx 120 109 [.d (.int .i64 12)] []) = some 6 := by kernel_rfl
theorem pins13 : retLen (callN ctx 120 109 [.d (.int .i64 13)] []) = some 6 := by kernel_rfl
theorem pins14 : retLen (callN ctx 120 109 [.d (.int .i64 14)] []) = some 6 := by kernel_rfl
theorem pins15 : retLen (callN ctx 120 109 [.d (.int .i64 15)] []) = some 3 := by kernel_rfl
theorem pins16 : retLen (callN ctx 120 109 [.d (.int .i64 16)] []) = some 3 := by kernel_rfl
theorem pins17 : retLen (callN ctx 120 109 [.d (.int .i64 17)] []) = some 3 := by kernel_rfl
theorem pins18 : retLen (callN ctx 120 109 [.d (.int .i64 18)] []) = some 3 := by kernel_rfl
theorem pins20 : retLen (callN ctx 120 109 [.d (.int .i64 20)] []) = some 4 := by kernel_rfl
theorem pins21 : retLen (callN ctx 120 109 [.d (.int .i64 21)] []) = some 9 := by kernel_rfl
theorem pins22 : retLen (callN ctx 120 109 [.d (.int .i64 22)] []) = some 9 := by kernel_rfl
theorem pins23 : retLen (callN ctx 120 109 [.d (.int .i64 23)] []) = some 9 := by kernel_rfl
theorem pins24 : retLen (callN ctx 120 109 [.d (.int .i64 24)] []) = some 12 := by kernel_rfl
theorem pins25 : retLen (callN ctx 120 109 [.d (.int .i64 25)] []) = some 12 := by kernel_rfl
theorem pins26 : retLen (callN ctx 120 109 [.d (.int .i64 26)] []) = some 12 := by kernel_rfl
theorem pins27 : retLen (callN ctx 120 109 [.d (.int .i64 27)] []) = some 10 := by kernel_rfl
theorem pins28 : retLen (callN ctx 120 109 [.d (.int .i64 28)] []) = some 12 := by kernel_rfl
theorem pins29 : retLen (callN ctx 120 109 [.d (.int .i64 29)] []) = some 5 := by kernel_rfl
theorem pins30 : retLen (callN ctx 120 109 [.d (.int .i64 30)] []) = some 6 := by kernel_rfl
theorem pins31 : retLen (callN ctx 120 109 [.d (.int .i64 31)] []) = some 4 := by kernel_rfl
def kindsL : List Int := [10, 11, 12, 13, 14, 15, 16, 17, 18, 20, 21, 22, 23, 24, 25, 26, 27, 28, 29, 30, 31]
def pinsN (b : Int) : Nat :=
  if b = 10 then 4 else if b = 11 then 4 else if b = 12 then 6 else if b = 13 then 6 else if b = 14 then 6 else if b = 15 then 3 else if b = 16 then 3 else if b = 17 then 3 else if b = 18 then 3 else if b = 20 then 4 else if b = 21 then 9 else if b = 22 then 9 else if b = 23 then 9 else if b = 24 then 12 else if b = 25 then 12 else if b = 26 then 12 else if b = 27 then 10 else if b = 28 then 12 else if b = 29 then 5 else if b = 30 then 6 else if b = 31 then 4 else 0
def sheetOf : D → Option Int
  | .agg [.int .i64 k, .str _, .str _, .str _, .int .i64 _] => some k
  | _ => none
theorem sheetOf_some {d : D} {k : Int} (h : sheetOf d = some k) : ∃ a b c n, d = .agg [.int .i64 k, .str a, .str b, .str c, .int .i64 n] := by
  unfold sheetOf at h
  split at h
  · rename_i k' a b c n
    cases h
    exact ⟨a, b, c, n, rfl⟩
  · cases h
def sheetsOf : Option (Out × List (Nat × Cont)) → Option (List (Option Int))
  | some (.ret (.d (.list l)), []) => some (l.map sheetOf)
  | _ => none
theorem sheets_n : sheetsOf (callN ctx 120 156 [] []) = some (kindsL.map some) := by kernel_rfl
theorem sheets_run : ∃ l : List D, callT ctx 156 [] [] = some (.ret (.d (.list l)), []) ∧ l.map sheetOf = kindsL.map some := by
  have h := sheets_n
  generalize hr : callN ctx 120 156 [] [] = r at h
  unfold sheetsOf at h
  split at h
  · rename_i l
    exact ⟨l, callT_of 120 hr, by simpa using h⟩
  · cases h
theorem sheet1_run (d : D) (k b : Int) (hd : sheetOf d = some k) : callT ctx 158 [.d d, .ptr 0 0 0] [.box [.d (.int .i64 b)]] = some (.ret (.d (.bool (decide (k = b)))), [(0, .box [.d (.int .i64 b)])]) := by
  obtain ⟨a, e, c, n, rfl⟩ := sheetOf_some hd
  rw [run158 (by simp)]
  simp [Tryd.f158]
theorem sheetIdx_loop (b : Int) : ∀ (rest pre : List D), (∀ d ∈ rest, ∃ k, sheetOf d = some k ∧ k ≠ b) → (pre ++ rest).length < 1000 → ∀ k : Kt,
    denK ctx 157 (.loop (Code.at (codeOf Tryd.f157) [1, 0, 1, 0, 0])) ⟨19, gl0, [(0, true, .d (.list (pre ++ rest))), (1, true, .fn 158 [.ptr 0 0 0]), (7, true, .d (.int .i64 (pre ++ rest).length)), (8, true, .d (.int .i64 pre.length))], [⟨0, 0, .box [.d (.int .i64 b)]⟩]⟩ k =
      k (.exit 0) ⟨19, gl0, [(0, true, .d (.list (pre ++ rest))), (1, true, .fn 158 [.ptr 0 0 0]), (7, true, .d (.int .i64 (pre ++ rest).length)), (8, true, .d (.int .i64 (pre ++ rest).length)), (9, true, .d (.bool false))], [⟨0, 0, .box [.d (.int .i64 b)]⟩]⟩
  | [], pre, h, hl, k => by
    rw [denK_loop]
    simp [Tryd.f157]
  | d :: rest, pre, h, hl, k => by
    obtain ⟨kd, hk, hne⟩ := h d (by simp)
    have hs := sheet1_run d kd b hk
    obtain ⟨a1, a2, a3, a4, rfl⟩ := sheetOf_some hk
    have ih := sheetIdx_loop b rest (pre ++ [.agg [.int .i64 kd, .str a1, .str a2, .str a3, .int .i64 a4]]) (fun d hd => h d (by simp [hd])) (by simpa using hl) k
    have h1 : (pre.length : Int) < pre.length + (rest.length + 1) := by omega
    have h2 : IntKind.i64.wrap ((pre.length : Int) + 1) = pre.length + 1 := wrap_id (by unfold I64; simp at hl; omega)
    simp [hne] at hs
    rw [denK_loop]
    simp [Tryd.f157] at ih ⊢
    simp [h1, h2, hs, ih]
theorem pins_none (b : Int) (hb : b ∉ kindsL) : callT ctx 109 [.d (.int .i64 b)] [] = some (.ret (.d (.list [])), []) := by
  obtain ⟨l, hl, hm⟩ := sheets_run
  have hlen : l.length = 21 := by have := congrArg List.length hm; simpa [kindsL] using this
  have hall : ∀ d ∈ l, ∃ k, sheetOf d = some k ∧ k ≠ b := by
    intro d hd
    have h1 : sheetOf d ∈ l.map sheetOf := List.mem_map_of_mem hd
    rw [hm] at h1
    obtain ⟨k, hk, he⟩ := List.mem_map.1 h1
    exact ⟨k, he.symm, fun h => hb (h ▸ hk)⟩
  have hloop := sheetIdx_loop b l [] hall (by simp; omega)
  have hidx : callT ctx 157 [.d (.list l), .fn 158 [.ptr 0 0 0]] [.box [.d (.int .i64 b)]] = some (.ret (.d (.int .i64 (-1))), [(0, .box [.d (.int .i64 b)])]) := by
    rw [run157 (by simp)]
    simp [Tryd.f157] at hloop ⊢
    simp [hloop]
  have hof : callT ctx 133 [.d (.int .i64 b)] [] = some (.ret (.tup [.d (.agg [.int .i64 0, .str [], .str [], .str [], .int .i64 0]), .d (.bool false)]), []) := by
    rw [run133 (by simp)]
    simp [Tryd.f133, hl, hidx]
  rw [run109 (by simp)]
  simp [Tryd.f109, hof]
theorem pins_ok : PinsOk 109 pinsN := by
  intro b
  by_cases hb : b ∈ kindsL
  · simp only [kindsL, List.mem_cons, List.not_mem_nil, or_false] at hb
    rcases hb with rfl | rfl | rfl | rfl | rfl | rfl | rfl | rfl | rfl | rfl | rfl | rfl | rfl | rfl | rfl | rfl | rfl | rfl | rfl | rfl | rfl
    · obtain ⟨l, h1, h2⟩ := pins_of pins10; exact ⟨l, h1, by rw [h2]; rfl, by decide⟩
    · obtain ⟨l, h1, h2⟩ := pins_of pins11; exact ⟨l, h1, by rw [h2]; rfl, by decide⟩
    · obtain ⟨l, h1, h2⟩ := pins_of pins12; exact ⟨l, h1, by rw [h2]; rfl, by decide⟩
    · obtain ⟨l, h1, h2⟩ := pins_of pins13; exact ⟨l, h1, by rw [h2]; rfl, by decide⟩
    · obtain ⟨l, h1, h2⟩ := pins_of pins14; exact ⟨l, h1, by rw [h2]; rfl, by decide⟩
    · obtain ⟨l, h1, h2⟩ := pins_of pins15; exact ⟨l, h1, by rw [h2]; rfl, by decide⟩
    · obtain ⟨l, h1, h2⟩ := pins_of pins16; exact ⟨l, h1, by rw [h2]; rfl, by decide⟩
    · obtain ⟨l, h1, h2⟩ := pins_of pins17; exact ⟨l, h1, by rw [h2]; rfl, by decide⟩
    · obtain ⟨l, h1, h2⟩ := pins_of pins18; exact ⟨l, h1, by rw [h2]; rfl, by decide⟩
    · obtain ⟨l, h1, h2⟩ := pins_of pins20; exact ⟨l, h1, by rw [h2]; rfl, by decide⟩
    · obtain ⟨l, h1, h2⟩ := pins_of pins21; exact ⟨l, h1, by rw [h2]; rfl, by decide⟩
    · obtain ⟨l, h1, h2⟩ := pins_of pins22; exact ⟨l, h1, by rw [h2]; rfl, by decide⟩
    · obtain ⟨l, h1, h2⟩ := pins_of pins23; exact ⟨l, h1, by rw [h2]; rfl, by decide⟩
    · obtain ⟨l, h1, h2⟩ := pins_of pins24; exact ⟨l, h1, by rw [h2]; rfl, by decide⟩
    · obtain ⟨l, h1, h2⟩ := pins_of pins25; exact ⟨l, h1, by rw [h2]; rfl, by decide⟩
    · obtain ⟨l, h1, h2⟩ := pins_of pins26; exact ⟨l, h1, by rw [h2]; rfl, by decide⟩
    · obtain ⟨l, h1, h2⟩ := pins_of pins27; exact ⟨l, h1, by rw [h2]; rfl, by decide⟩
    · obtain ⟨l, h1, h2⟩ := pins_of pins28; exact ⟨l, h1, by rw [h2]; rfl, by decide⟩
    · obtain ⟨l, h1, h2⟩ := pins_of pins29; exact ⟨l, h1, by rw [h2]; rfl, by decide⟩
    · obtain ⟨l, h1, h2⟩ := pins_of pins30; exact ⟨l, h1, by rw [h2]; rfl, by decide⟩
    · obtain ⟨l, h1, h2⟩ := pins_of pins31; exact ⟨l, h1, by rw [h2]; rfl, by decide⟩
  · refine ⟨[], pins_none b hb, ?_, ?_⟩
    · simp only [kindsL, List.mem_cons, List.not_mem_nil, or_false, not_or] at hb
      simp [pinsN, hb]
    · simp only [kindsL, List.mem_cons, List.not_mem_nil, or_false, not_or] at hb
      simp [pinsN, hb]
end Go.Am
end
section
namespace Go.Am
open Go Go.Proofs
variable [Inhabited Mx2]
set_option maxRecDepth 20000
theorem put1_run (x : Ins) : callT ctx 59 [.d (insD x)] [] = some (.ret (.d (.bool (!fitsB x))), []) := by
  have h := fits_run x
  rw [run59 (by simp)]
  simp at h
  simp [Tryd.f59, drwK_end, h]
def idxU : Nat → List Ins → Int
  | _, [] => -1
  | i, x :: r => if fitsB x then idxU (i + 1) r else i
theorem idxU_neg : ∀ (l : List Ins) (i : Nat), 0 ≤ idxU i l ↔ l.all fitsB = false
  | [], i => by simp [idxU]
  | x :: r, i => by
    unfold idxU
    cases h : fitsB x with
    | true => simp [h, idxU_neg r (i + 1)]
    | false => simp [h]
theorem idx_loop (l : List Ins) (hl : l.length ≤ 5000) (k : Kt) (R : Ans) : ∀ (r : List Ins) (i : Nat), l.drop i = r → i + r.length = l.length →
    (if r.all fitsB = true then (∀ Y : Env, k (.exit 0) ⟨19, gl0, Y, []⟩ = R) else k .ret ⟨19, gl0, [(4, true, .d (.int .i64 (idxU i r)))], []⟩ = R) →
    denK ctx 100 (.loop (Code.at (codeOf Tryd.f100) [1, 0, 1, 0, 0]))
      ⟨19, gl0, [(0, true, .d (.list (l.map insD))), (1, true, .fn 59 []), (7, true, .d (.int .i64 l.length)), (8, true, .d (.int .i64 i))], []⟩ k = R
  | [], i, hd, hi, hR => by
    have hi : i = l.length := by simpa using hi
    subst hi
    simp at hR
    rw [denK_loop]
    simp [Tryd.f100, hR]
  | x :: r, i, hd, hi, hR => by
    have hlt : i < l.length := by simp at hi; omega
    have hltI : (i : Int) < l.length := by omega
    have hx : l[i] = x := by
      have := congrArg (·[0]?) hd
      simp at this
      simpa [hlt] using this
    have w1 : IntKind.i64.wrap ((i : Int) + 1) = (i : Int) + 1 := wrap_id (by unfold I64; omega)
    have hp := put1_run x
    rw [List.all_cons] at hR
    unfold idxU at hR
    rw [denK_loop]
    cases hf : fitsB x with
    | true =>
      rw [hf] at hR hp
      simp only [Bool.true_and, if_true] at hR
      have ih := idx_loop l hl k R r (i + 1) (by rw [← List.tail_drop, hd]; rfl) (by simp at hi; omega) hR
      simp at hp
      simp [Tryd.f100] at ih ⊢
      simp [hlt, hltI, hx, w1, hp, ih]
    | false =>
      rw [hf] at hR hp
      simp at hR hp
      simp [Tryd.f100]
      simp [hlt, hltI, hx, hp, hR]
theorem contains_run (l : List Ins) (hl : l.length ≤ 5000) : callT ctx 58 [.d (.list (l.map insD)), .fn 59 []] [] = some (.ret (.d (.bool (!(l.all fitsB)))), []) := by
  have h1 : callT ctx 100 [.d (.list (l.map insD)), .fn 59 []] [] = some (.ret (.d (.int .i64 (idxU 0 l))), []) := by
    have h := fun k R hR => idx_loop l hl k R l 0 rfl (by simp) hR
    rw [run100 (by simp)]
    simp [Tryd.f100] at h ⊢
    rw [h]
    split
    · rename_i ha
      intro Y
      have : ¬ (0 ≤ idxU 0 l) := fun hh => by
        have := (idxU_neg l 0).1 hh
        rw [List.all_eq_false] at this
        obtain ⟨x, hx, hn⟩ := this
        exact hn (ha x hx)
      have e : idxU 0 l = -1 := by
        have : ∀ (l : List Ins) (i : Nat), idxU i l = -1 ∨ 0 ≤ idxU i l := by
          intro l
          induction l with
          | nil => intro i; left; rfl
          | cons x r ih => intro i; unfold idxU; split; exact ih _; right; omega
        rcases this l 0 with h | h
        · exact h
        · exact absurd h ‹_›
      simp [e]
    · simp
  rw [run58 (by simp)]
  have hi := idxU_neg l 0
  generalize idxU 0 l = z at *
  simp [Tryd.f58, drwK_end, h1]
  cases h : l.all fitsB <;> simp [h] at hi ⊢ <;> omega
end Go.Am
end
section
namespace Go.Am
open Go Go.Proofs
variable [Inhabited Mx2]
set_option maxRecDepth 20000
/-- The register's bits, the highest first. -/
@[simp] def rowsW (v : W16) : List D := [.bool (v.getLsbD 15), .bool (v.getLsbD 14), .bool (v.getLsbD 13), .bool (v.getLsbD 12), .bool (v.getLsbD 11), .bool (v.getLsbD 10), .bool (v.getLsbD 9), .bool (v.getLsbD 8), .bool (v.getLsbD 7), .bool (v.getLsbD 6), .bool (v.getLsbD 5), .bool (v.getLsbD 4), .bool (v.getLsbD 3), .bool (v.getLsbD 2), .bool (v.getLsbD 1), .bool (v.getLsbD 0)]
set_option maxHeartbeats 2000000 in
theorem shift_loop (r0 r1 r2 r3 r4 r5 r6 r7 r8 r9 r10 r11 r12 r13 r14 r15 : Bool) (v : Nat) (A1 A7 A8 A9 : AV) (k : Kt) (R : Ans)
    (hR : k (.exit 6) ⟨84, gl0, [(1, true, A1), (5, true, .eptr 350 v 0 0), (7, true, A7), (8, true, A8), (9, true, A9), (10, true, .d (.int .i64 15)), (49, true, .d (.bool false))], [⟨350, v, .vec 1 [.bool r1, .bool r2, .bool r3, .bool r4, .bool r5, .bool r6, .bool r7, .bool r8, .bool r9, .bool r10, .bool r11, .bool r12, .bool r13, .bool r14, .bool r15, .bool r15]⟩]⟩ = R) :
    denK ctx 103 (.loop (Code.at (codeOf Tryd.f103) [1, 1, 1, 0, 1, 0, 0, 1, 0, 0, 1, 0, 0, 1, 0, 0, 1, 0, 1, 0, 0]))
      ⟨84, gl0, [(1, true, A1), (5, true, .eptr 350 v 0 0), (7, true, A7), (8, true, A8), (9, true, A9), (10, true, .d (.int .i64 0))], [⟨350, v, .vec 1 [.bool r0, .bool r1, .bool r2, .bool r3, .bool r4, .bool r5, .bool r6, .bool r7, .bool r8, .bool r9, .bool r10, .bool r11, .bool r12, .bool r13, .bool r14, .bool r15]⟩]⟩ k = R := by
  have w : ∀ y : Int, 0 ≤ y → y ≤ 100 → IntKind.i64.wrap y = y := fun y h1 h2 => wrap_id (by unfold I64; omega)
  have w1 := w 1 (by omega) (by omega)
  have w2 := w 2 (by omega) (by omega)
  have w3 := w 3 (by omega) (by omega)
  have w4 := w 4 (by omega) (by omega)
  have w5 := w 5 (by omega) (by omega)
  have w6 := w 6 (by omega) (by omega)
  have w7 := w 7 (by omega) (by omega)
  have w8 := w 8 (by omega) (by omega)
  have w9 := w 9 (by omega) (by omega)
  have w10 := w 10 (by omega) (by omega)
  have w11 := w 11 (by omega) (by omega)
  have w12 := w 12 (by omega) (by omega)
  have w13 := w 13 (by omega) (by omega)
  have w14 := w 14 (by omega) (by omega)
  have w15 := w 15 (by omega) (by omega)
  simp [Tryd.f103]
  iterate 16
    rw [denK_loop]
    simp [w1, w2, w3, w4, w5, w6, w7, w8, w9, w10, w11, w12, w13, w14, w15, drwK_end]
  exact hR
theorem bitAt_eq (x : UInt8) (n : Nat) : (((x.toNat : Int).fdiv (2 ^ n)).tmod 2 == 1) = bitAt x n := by
  unfold bitAt
  rw [Nat.testBit_eq_decide_div_mod_eq, Int.fdiv_eq_ediv_of_nonneg _ (Int.le_of_lt (Int.pow_pos (by omega)))]
  have e : ((x.toNat : Int) / 2 ^ n) = ((x.toNat / 2 ^ n : Nat) : Int) := by simp
  rw [e, show ((2 : Int)) = ((2 : Nat) : Int) from rfl, ← Int.ofNat_tmod]
  generalize x.toNat / 2 ^ n % 2 = z
  by_cases h : z = 1
  · simp [h]
  · simp [h]; omega
/-- The rows behind a step. -/
theorem rows_step (v : W16) (b : Bool) : rowsW (bstep v b) = [.bool (v.getLsbD 14), .bool (v.getLsbD 13), .bool (v.getLsbD 12), .bool (v.getLsbD 11 ^^ (v.getLsbD 15 ^^ b)), .bool (v.getLsbD 10), .bool (v.getLsbD 9), .bool (v.getLsbD 8), .bool (v.getLsbD 7), .bool (v.getLsbD 6), .bool (v.getLsbD 5), .bool (v.getLsbD 4 ^^ (v.getLsbD 15 ^^ b)), .bool (v.getLsbD 3), .bool (v.getLsbD 2), .bool (v.getLsbD 1), .bool (v.getLsbD 0), .bool (v.getLsbD 15 ^^ b)] := by
  unfold rowsW bstep
  generalize hu : (v.getLsbD 15 ^^ b) = u
  cases u <;> simp [polyW]
theorem xor_ne (a b : Bool) : (a != b) = (a ^^ b) := by cases a <;> cases b <;> rfl
set_option maxHeartbeats 2000000 in
theorem bit_loop (l : List UInt8) (x : UInt8) (j : Nat) (hlt : j < l.length) (hx : l[j] = x) (A1 : AV) (hA : A1 = .d (.list (l.map byteD))) (v : Nat) (k : Kt) (R : Ans) : ∀ (n : Nat) (s : W16), n ≤ 8 →
    (k (.exit 4) ⟨84, gl0, [(1, true, A1), (5, true, .eptr 350 v 0 0), (7, true, .d (.int .i64 j)), (8, true, .d (.int .i64 (-1))), (33, true, .d (.bool false))], [⟨350, v, .vec 1 (rowsW (bsteps x n s))⟩]⟩ = R) →
    denK ctx 103 (.loop (Code.at (codeOf Tryd.f103) [1, 1, 1, 0, 1, 0, 0, 1, 0, 0, 1, 0, 0]))
      ⟨84, gl0, [(1, true, A1), (5, true, .eptr 350 v 0 0), (7, true, .d (.int .i64 j)), (8, true, .d (.int .i64 ((n : Int) - 1)))], [⟨350, v, .vec 1 (rowsW s)⟩]⟩ k = R
  | 0, s, hn, hR => by
    simp only [bsteps] at hR
    generalize rowsW s = rows at *
    rw [denK_loop]
    simp [Tryd.f103, hR]
  | n + 1, s, hn, hR => by
    have ih := bit_loop l x j hlt hx A1 hA v k R n (bstep s (bitAt x n)) (by omega) hR
    have hsh := fun A7 A8 A9 k R hR => shift_loop (s.getLsbD 15) (s.getLsbD 14) (s.getLsbD 13) (s.getLsbD 12) (s.getLsbD 11) (s.getLsbD 10) (s.getLsbD 9) (s.getLsbD 8) (s.getLsbD 7) (s.getLsbD 6) (s.getLsbD 5) (s.getLsbD 4) (s.getLsbD 3) (s.getLsbD 2) (s.getLsbD 1) (s.getLsbD 0) v A1 A7 A8 A9 k R hR
    rw [rows_step] at ih
    unfold rowsW
    have hjI : (j : Int) < l.length := by omega
    have hbit : decide (((x.toNat : Int).fdiv (2 ^ n)).tmod 2 = 1) = bitAt x n := bitAt_eq x n
    have w1 : IntKind.i64.wrap ((n : Int) - 1) = (n : Int) - 1 := wrap_id (by unfold I64; omega)
    have w2 : IntKind.u64.wrap (n : Int) = (n : Int) := by simp [IntKind.wrap, IntKind.bits, IntKind.signed]; omega
    have e0 : ((n + 1 : Nat) : Int) - 1 = n := by omega
    rw [e0]
    generalize s.getLsbD 0 = r0 at *
    generalize s.getLsbD 1 = r1 at *
    generalize s.getLsbD 2 = r2 at *
    generalize s.getLsbD 3 = r3 at *
    generalize s.getLsbD 4 = r4 at *
    generalize s.getLsbD 5 = r5 at *
    generalize s.getLsbD 6 = r6 at *
    generalize s.getLsbD 7 = r7 at *
    generalize s.getLsbD 8 = r8 at *
    generalize s.getLsbD 9 = r9 at *
    generalize s.getLsbD 10 = r10 at *
    generalize s.getLsbD 11 = r11 at *
    generalize s.getLsbD 12 = r12 at *
    generalize s.getLsbD 13 = r13 at *
    generalize s.getLsbD 14 = r14 at *
    generalize s.getLsbD 15 = r15 at *
    generalize bitAt x n = b at *
    have hb8 : IntKind.bits .u8 = 8 := rfl
    have hmin : min n 8 = n := by omega
    subst hA
    simp [Tryd.f103] at hsh
    rw [denK_loop]
    simp [Tryd.f103]
    simp [hlt, hjI, hx, w2, hb8, hmin, drwK_end, hbit, hsh]
    simp [Tryd.f103] at ih
    cases r15 <;> cases b <;> simp at ih <;> simp [w1, ih, drwK_end]
end Go.Am
end
section
namespace Go.Am
open Go Go.Proofs
variable [Inhabited Mx2]
set_option maxRecDepth 20000
def crcR (s : W16) (l : List UInt8) : W16 := l.foldl (fun s x => bsteps x 8 s) s
theorem crcR_eq : ∀ (l : List UInt8) (s : W16), crcR s l = crcL s l
  | [], _ => rfl
  | x :: r, s => by
    show crcR (bsteps x 8 s) r = crcL (crcB s x) r
    rw [crcB_bits]
    exact crcR_eq r _
theorem rbytes_loop (l : List UInt8) (hl : l.length ≤ 1000000) (A1 : AV) (hA : A1 = .d (.list (l.map byteD))) (v : Nat) (k : Kt) (R : Ans) : ∀ (rest : List UInt8) (j : Nat) (s : W16), l.drop j = rest → j + rest.length = l.length →
    (k (.exit 2) ⟨84, gl0, [(1, true, A1), (5, true, .eptr 350 v 0 0), (7, true, .d (.int .i64 l.length)), (29, true, .d (.bool false))], [⟨350, v, .vec 1 (rowsW (crcR s rest))⟩]⟩ = R) →
    denK ctx 103 (.loop (Code.at (codeOf Tryd.f103) [1, 1, 1, 0, 1, 0, 0]))
      ⟨84, gl0, [(1, true, A1), (5, true, .eptr 350 v 0 0), (7, true, .d (.int .i64 j))], [⟨350, v, .vec 1 (rowsW s)⟩]⟩ k = R
  | [], j, s, hd, hj, hR => by
    have hj : j = l.length := by simpa using hj
    subst hj
    subst hA
    simp only [crcR, List.foldl_nil] at hR
    generalize rowsW s = rows at *
    rw [denK_loop]
    simp [Tryd.f103, hR]
  | x :: rest, j, s, hd, hj, hR => by
    have hlt : j < l.length := by simp at hj; omega
    have hltI : (j : Int) < l.length := by omega
    have hx : l[j] = x := by
      have := congrArg (·[0]?) hd
      simp at this
      simpa [hlt] using this
    have ih := rbytes_loop l hl A1 hA v k R rest (j + 1) (bsteps x 8 s) (by rw [← List.tail_drop, hd]; rfl) (by simp at hj; omega) hR
    have w1 : IntKind.i64.wrap ((j : Int) + 1) = (j : Int) + 1 := wrap_id (by unfold I64; omega)
    have hb := fun k R hR => bit_loop l x j hlt hx A1 hA v k R 8 s (by omega) hR
    generalize rowsW (bsteps x 8 s) = rows2 at *
    generalize rowsW s = rows at *
    subst hA
    simp [Tryd.f103] at ih hb
    rw [denK_loop]
    simp [Tryd.f103]
    simp [hlt, hltI, w1, hb, ih]
theorem rows_at (v : W16) : ∀ i, i < 16 → (rowsW v)[i]? = some (.bool (v.getLsbD (15 - i)))
  | 0, _ | 1, _ | 2, _ | 3, _ | 4, _ | 5, _ | 6, _ | 7, _ | 8, _ | 9, _ | 10, _ | 11, _ | 12, _ | 13, _ | 14, _ | 15, _ => rfl
  | n + 16, h => by omega
theorem num_loop (s : W16) (v : Nat) (k : Kt) (R : Ans) 
    (hR : k (.exit 8) ⟨84, gl0, [(5, true, .eptr 350 v 0 0), (11, true, .d (.int .i64 s.toNat)), (12, true, .d (.int .i64 16)), (73, true, .d (.bool false))], [⟨350, v, .vec 1 (rowsW s)⟩]⟩ = R) : ∀ (d i : Nat) (X : Env), i + d = 16 → 
    denK ctx 103 (.loop (Code.at (codeOf Tryd.f103) [1, 1, 1, 1, 1, 0, 1, 0, 0]))
      ⟨84, gl0, [(5, true, .eptr 350 v 0 0), (11, true, .d (.int .i64 (s.toNat / 2 ^ d : Nat))), (12, true, .d (.int .i64 i))], [⟨350, v, .vec 1 (rowsW s)⟩]⟩ k = R
  | 0, i, X, hi => by
    have hi : i = 16 := by omega
    subst hi
    generalize rowsW s = rows at *
    rw [denK_loop]
    simp [Tryd.f103, hR]
  | d + 1, i, X, hi => by
    have ih := num_loop s v k R hR d (i + 1) [] (by omega)
    have hs := s.isLt
    have hlt : i < 16 := by omega
    have hltI : (i : Int) < 16 := by omega
    have hat := rows_at s i hlt
    have hlen : (rowsW s).length = 16 := rfl
    have e15 : 15 - i = d := by omega
    rw [e15] at hat
    have hdv : s.toNat / 2 ^ d = 2 * (s.toNat / 2 ^ (d + 1)) + (s.getLsbD d).toNat := by
      rw [Nat.pow_succ, ← Nat.div_div_eq_div_mul, BitVec.getLsbD, Nat.testBit_eq_decide_div_mod_eq]
      by_cases h : s.toNat / 2 ^ d % 2 = 1
      · simp [h]; omega
      · simp [h]; omega
    have hle : s.toNat / 2 ^ (d + 1) ≤ s.toNat := Nat.div_le_self _ _
    rw [hdv] at ih
    generalize s.toNat / 2 ^ (d + 1) = q at *
    generalize rowsW s = rows at *
    generalize s.getLsbD d = b at *
    have hat2 : ∀ h, rows[i]'h = .bool b := fun h => by
      rw [List.getElem?_eq_getElem h] at hat; exact Option.some.inj hat
    have w1 : IntKind.i64.wrap ((i : Int) + 1) = (i : Int) + 1 := wrap_id (by unfold I64; omega)
    have w2 : IntKind.i64.wrap ((q : Int) * 2) = 2 * (q : Int) := by rw [wrap_id (by unfold I64; omega)]; omega
    have w3 : IntKind.i64.wrap (2 * (q : Int) + 1) = 2 * (q : Int) + 1 := wrap_id (by unfold I64; omega)
    simp [Tryd.f103] at ih
    rw [denK_loop]
    simp [Tryd.f103]
    simp [hlt, hltI, hat, hat2, hlen, w1, w2]
    cases b <;> simp at ih <;> simp [w3, w1, ih]
theorem init_loop (v : Nat) (A1 : AV) (k : Kt) (R : Ans) (hR : k (.exit 0) ⟨84, gl0, [(0, true, .d (.int .i64 65535)), (1, true, A1), (5, true, .eptr 350 v 0 0), (6, true, .d (.int .i64 16)), (14, true, .d (.bool false))], [⟨350, v, .vec 1 (rowsW 65535#16)⟩]⟩ = R) : ∀ (d i : Nat), i + d = 16 → 
    denK ctx 103 (.loop (Code.at (codeOf Tryd.f103) [1, 1, 0, 1, 0, 0]))
      ⟨84, gl0, [(0, true, .d (.int .i64 65535)), (1, true, A1), (5, true, .eptr 350 v 0 0), (6, true, .d (.int .i64 i))], [⟨350, v, .vec 1 (List.replicate i (.bool true) ++ List.replicate d (.bool false))⟩]⟩ k = R
  | 0, i, hi => by
    have hi : i = 16 := by omega
    subst hi
    have e : List.replicate 16 (D.bool true) = rowsW 65535#16 := by simp [List.replicate]
    rw [List.replicate_zero, List.append_nil, e]
    generalize rowsW 65535#16 = rows at *
    rw [denK_loop]
    simp [Tryd.f103, hR]
  | d + 1, i, hi => by
    have ih := init_loop v A1 k R hR d (i + 1) (by omega)
    have hlt : i < 16 := by omega
    have hltI : (i : Int) < 16 := by omega
    have w1 : IntKind.i64.wrap ((i : Int) + 1) = (i : Int) + 1 := wrap_id (by unfold I64; omega)
    have w2 : IntKind.i64.wrap (15 - (i : Int)) = ((15 - i : Nat) : Int) := by rw [wrap_id (by unfold I64; omega)]; omega
    have w3 : IntKind.u64.wrap ((15 - i : Nat) : Int) = ((15 - i : Nat) : Int) := by simp [IntKind.wrap, IntKind.bits, IntKind.signed]; omega
    have hone : ∀ j : Nat, j < 16 → ((65535 : Int).fdiv (2 ^ (min j 64))).tmod 2 = 1 := by decide
    have h1 := hone (15 - i) (by omega)
    have hset : (List.replicate i (D.bool true) ++ List.replicate (d + 1) (D.bool false)).set i (.bool true) = List.replicate (i + 1) (.bool true) ++ List.replicate d (.bool false) := by
      rw [List.replicate_succ (n := d), List.set_append_right _ _ (by simp), List.replicate_succ' (n := i)]
      simp
    have hlen : (List.replicate i (D.bool true) ++ List.replicate (d + 1) (D.bool false)).length = 16 := by simp; omega
    rw [← hset] at ih
    generalize List.replicate i (D.bool true) ++ List.replicate (d + 1) (D.bool false) = rows at *
    have hb8 : IntKind.bits .i64 = 64 := rfl
    simp [Tryd.f103] at ih
    rw [denK_loop]
    simp [Tryd.f103]
    simp [hlt, hltI, w1, w2, w3, h1, hlen, hb8, ih]
theorem rsumOf_run (l : List UInt8) (hl : l.length ≤ 1000000) : callT ctx 66 [.d (.list (l.map byteD))] [] = some (.ret (.d (.int .i64 (crcL 65535#16 l).toNat)), []) := by
  have hgo : callT ctx 103 [.d (.int .i64 65535), .d (.list (l.map byteD))] [] = some (.ret (.d (.int .i64 (crcL 65535#16 l).toNat)), []) := by
    have hi := fun v A1 k R hR => init_loop v A1 k R hR 16 0 rfl
    have hb := fun v k R hR => rbytes_loop l hl _ rfl v k R l 0 65535#16 rfl (by simp) hR
    rw [crcR_eq] at hb
    generalize crcL 65535#16 l = z at *
    have hn := fun v k R hR => num_loop z v k R hR 16 0 [] rfl
    have e0 : z.toNat / 2 ^ 16 = 0 := Nat.div_eq_of_lt z.isLt
    rw [e0] at hn
    generalize rowsW z = rows at *
    generalize rowsW 65535#16 = rows1 at *
    have hz : List.replicate 0 (D.bool true) ++ List.replicate 16 (D.bool false) = List.replicate 16 (D.bool false) := rfl
    rw [hz] at hi
    rw [run103 (by simp)]
    simp [Tryd.f103] at hi hb hn
    simp [Tryd.f103]
    rw [hi]
    simp
    rw [hb]
    simp
    rw [hn]
    simp
  rw [run66 (by simp)]
  simp [Tryd.f66, hgo]
end Go.Am
end
section
namespace Go.Am
open Go Go.Proofs
variable [Inhabited Mx2]
set_option maxRecDepth 20000
def putsB (l : List Ins) : List UInt8 := l.flatMap putB
theorem putsB_len : ∀ l : List Ins, (putsB l).length ≤ 21 * l.length
  | [] => by simp [putsB]
  | x :: r => by
    have h1 := putB_len x
    have h2 := putsB_len r
    unfold putsB at h2 ⊢
    simp only [List.flatMap_cons, List.length_append, List.length_cons]
    omega
/-- An entry that names no vector. -/
def PlainC (c : Cont) : Prop := c = .dead ∨ ∃ ds : List D, c = .box (ds.map .d)
theorem puts_loop (l : List Ins) (hl : l.length ≤ 5000) (M1 M2 : Ent) (h1 : M1.key = 150) (h2 : M2.key = 200) (T : List UInt8) (hT : T.length ≤ 200000) (k : Kt) (R : Ans)
    (hR : ∀ v v5 c5, PlainC c5 → k (.exit 2) ⟨53, gl0, [(4, true, .vec 950 v 0 T.length), (38, true, .d (.list (l.map insD))), (39, true, .d (.int .i64 l.length)), (40, true, .d (.int .i64 l.length)), (41, true, .d (.bool false))], [M1, M2, ⟨500, v5, c5⟩, ⟨950, v, .vec 1 (T.map byteD)⟩]⟩ = R) :
    ∀ (r : List Ins) (i : Nat) (out : List UInt8) (v v5 : Nat) (c5 : Cont), PlainC c5 → l.drop i = r → i + r.length = l.length → out ++ putsB r = T →
    denK ctx 28 (.loop (Code.at (codeOf Tryd.f28) [1, 1, 1, 1, 0, 1, 0, 0]))
      ⟨53, gl0, [(4, true, .vec 950 v 0 out.length), (38, true, .d (.list (l.map insD))), (39, true, .d (.int .i64 l.length)), (40, true, .d (.int .i64 i))], [M1, M2, ⟨500, v5, c5⟩, ⟨950, v, .vec 1 (out.map byteD)⟩]⟩ k = R
  | [], i, out, v, v5, c5, hc5, hd, hi, ho => by
    have hi : i = l.length := by simpa using hi
    subst hi
    have ho : out = T := by simpa [putsB] using ho
    subst ho
    rw [denK_loop]
    simp [Tryd.f28, hR _ _ _ hc5]
  | x :: r, i, out, v, v5, c5, hc5, hd, hi, ho => by
    have hlt : i < l.length := by simp at hi; omega
    have hltI : (i : Int) < l.length := by omega
    have hx : l[i] = x := by
      have := congrArg (·[0]?) hd
      simp at this
      simpa [hlt] using this
    have w1 : IntKind.i64.wrap ((i : Int) + 1) = (i : Int) + 1 := wrap_id (by unfold I64; omega)
    have hol : out.length ≤ 200000 := by have := congrArg List.length ho; simp at this; omega
    have hp := put_run out x (by omega)
    have ih := fun v v5 => puts_loop l hl M1 M2 h1 h2 T hT k R hR r (i + 1) (out ++ putB x) v v5 (.box [.d (.int .i64 x.op), .d (.int .i64 x.a), .d (.int .i64 x.b), .d (.int .i64 x.n), .d (.int .i64 x.m)]) (.inr ⟨[.int .i64 x.op, .int .i64 x.a, .int .i64 x.b, .int .i64 x.n, .int .i64 x.m], rfl⟩) (by rw [← List.tail_drop, hd]; rfl) (by simp at hi; omega) (by rw [← ho]; simp [putsB])
    generalize out ++ putB x = o2 at *
    obtain ⟨k1, v1, c1⟩ := M1
    obtain ⟨k2, v2, c2⟩ := M2
    simp only at h1 h2
    subst h1; subst h2
    simp at hp
    simp [Tryd.f28] at ih
    rw [denK_loop]
    simp [Tryd.f28]
    simp [hlt, hltI, hx, w1, hp, ih]
def headBs (n : Nat) (vars cells : Int) : List UInt8 := (([83, 86, 67, 49] ++ bigB (u64N vars) 2) ++ bigB (u64N cells) 2) ++ bigB (u64N n) 2
def bodyB (ins : List Ins) (vars cells : Int) : List UInt8 := headBs ins.length vars cells ++ putsB ins
def sumB (b : List UInt8) : List UInt8 := b ++ bigB (crcL 65535#16 b).toNat 2
def putP (ins : List Ins) (vars cells : Int) : List UInt8 × Nat := if (okCode pinsN ins vars cells && ins.all fitsB) = true then (sumB (bodyB ins vars cells), 0) else ([], 1)
theorem heads_loop (A1 : AV) (hA1 : A1 = .ptr 150 1 0) (vars cells : Int) (n : Nat) (cs : List AV) (c2 c5 : Cont) (v2 v5 v : Nat) (k : Kt) (R : Ans)
    (hR : ∀ v, k (.exit 0) ⟨53, gl0, [(1, true, A1), (4, true, .vec 950 v 0 (headBs n vars cells).length), (26, true, .d (.list [.int .i64 vars, .int .i64 cells, .int .i64 n])), (27, true, .d (.int .i64 3)), (28, true, .d (.int .i64 3)), (29, true, .d (.bool false))], [⟨150, 1, .box cs⟩, ⟨200, v2, c2⟩, ⟨500, v5, c5⟩, ⟨950, v, .vec 1 ((headBs n vars cells).map byteD)⟩]⟩ = R) :
    denK ctx 28 (.loop (Code.at (codeOf Tryd.f28) [1, 1, 1, 0, 1, 0, 0]))
      ⟨53, gl0, [(1, true, A1), (4, true, .vec 950 v 0 4), (26, true, .d (.list [.int .i64 vars, .int .i64 cells, .int .i64 n])), (27, true, .d (.int .i64 3)), (28, true, .d (.int .i64 0))], [⟨150, 1, .box cs⟩, ⟨200, v2, c2⟩, ⟨500, v5, c5⟩, ⟨950, v, .vec 1 [.int .u8 83, .int .u8 86, .int .u8 67, .int .u8 49]⟩]⟩ k = R := by
  have q1 := big_run [83, 86, 67, 49] (u64N vars) 2 (by omega) (by simp)
  have l1 : (([83, 86, 67, 49] : List UInt8) ++ bigB (u64N vars) 2).length = 6 := by simp [bigB_len]
  have q2 := big_run ([83, 86, 67, 49] ++ bigB (u64N vars) 2) (u64N cells) 2 (by omega) (by omega)
  have l2 : ((([83, 86, 67, 49] : List UInt8) ++ bigB (u64N vars) 2) ++ bigB (u64N cells) 2).length = 8 := by simp [bigB_len]
  have q3 := big_run (([83, 86, 67, 49] ++ bigB (u64N vars) 2) ++ bigB (u64N cells) 2) (u64N n) 2 (by omega) (by omega)
  have l3 : (headBs n vars cells).length = 10 := by simp [headBs, bigB_len]
  have e3 : (([83, 86, 67, 49] ++ bigB (u64N vars) 2) ++ bigB (u64N cells) 2) ++ bigB (u64N n) 2 = headBs n vars cells := rfl
  rw [e3] at q3
  have ha := u64N_wrap vars
  have hb := u64N_wrap cells
  have hn := u64N_wrap n
  have w1 : IntKind.i64.wrap 1 = 1 := wrap_id (by unfold I64; omega)
  have w2 : IntKind.i64.wrap 2 = 2 := wrap_id (by unfold I64; omega)
  have w3 : IntKind.i64.wrap 3 = 3 := wrap_id (by unfold I64; omega)
  generalize headBs n vars cells = o3 at *
  generalize (([83, 86, 67, 49] ++ bigB (u64N vars) 2) ++ bigB (u64N cells) 2) = o2 at *
  rw [l2] at q2 q3
  rw [l3] at q3
  rw [l1] at q1
  obtain ⟨o1, ho1⟩ : ∃ o1, o1 = ([83, 86, 67, 49] : List UInt8) ++ bigB (u64N vars) 2 := ⟨_, rfl⟩
  rw [← ho1] at q1 q2
  rw [← ho1] at l1
  rw [l1] at q2
  rw [l3] at hR
  subst hA1
  simp at q1 q2 q3
  simp [Tryd.f28]
  rw [denK_loop]
  simp [ha, q1, w1]
  rw [denK_loop]
  simp [hb, w1, w2, q2]
  rw [denK_loop]
  simp [hn, w1, w2, w3, q3]
  rw [denK_loop]
  simp [hR]
end Go.Am
end
section
namespace Go.Am
open Go Go.Proofs
variable [Inhabited Mx2]
set_option maxRecDepth 20000
theorem bodyB_len (ins : List Ins) (vars cells : Int) : (bodyB ins vars cells).length ≤ 10 + 21 * ins.length := by
  have h1 := putsB_len ins
  have h2 : (headBs ins.length vars cells).length = 10 := by simp [headBs, bigB_len]
  unfold bodyB
  simp only [List.length_append]
  omega
set_option maxHeartbeats 1000000 in
theorem imgPut_run (ins : List Ins) (vars cells : Int) (hl : ins.length ≤ 5000) : callT ctx 28 [.d (codeD ins vars cells)] [] =
    some (.ret (.tup [.vec 0 0 0 (putP ins vars cells).1.length, .d (.int .i64 (putP ins vars cells).2)]), [(0, .vec 1 ((putP ins vars cells).1.map byteD))]) := by
  have hc := checkCode_run pinsN pins_ok ins vars cells hl
  have hf := contains_run ins hl
  rw [run28 (by simp)]
  unfold putP
  cases h1 : okCode pinsN ins vars cells with
  | false =>
    rw [h1] at hc
    simp at hc
    simp [Tryd.f28, drwK_end, hc]
  | true =>
    cases h2 : ins.all fitsB with
    | false =>
      rw [h1] at hc
      rw [h2] at hf
      simp at hc hf
      simp [Tryd.f28, drwK_end, hc, hf]
    | true =>
      rw [h1] at hc
      rw [h2] at hf
      have hbl := bodyB_len ins vars cells
      have hhl := fun cs c2 c5 v2 v5 v k R hR => heads_loop _ rfl vars cells ins.length cs c2 c5 v2 v5 v k R hR
      have hpl := fun M1 M2 h1 h2 k R hR v v5 c5 hc5 => puts_loop ins hl M1 M2 h1 h2 (bodyB ins vars cells) (by omega) k R hR ins 0 (headBs ins.length vars cells) v v5 c5 hc5 rfl (by simp) rfl
      have hs := sumOf_run (bodyB ins vars cells) (by omega)
      have hbg := big_run (bodyB ins vars cells) (crcL 65535#16 (bodyB ins vars cells)).toNat 2 (by omega) (by omega)
      have w1 : IntKind.u64.wrap ((crcL 65535#16 (bodyB ins vars cells)).toNat : Int) = ((crcL 65535#16 (bodyB ins vars cells)).toNat : Int) := by
        have := (crcL 65535#16 (bodyB ins vars cells)).isLt
        simp [IntKind.wrap, IntKind.bits, IntKind.signed]; omega
      have e : sumB (bodyB ins vars cells) = bodyB ins vars cells ++ bigB (crcL 65535#16 (bodyB ins vars cells)).toNat 2 := rfl
      rw [← e] at hbg
      generalize sumB (bodyB ins vars cells) = T at *
      generalize crcL 65535#16 (bodyB ins vars cells) = s at *
      generalize bodyB ins vars cells = B at *
      generalize headBs ins.length vars cells = H at *
      simp at hc hf hs hbg
      simp [Tryd.f28] at hhl hpl
      have r4 : [0, 1, 2, 3] = List.range' 0 4 := rfl
      have r3 : [0, 1, 2] = List.range' 0 3 := rfl
      simp [Tryd.f28, drwK_end, hc, hf, r4, r3]
      refine hhl _ _ _ _ _ _ _ _ (fun v => ?_)
      simp
      refine hpl _ _ rfl rfl _ _ (fun v v5 c5 hc5 => ?_) _ _ _ (.inl rfl)
      rcases hc5 with rfl | ⟨ds, rfl⟩
      · simp [hs, hbg, w1]
      · simp [hs, hbg, w1]
end Go.Am
end
section
namespace Go.Am
open Go Go.Proofs
variable [Inhabited Mx2]
set_option maxRecDepth 20000
def lastN (b : List UInt8) : Nat := (b[b.length - 2]?.getD 0).toNat * 256 + (b[b.length - 1]?.getD 0).toNat
def openF (b : List UInt8) : List UInt8 × Nat :=
  if 131072 < b.length then ([], 13)
  else if b.length < 2 ∨ (crcL 65535#16 (b.take (b.length - 2))).toNat ≠ lastN b then ([], 6)
  else if b.length < 6 ∨ b.take 4 ≠ [83, 86, 67, 49] then ([], 5)
  else ((b.take (b.length - 2)).drop 4, 0)
theorem split2 (b : List UInt8) (h : 2 ≤ b.length) : ∃ t x y, b = t ++ [x, y] := by
  refine ⟨b.take (b.length - 2), b[b.length - 2], b[b.length - 1], ?_⟩
  have h1 : b.drop (b.length - 2) = [b[b.length - 2], b[b.length - 1]] := by
    rw [List.drop_eq_getElem_cons (by omega), List.drop_eq_getElem_cons (by omega)]
    have e : b.length - 2 + 1 = b.length - 1 := by omega
    simp only [e]
    rw [List.drop_of_length_le (by omega)]
  have := List.take_append_drop (b.length - 2) b
  rw [h1] at this
  exact this.symm
theorem or16 (x y : UInt8) : IntKind.u16.wrap ((((IntKind.u16.wrap ((x.toNat : Int) * 256) % 65536).toNat ||| (IntKind.u16.wrap (y.toNat : Int) % 65536).toNat : Nat)) : Int) = ((x.toNat * 256 + y.toNat : Nat) : Int) := by
  have hx := x.toNat_lt
  have hy := y.toNat_lt
  have e1 : IntKind.u16.wrap ((x.toNat : Int) * 256) = ((x.toNat * 256 : Nat) : Int) := by simp [IntKind.wrap, IntKind.bits, IntKind.signed]; omega
  have e2 : IntKind.u16.wrap (y.toNat : Int) = (y.toNat : Int) := by simp [IntKind.wrap, IntKind.bits, IntKind.signed]; omega
  have m1 : (((x.toNat * 256 : Nat) : Int) % 65536).toNat = x.toNat * 256 := by omega
  have m2 : (((y.toNat : Nat) : Int) % 65536).toNat = y.toNat := by omega
  rw [e1, e2, m1, m2]
  have h := Nat.shiftLeft_add_eq_or_of_lt (show y.toNat < 2 ^ 8 by omega) x.toNat
  rw [Nat.shiftLeft_eq] at h
  rw [show x.toNat * 256 = x.toNat * 2 ^ 8 by omega, ← h]
  simp [IntKind.wrap, IntKind.bits, IntKind.signed]; omega
set_option maxHeartbeats 1000000 in
theorem opened_run (b : List UInt8) (hl : b.length ≤ 900000) : callT ctx 67 [.d (.list (b.map byteD))] [] = some (.ret (.tup [.d (.list ((openF b).1.map byteD)), .d (.int .i64 (openF b).2)]), []) := by
  have w1 : IntKind.i64.wrap ((b.length : Int) - 2) = (b.length : Int) - 2 := wrap_id (by unfold I64; omega)
  rw [run67 (by simp)]
  unfold openF
  by_cases h1 : 131072 < b.length
  · have h1I : (131072 : Int) < b.length := by omega
    simp [Tryd.f67, drwK_end, w1, h1, h1I]
  have h1I : ¬ (131072 : Int) < b.length := by omega
  by_cases h2 : b.length < 2
  · have h2I : (b.length : Int) - 2 < 0 := by omega
    simp [Tryd.f67, drwK_end, w1, h1, h1I, h2, h2I]
  obtain ⟨n, hn⟩ : ∃ n, b.length = n + 2 := ⟨b.length - 2, by omega⟩
  have hs := sumOf_run (b.take n) (by simp; omega)
  have e1 : b.length - 2 = n := by omega
  have e2 : b.length - 1 = n + 1 := by omega
  have hx : n < b.length := by omega
  have hy1 : n + 1 < b.length := by omega
  have hxI : (n : Int) < b.length := by omega
  have hyI : (n : Int) + 1 < b.length := by omega
  obtain ⟨x, hxx⟩ : ∃ x, x = b[n] := ⟨_, rfl⟩
  obtain ⟨y, hyy⟩ : ∃ y, y = b[n + 1] := ⟨_, rfl⟩
  have e3 : lastN b = x.toNat * 256 + y.toNat := by
    unfold lastN
    rw [e1, e2, List.getElem?_eq_getElem hx, List.getElem?_eq_getElem hy1, hxx, hyy]
    rfl
  rw [e1, e3]
  have ho := or16 x y
  have hy := y.toNat_lt
  have e5 : IntKind.u16.wrap (x.toNat : Int) = (x.toNat : Int) := by have := x.toNat_lt; simp [IntKind.wrap, IntKind.bits, IntKind.signed]; omega
  have e6 : IntKind.u16.wrap (y.toNat : Int) = (y.toNat : Int) := by simp [IntKind.wrap, IntKind.bits, IntKind.signed]; omega
  have hym : y.toNat % 65536 = y.toNat := by omega
  rw [e6] at ho
  have hym2 : ((y.toNat : Int) % 65536).toNat = y.toNat := by omega
  rw [hym2] at ho
  have hb : IntKind.bits .u16 = 16 := rfl
  have w2 : IntKind.i64.wrap ((n : Int) + 1) = (n : Int) + 1 := wrap_id (by unfold I64; omega)
  have w3 : IntKind.i64.wrap ((b.length : Int) - 2) = (n : Int) := by rw [w1]; omega
  have h0 : ¬ (n : Int) < 0 := by omega
  have hnn : ((n : Int) + 1).toNat = n + 1 := by omega
  have hn0 : (0 : Int) ≤ (n : Int) + 1 := by omega
  have hle : n ≤ b.length := by omega
  have hcomp : (byteOf ∘ byteD) = id := by funext c; simp [byteOf]
  have hby : ∀ k : Nat, ∀ d ∈ List.take k (List.map byteD b), d.isByte = true := fun k d hd => by
    have := List.mem_of_mem_take hd
    simp only [List.mem_map] at this
    obtain ⟨c, _, rfl⟩ := this
    rfl
  have hby4 : (∀ d ∈ List.take 4 (List.map byteD b), d.isByte = true) = True := eq_true (hby 4)
  have hoc : (x.toNat : Int) * 256 + (y.toNat : Int) = IntKind.u16.wrap ((((IntKind.u16.wrap ((x.toNat : Int) * 256) % 65536).toNat ||| y.toNat : Nat)) : Int) := by rw [ho]; simp
  generalize (crcL 65535#16 (b.take n)) = s at *
  simp at hs
  simp only [h1, if_false]
  have c2 : (b.length < 2 ∨ s.toNat ≠ x.toNat * 256 + y.toNat) ↔ ¬ s.toNat = x.toNat * 256 + y.toNat := by omega
  have c3 : (b.length < 6 ∨ b.take 4 ≠ [83, 86, 67, 49]) ↔ ¬ (4 ≤ n ∧ b.take 4 = [83, 86, 67, 49]) := by
    constructor
    · rintro (h | h) ⟨h3, h4⟩
      · omega
      · exact h h4
    · intro h
      by_cases h3 : b.length < 6
      · exact .inl h3
      · exact .inr fun h4 => h ⟨by omega, h4⟩
  simp only [c2, c3]
  by_cases hq : s.toNat = x.toNat * 256 + y.toNat
  rotate_left
  · have hqI : ¬ ((s.toNat : Int) = ((x.toNat * 256 + y.toNat : Nat) : Int)) := by omega
    rw [← ho] at hqI
    simp [Tryd.f67, drwK_end, w2, w3, h0, h1, h1I, hs, hb, e5, e6, hym, hx, hy1, hxI, hyI, ← hxx, ← hyy, hnn, hn0, hle, hcomp, hq, hqI]
  have hqI : ((s.toNat : Int) = ((x.toNat * 256 + y.toNat : Nat) : Int)) := by omega
  rw [← ho] at hqI
  by_cases h4 : 4 ≤ n
  · have h4I : (4 : Int) ≤ n := by omega
    have h4I' : ¬ (n : Int) < 4 := by omega
    have h4b : 4 ≤ b.length := by omega
    by_cases hS : b.take 4 = [83, 86, 67, 49]
    · simp [Tryd.f67, drwK_end, w2, w3, h0, h1, h1I, hs, hb, e5, e6, hym, hx, hy1, hxI, hyI, ← hxx, ← hyy, hnn, hn0, hle, hcomp, hq, hqI, h4, h4I, h4I', h4b, hS, hby4, ← hoc]
    · simp [Tryd.f67, drwK_end, w2, w3, h0, h1, h1I, hs, hb, e5, e6, hym, hx, hy1, hxI, hyI, ← hxx, ← hyy, hnn, hn0, hle, hcomp, hq, hqI, h4, h4I, h4I', h4b, hS, hby4, ← hoc]
  · have h4I : (n : Int) < 4 := by omega
    simp [Tryd.f67, drwK_end, w2, w3, h0, h1, h1I, hs, hb, e5, e6, hym, hx, hy1, hxI, hyI, ← hxx, ← hyy, hnn, hn0, hle, hcomp, hq, hqI, h4, h4I, ← hoc]
end Go.Am
end
section
namespace Go.Am
open Go Go.Proofs
variable [Inhabited Mx2]
set_option maxRecDepth 20000
def bigN (l : List UInt8) : Nat := l.foldl (fun n x => n * 256 + x.toNat) 0
theorem fold_lt : ∀ (l : List UInt8) (n k : Nat), n < 256 ^ k → l.foldl (fun n x => n * 256 + x.toNat) n < 256 ^ (k + l.length)
  | [], n, k, h => h
  | x :: r, n, k, h => by
    have hx := x.toNat_lt
    have h1 : n * 256 + x.toNat < 256 ^ (k + 1) := by
      rw [Nat.pow_succ]
      have : (n + 1) * 256 ≤ 256 ^ k * 256 := Nat.mul_le_mul_right _ h
      omega
    have := fold_lt r _ _ h1
    simp only [List.foldl_cons, List.length_cons]
    rw [show k + (r.length + 1) = k + 1 + r.length by omega]
    exact this
theorem bigN_lt (l : List UInt8) : bigN l < 256 ^ l.length := by
  have := fold_lt l 0 0 (by simp)
  simpa [bigN] using this
@[simp] def rdBox (l : List UInt8) (e : Int) : Cont := .box [.d (.list (l.map byteD)), .d (.int .i64 e)]
theorem or64 (n : Nat) (x : UInt8) (hn : n < 72057594037927936) : IntKind.u64.wrap ((((IntKind.u64.wrap ((n : Int) * 256) % 18446744073709551616).toNat ||| x.toNat : Nat)) : Int) = ((n * 256 + x.toNat : Nat) : Int) := by
  have hx := x.toNat_lt
  have e1 : IntKind.u64.wrap ((n : Int) * 256) = ((n * 256 : Nat) : Int) := by simp [IntKind.wrap, IntKind.bits, IntKind.signed]; omega
  have m1 : (((n * 256 : Nat) : Int) % 18446744073709551616).toNat = n * 256 := by omega
  rw [e1, m1]
  have h := Nat.shiftLeft_add_eq_or_of_lt (show x.toNat < 2 ^ 8 by omega) n
  rw [Nat.shiftLeft_eq] at h
  rw [show n * 256 = n * 2 ^ 8 by omega, ← h]
  simp [IntKind.wrap, IntKind.bits, IntKind.signed]; omega
theorem rtake_loop (l : List UInt8) (hl : l.length ≤ 8) (s : Int) (c0 : Cont) (k : Kt) (R : Ans) (hR : k (.exit 0) ⟨57, gl0, [(0, true, .ptr 0 0 0), (1, true, .d (.int .i64 s)), (5, true, .d (.int .u64 (bigN l))), (35, true, .d (.list (l.map byteD))), (36, true, .d (.int .i64 l.length)), (37, true, .d (.int .i64 l.length)), (38, true, .d (.bool false))], [⟨0, 0, c0⟩]⟩ = R) :
    ∀ (r : List UInt8) (i n : Nat), l.drop i = r → i + r.length = l.length → n < 256 ^ i → r.foldl (fun n x => n * 256 + x.toNat) n = bigN l →
    denK ctx 68 (.loop (Code.at (codeOf Tryd.f68) [1, 1, 1, 1, 0, 1, 0, 0])) ⟨57, gl0, [(0, true, .ptr 0 0 0), (1, true, .d (.int .i64 s)), (5, true, .d (.int .u64 n)), (35, true, .d (.list (l.map byteD))), (36, true, .d (.int .i64 l.length)), (37, true, .d (.int .i64 i))], [⟨0, 0, c0⟩]⟩ k = R
  | [], i, n, hd, hi, hn, hf => by
    have hi : i = l.length := by simpa using hi
    subst hi
    simp at hf
    subst hf
    rw [denK_loop]
    simp [Tryd.f68, hR]
  | x :: r, i, n, hd, hi, hn, hf => by
    have hlt : i < l.length := by simp at hi; omega
    have hltI : (i : Int) < l.length := by omega
    have hx : l[i] = x := by
      have := congrArg (·[0]?) hd
      simp at this
      simpa [hlt] using this
    have hxl := x.toNat_lt
    have w1 : IntKind.i64.wrap ((i : Int) + 1) = (i : Int) + 1 := wrap_id (by unfold I64; omega)
    have hn7 : n < 72057594037927936 := by
      have : 256 ^ i ≤ 256 ^ 7 := Nat.pow_le_pow_right (by omega) (by omega)
      have e : (256 : Nat) ^ 7 = 72057594037927936 := by decide
      omega
    have hnext : n * 256 + x.toNat < 256 ^ (i + 1) := by
      rw [Nat.pow_succ]
      have : (n + 1) * 256 ≤ 256 ^ i * 256 := Nat.mul_le_mul_right _ hn
      omega
    have ih := rtake_loop l hl s c0 k R hR r (i + 1) (n * 256 + x.toNat) (by rw [← List.tail_drop, hd]; rfl) (by simp at hi; omega) hnext hf
    have ho := or64 n x hn7
    have e5 : IntKind.u64.wrap (x.toNat : Int) = (x.toNat : Int) := by simp [IntKind.wrap, IntKind.bits, IntKind.signed]; omega
    have hb : IntKind.bits .u64 = 64 := rfl
    have hm : x.toNat % 18446744073709551616 = x.toNat := by omega
    rw [denK_loop]
    simp [Tryd.f68] at ih
    simp [Tryd.f68]
    simp [hlt, hltI, hx, w1, hb, e5, hm, ho, ih]
    done
end Go.Am
end
section
namespace Go.Am
open Go Go.Proofs
variable [Inhabited Mx2]
set_option maxRecDepth 20000
theorem bigB_snoc (m : Nat) : ∀ s, bigB m (s + 1) = bigB (m / 256) s ++ [UInt8.ofNat m]
  | 0 => by simp [bigB]
  | s + 1 => by
    have ih := bigB_snoc m s
    have e : m / 2 ^ (8 * (s + 1)) = (m / 256) / 2 ^ (8 * s) := by
      rw [Nat.div_div_eq_div_mul, show 8 * (s + 1) = 8 + 8 * s by omega, Nat.pow_add]
    rw [bigB, ih, bigB, e]
    rfl
theorem laid_loop (N : Nat) (hN : N ≤ 100) (v : Nat) (k : Kt) (R : Ans) (T : List UInt8) (hR : ∀ m : Nat, k (.exit 0) ⟨24, gl0, [(0, true, .d (.int .u64 m)), (5, true, .vec 500 v 0 N), (6, true, .d (.int .i64 (-1))), (12, true, .d (.bool false))], [⟨500, v, .vec 1 (T.map byteD)⟩]⟩ = R) :
    ∀ (i m : Nat) (tail : List UInt8), m < 18446744073709551616 → i + tail.length = N → bigB m i ++ tail = T →
    denK ctx 64 (.loop (Code.at (codeOf Tryd.f64) [1, 1, 0, 1, 0, 0])) ⟨24, gl0, [(0, true, .d (.int .u64 m)), (5, true, .vec 500 v 0 N), (6, true, .d (.int .i64 ((i : Int) - 1)))], [⟨500, v, .vec 1 ((List.replicate i 0 ++ tail).map byteD)⟩]⟩ k = R
  | 0, m, tail, hm, hi, ht => by
    have ht : tail = T := by simpa [bigB] using ht
    subst ht
    rw [denK_loop]
    simp [Tryd.f64, hR]
  | i + 1, m, tail, hm, hi, ht => by
    have ih := laid_loop N hN v k R T hR i (m / 256) (UInt8.ofNat m :: tail) (by omega) (by simp; omega) (by rw [← ht, bigB_snoc]; simp)
    have e0 : ((i + 1 : Nat) : Int) - 1 = i := by omega
    have w1 : IntKind.i64.wrap ((i : Int) - 1) = (i : Int) - 1 := wrap_id (by unfold I64; omega)
    have hset : (List.replicate (i + 1) 0 ++ tail).set i (UInt8.ofNat m) = List.replicate i 0 ++ UInt8.ofNat m :: tail := by
      rw [List.replicate_succ', List.append_assoc, List.set_append_right _ _ (by simp)]
      simp
    have hlt : i < (List.replicate (i + 1) (0 : UInt8) ++ tail).length := by simp; omega
    have hltN : i < N := by omega
    have hltI : (i : Int) < N := by omega
    have hmod : IntKind.u8.wrap ((m : Int).tmod 256) = ((UInt8.ofNat m).toNat : Int) := by
      have e : (m : Int).tmod 256 = ((m % 256 : Nat) : Int) := (Int.ofNat_tmod m 256).symm
      rw [e]; simp [IntKind.wrap, IntKind.bits, IntKind.signed]
    have hdiv : IntKind.u64.wrap ((m : Int) / 256) = ((m / 256 : Nat) : Int) := by
      have e : ((m : Int) / 256) = ((m / 256 : Nat) : Int) := by simp
      rw [e]; simp [IntKind.wrap, IntKind.bits, IntKind.signed]; omega
    have hset2 : (List.map byteD (List.replicate (i + 1) 0 ++ tail)).set i (.int .u8 ((UInt8.ofNat m).toNat : Int)) = List.map byteD (List.replicate i 0 ++ UInt8.ofNat m :: tail) := by
      rw [← hset, List.map_set]; rfl
    have hlen : (List.map byteD (List.replicate (i + 1) 0 ++ tail)).length = N := by simp; omega
    rw [e0, denK_loop]
    rw [← hset2] at ih
    generalize UInt8.ofNat m = c at *
    generalize List.map byteD (List.replicate (i + 1) 0 ++ tail) = rows at *
    generalize hq : m / 256 = q at *
    simp [Tryd.f64] at ih
    simp [Tryd.f64]
    simp [hltI, hltN, w1, hmod, hdiv, hlen, ih]
theorem laid_run (n s : Nat) (hs : s ≤ 8) (hn : n < 18446744073709551616) : callT ctx 64 [.d (.int .u64 n), .d (.int .i64 s)] [] = some (.ret (.d (.list ((bigB n s).map byteD))), []) := by
  have hlen := bigB_len n s
  have h := fun v k R hR => laid_loop s (by omega) v k R (bigB n s) hR s n [] hn (by simp) (by simp)
  have w1 : IntKind.i64.wrap ((s : Int) - 1) = (s : Int) - 1 := wrap_id (by unfold I64; omega)
  generalize bigB n s = T at *
  rw [run64 (by simp)]
  simp [Tryd.f64] at h
  have g1 : (s : Int) ≤ 140737488355328 ∧ (s : Int) ≤ 4611686018427387904 := by omega
  simp [Tryd.f64, w1, g1]
  rw [h]
  simp [hlen]
end Go.Am
end
section
namespace Go.Am

/-- One instruction by itself, by the reference. -/
def singleB (pins : Int → Nat) (len cells at_ : Int) (x : Ins) : Bool :=
  if x.op = 1 ∨ x.op = 11 then true
  else if x.op = 2 ∨ x.op = 3 ∨ x.op = 6 ∨ x.op = 14 then thereB cells x.a 1
  else if x.op = 13 then thereB cells x.a 1 && thereB cells x.b 2
  else if x.op = 4 ∨ x.op = 5 ∨ x.op = 7 then decide (0 ≤ x.n) && decide (x.m ≤ 255) && decide (x.n ≤ x.m) && thereB cells x.a (x.m - x.n + 1)
  else if x.op = 8 then doesB x
  else if x.op = 9 ∨ x.op = 10 then decide (0 ≤ x.a) && decide (x.a < len)
  else if x.op = 12 then decide (0 < pins x.b) && thereB cells x.a (pins x.b)
  else if x.op = 15 then decide (at_ = len - 1)
  else false
theorem single_form {pins : Int → Nat} {len cells at_ : Int} {x : Ins} (hc : 0 ≤ cells ∧ cells ≤ 8192) : singleB pins len cells at_ x = formB pins cells (len - 1) at_ x := by
  unfold singleB formB arrB
  have c1 := cell_there (cells := cells) (at_ := x.a) (n := 1) hc (by omega)
  have c2 := cell_there (cells := cells) (at_ := x.b) (n := 2) hc (by omega)
  rw [c1, c2]
  have ca : (decide (0 ≤ x.n) && decide (x.m ≤ 255) && decide (x.n ≤ x.m) && thereB cells x.a (x.m - x.n + 1)) = (decide (0 ≤ x.n) && decide (x.n ≤ x.m) && decide (x.m ≤ 255) && cellB cells x.a (x.m - x.n + 1)) := by
    by_cases h : x.n ≤ x.m
    · rw [cell_there (cells := cells) (at_ := x.a) (n := x.m - x.n + 1) hc (by omega)]
      cases decide (0 ≤ x.n) <;> cases decide (x.m ≤ 255) <;> simp [h]
    · simp [h]
  rw [ca]
  have cp : (decide (0 < pins x.b) && thereB cells x.a (pins x.b)) = (decide (0 < pins x.b) && cellB cells x.a (pins x.b)) := by
    by_cases h : 0 < pins x.b
    · rw [cell_there (cells := cells) (at_ := x.a) (n := pins x.b) hc (by omega)]
    · simp [h]
  rw [cp]
  have cj : decide (x.a < len) = decide (x.a ≤ len - 1) := by rw [Bool.eq_iff_iff]; simp only [decide_eq_true_eq]; omega
  rw [cj]
/-- What an instruction takes and gives: how many, whether of truths, whether a truth. -/
def effI (x : Ins) : Nat × Nat × Bool × Bool :=
  if x.op = 1 then (0, 1, false, decide (x.n = 0) || decide (x.n = 1))
  else if x.op = 2 then (0, 1, false, false)
  else if x.op = 3 ∨ x.op = 13 ∨ x.op = 14 then (0, 1, false, true)
  else if x.op = 4 ∨ x.op = 5 then (1, 1, false, decide (x.op = 5))
  else if x.op = 6 then (1, 0, false, false)
  else if x.op = 7 then (2, 0, false, false)
  else if x.op = 8 then (if x.b < 8 then 1 else 2, 1, decide (x.a = 1), decide (x.b = 7) || decide (12 < x.b))
  else if x.op = 10 then (1, 0, true, false)
  else (0, 0, false, false)
/-- One number after another taken. -/
def takeR (need : Bool) : Nat → List Bool → Option (List Bool)
  | 0, S => some S
  | n + 1, S => if need && !(S.getLastD true) then none else takeR need n S.dropLast
def movesR (x : Ins) (S : List Bool) : Option (List Bool) :=
  if S.length < (effI x).1 then none else
  match takeR (effI x).2.2.1 (effI x).1 S with
  | none => none
  | some S1 =>
    let S2 := if 0 < (effI x).2.1 then S1 ++ [(effI x).2.2.2] else S1
    if 64 < S2.length || (decide (0 < S2.length) && (decide (x.op = 9) || decide (x.op = 10) || decide (x.op = 11) || decide (x.op = 12) || decide (x.op = 15))) then none else some S2
theorem takeR_takeS {need : Bool} : ∀ {n : Nat} {S : List Bool}, n ≤ S.length → takeR need n S = takeS n need S
  | 0, S, h => by simp [takeR, takeS]
  | n + 1, S, h => by
    have hne : S ≠ [] := by intro h0; simp [h0] at h
    obtain ⟨ini, b, rfl⟩ : ∃ ini b, S = ini ++ [b] := ⟨S.dropLast, S.getLast hne, (List.dropLast_concat_getLast _).symm⟩
    have hl : n ≤ ini.length := by simpa using h
    have ih := takeR_takeS (need := need) (n := n) (S := ini) hl
    unfold takeR
    rw [show (ini ++ [b]).getLastD true = b by simp, List.dropLast_concat, ih]
    unfold takeS
    have e1 : (ini ++ [b]).length - (n + 1) = ini.length - n := by simp
    have c1 : ¬ ((ini ++ [b]).length < n + 1) := by omega
    have c2 : ¬ (ini.length < n) := by omega
    rw [if_neg c1, if_neg c2, e1, List.drop_append_of_le_length (by omega), List.take_append_of_le_length (by omega)]
    cases need <;> cases b <;> simp
theorem movesR_S {pins : Int → Nat} {cells last at_ : Int} {x : Ins} {S : List Bool} (hf : formB pins cells last at_ x = true) (hl : S.length ≤ 64) : movesR x S = movesS x S := by
  have hg : ∀ (t : Bool) (S1 : List Bool), giveS t S1 = if 64 < (S1 ++ [t]).length then none else some (S1 ++ [t]) := by
    intro t S1
    unfold giveS
    by_cases h : S1.length < 64
    · rw [if_pos h, if_neg (by simp; omega)]
    · rw [if_neg h, if_pos (by simp; omega)]
  have he : ∀ S1 : List Bool, emptyS S1 = if 0 < S1.length then none else some S1 := by
    intro S1; cases S1 <;> simp [emptyS]
  have ht : ∀ {n t S1}, takeS n t S = some S1 → S1.length ≤ 64 := by
    intro n t S1 h
    unfold takeS at h
    split at h
    · cases h
    · split at h
      · cases h
      · cases h; simp; omega
  have htl : ∀ {n t}, S.length < n → takeS n t S = none := by
    intro n t h
    unfold takeS; rw [if_pos h]
  -- what is taken, by cases
  have key : ∀ (n : Nat) (t : Bool) (f : List Bool → Option (List Bool)), (if S.length < n then none else match takeR t n S with | none => none | some S1 => f S1) = (takeS n t S).bind f := by
    intro n t f
    by_cases h : S.length < n
    · rw [if_pos h, htl h]; rfl
    · rw [if_neg h, takeR_takeS (by omega)]
      cases takeS n t S <;> rfl
  have key1 : ∀ (n : Nat) (t : Bool), (takeS n t S).bind (fun S1 => if 64 < S1.length then none else some S1) = takeS n t S := by
    intro n t
    cases h : takeS n t S with
    | none => rfl
    | some S1 => have := ht h; simp; omega
  have t0 : ∀ t, takeS 0 t S = some S := by intro t; simp [takeS]
  unfold movesR
  rw [key]
  unfold formB at hf
  unfold movesS effI
  by_cases e1 : x.op = 1
  · simp [e1, t0, hg]
  by_cases e2 : x.op = 2
  · simp [e2, t0, hg]
  by_cases e3 : x.op = 3
  · simp [e3, t0, hg]
  by_cases e13 : x.op = 13
  · simp [e13, t0, hg]
  by_cases e14 : x.op = 14
  · simp [e14, t0, hg]
  by_cases e4 : x.op = 4
  · simp [e4]
    congr 1; funext S1; rw [hg]; simp
  by_cases e5 : x.op = 5
  · simp [e5]
    congr 1; funext S1; rw [hg]; simp
  by_cases e6 : x.op = 6
  · simp [e6]
    exact key1 _ _
  by_cases e7 : x.op = 7
  · simp [e7]
    exact key1 _ _
  by_cases e8 : x.op = 8
  · simp [e8] at hf
    have hb : x.b = 6 ∨ x.b = 7 ∨ 8 ≤ x.b := by
      unfold doesB at hf
      split at hf
      · simp at hf; omega
      · split at hf
        · simp at hf; omega
        · cases hf
    have hn : (if x.b = 6 ∨ x.b = 7 then 1 else 2 : Nat) = if x.b < 8 then 1 else 2 := by
      by_cases h : x.b < 8
      · rw [if_pos h, if_pos (by omega)]
      · rw [if_neg h, if_neg (by omega)]
    have hgv : (decide (x.b = 7) || decide (13 ≤ x.b)) = (decide (x.b = 7) || decide (12 < x.b)) := by
      rw [Bool.eq_iff_iff]; simp only [Bool.or_eq_true, decide_eq_true_eq]; omega
    simp only [e8, hn, hgv]
    simp
    congr 1; funext S1; rw [hg]; simp
  have hep : ∀ S1 : List Bool, (if (decide (64 < S1.length) || decide (0 < S1.length)) = true then none else some S1) = emptyS S1 := by
    intro S1
    rw [he]
    cases S1 <;> simp
  by_cases e10 : x.op = 10
  · simp only [e10]
    simp
    congr 1
    funext S1
    have := hep S1
    simpa using this
  have h9 : x.op = 9 ∨ x.op = 11 ∨ x.op = 12 ∨ x.op = 15 := by
    by_cases a9 : x.op = 9
    · exact .inl a9
    by_cases a11 : x.op = 11
    · exact .inr (.inl a11)
    by_cases a12 : x.op = 12
    · exact .inr (.inr (.inl a12))
    by_cases a15 : x.op = 15
    · exact .inr (.inr (.inr a15))
    simp [e1, e2, e3, e4, e5, e6, e7, e8, e10, e13, e14, a9, a11, a12, a15] at hf
  have hS := hep S
  rcases h9 with h | h | h | h <;> simp [h, t0] <;> simpa using hS
end Go.Am
end
section
namespace Go.Am
open Go Go.Proofs
variable [Inhabited Mx2]
set_option maxRecDepth 20000
theorem there_run (l : List D) (vars cells at_ n : Int) :
    callT ctx 79 [.d (.agg [.list l, .int .i64 vars, .int .i64 cells]), .d (.int .i64 at_), .d (.int .i64 n)] [] = some (.ret (.d (.bool (decide (0 ≤ at_) && decide (at_ ≤ 8192) && decide (IntKind.i64.wrap (at_ + n) ≤ cells)))), []) := by
  rw [run79 (by simp)]
  simp [Tryd.f79, drwK_end]
theorem effect_run (x : Ins) :
    callT ctx 41 [.d (insD x)] [] = some (.ret (.tup [.d (.int .i64 (effI x).1), .d (.int .i64 (effI x).2.1), .d (.bool (effI x).2.2.1), .d (.bool (effI x).2.2.2)]), []) := by
  rw [run41 (by simp)]
  simp [Tryd.f41, drwK_end]
  grind (splits := 40) [effI]
set_option maxHeartbeats 2000000 in
theorem single_run (pins : Int → Nat) (hp : PinsOk 80 pins) (ins : List Ins) (vars cells : Int) (i : Nat) (hi : i < ins.length) (hl : ins.length ≤ 5000) :
    callT ctx 40 [.d (codeD ins vars cells), .d (.int .i64 i)] [] = some (.ret (.d (.bool (singleB pins ins.length cells i ins[i]))), []) := by
  obtain ⟨l, hl1, hl2, hl3⟩ := hp ins[i].b
  rw [run40 (by simp)]
  simp [Tryd.f40, drwK_end, hi, there_run, hl1, hl2]
  generalize ins[i] = x at *
  have w : ∀ y : Int, -9223372036854775808 ≤ y → y ≤ 9223372036854775807 → IntKind.i64.wrap y = y := fun y h1 h2 => wrap_id ⟨h1, h2⟩
  clear hl1 hl2
  simp only [hoistB, retB_iff]
  grind (splits := 60) [singleB, thereB, doesB]
end Go.Am
end
section
namespace Go.Am
open Go Go.Proofs
variable [Inhabited Mx2]

def singlesB (pins : Int → Nat) (len cells : Int) : Nat → List Ins → Bool
  | _, [] => true
  | i, x :: r => singleB pins len cells i x && singlesB pins len cells (i + 1) r
def stackR (led : List Bool) : Nat → List Ins → List Bool → Bool
  | _, [], _ => true
  | i, x :: r, S => if led.getD i false && !S.isEmpty then false else match movesR x S with
    | none => false
    | some S' => stackR led (i + 1) r S'
def aroundB (ins : List Ins) : Bool := (struck (succI ins) (List.range ins.length).reverse (ins.length + 1) (List.replicate ins.length false)).any (fun b => !b)
def refCode (pins : Int → Nat) (ins : List Ins) (vars cells : Int) : Bool :=
  headB ins.length vars cells (lastOp ins) && singlesB pins ins.length cells 0 ins && stackR (ledOf ins) 0 ins [] && !(aroundB ins)
theorem singles_forms {pins : Int → Nat} {len cells : Int} (hc : 0 ≤ cells ∧ cells ≤ 8192) : ∀ (l : List Ins) (i : Nat), singlesB pins len cells i l = formsB pins cells (len - 1) i l
  | [], _ => rfl
  | x :: r, i => by rw [singlesB, formsB, single_form hc, singles_forms hc r]
theorem stackR_S {pins : Int → Nat} {cells last : Int} (led : List Bool) : ∀ (l : List Ins) (i : Nat) (S : List Bool), formsB pins cells last i l = true → S.length ≤ 64 → stackR led i l S = stackS led i l S
  | [], _, _, _, _ => rfl
  | x :: r, i, S, hf, hS => by
    simp only [formsB, Bool.and_eq_true] at hf
    rw [stackR, stackS, movesR_S hf.1 hS]
    split
    · rfl
    · cases h : movesS x S with
      | none => rfl
      | some S' => exact stackR_S led r (i + 1) S' hf.2 (movesS_len hS h)
theorem around_iff {pins : Int → Nat} {ins : List Ins} {vars cells : Int} (h : okForms pins ins vars cells = true) : aroundB ins = true ↔ ∃ i < ins.length, ¬ Ends (succI ins) i := by
  have hl : left (List.replicate ins.length false) < ins.length + 1 := by
    have : left (List.replicate ins.length false) ≤ (List.replicate ins.length false).length := List.countP_le_length
    simp at this; omega
  obtain ⟨h1, h2⟩ := struck_all (succ := succI ins) (N := ins.length) (succ_in h) (List.range ins.length).reverse (by simp) (ins.length + 1) (List.replicate ins.length false) (by simp) hl
    (fun i hi hg => by simp [List.getD_eq_getElem?_getD, List.getElem?_replicate, hi] at hg)
  unfold aroundB
  generalize struck (succI ins) (List.range ins.length).reverse (ins.length + 1) (List.replicate ins.length false) = g at h1 h2
  simp only [List.any_eq_true]
  constructor
  · rintro ⟨b, hb, hf⟩
    obtain ⟨i, hi, rfl⟩ := List.getElem_of_mem hb
    refine ⟨i, by omega, fun he => ?_⟩
    have := (h2 i (by omega)).2 he
    simp [hi] at this
    rw [this] at hf; cases hf
  · rintro ⟨i, hi, he⟩
    have hi' : i < g.length := by omega
    refine ⟨g[i], List.getElem_mem hi', ?_⟩
    cases hq : g[i] with
    | false => rfl
    | true => exact absurd ((h2 i hi).1 (by simp [hi', hq])) he
theorem ref_ok (pins : Int → Nat) (ins : List Ins) (vars cells : Int) : refCode pins ins vars cells = okCode pins ins vars cells := by
  unfold refCode okCode okForms
  cases hh : headB ins.length vars cells (lastOp ins) with
  | false => rfl
  | true =>
    have hc : 0 ≤ cells ∧ cells ≤ 8192 := by
      simp only [headB, Bool.and_eq_true, decide_eq_true_eq] at hh
      omega
    rw [singles_forms hc]
    cases hf : formsB pins cells ((ins.length : Int) - 1) 0 ins with
    | false => rfl
    | true =>
      have hok : okForms pins ins vars cells = true := by unfold okForms; rw [hh, hf]; rfl
      rw [stackR_S (ledOf ins) ins 0 [] hf (by simp)]
      have h1 := around_iff hok
      have h2 := round_iff hok
      have : aroundB ins = rounds (succP ins) (ins.length + 1) (List.range ins.length) (List.replicate ins.length 0) := by
        rw [Bool.eq_iff_iff, h1, h2]
      rw [this]
end Go.Am
end
section
namespace Go.Am
open Go Go.Proofs
variable [Inhabited Mx2]
set_option maxRecDepth 20000
def freeB (g : List Bool) (i : Nat) (x : Ins) : Bool :=
  decide (x.op = 11) || decide (x.op = 15) || ((decide (x.op = 9) || g.getD (i + 1) true) && ((!decide (x.op = 9) && !decide (x.op = 10)) || g.getD x.a.toNat true))
theorem strike_free (ins : List Ins) (g : List Bool) (more : Bool) (i : Nat) (hi : i < ins.length) :
    strike (succI ins) (g, more) i = if g.getD i true = true then (g, more) else if freeB g i ins[i] = true then (g.set i true, true) else (g, more) := by
  unfold strike
  simp only
  split
  · rfl
  · have : (succI ins i).all (fun j => g.getD j true) = freeB g i ins[i] := by
      unfold succI tickAt nextI freeB
      have hx : ins[i]? = some ins[i] := by simp [hi]
      rw [hx]
      simp only [decide_eq_true_eq]
      by_cases e11 : ins[i].op = 11
      · simp [e11]
      by_cases e9 : ins[i].op = 9
      · simp [e9]
      by_cases e10 : ins[i].op = 10
      · simp [e10]
      by_cases e15 : ins[i].op = 15
      · simp [e15]
      simp [e11, e9, e10, e15]
    rw [this]
theorem strikes_len (ins : List Ins) : ∀ (l : List Nat) (s : List Bool × Bool), (∀ i ∈ l, i < ins.length) → (strikes (succI ins) l s).1.length = s.1.length
  | [], _, _ => rfl
  | i :: r, (g, m), h => by
    show (strikes (succI ins) r (strike (succI ins) (g, m) i)).1.length = _
    rw [strikes_len ins r _ (fun j hj => h j (by simp [hj])), strike_free ins g m i (h i (by simp))]
    split
    · rfl
    · split <;> simp
section
variable (ins : List Ins) (vars cells : Int)
@[simp] def arM (v : Nat) (ct : Cont) (g : List Bool) : Mem := [⟨150, 1, .box [.d (.list (ins.map insD)), .d (.int .i64 vars), .d (.int .i64 cells)]⟩, ⟨450, v, ct⟩, ⟨800, 1, .vec 1 (bD g)⟩]
set_option maxHeartbeats 2000000 in
theorem ar_inner (hin : Inside ins) (hl : ins.length ≤ 5000) (k : Kt) (R : Ans) :
    ∀ (m : Nat) (g : List Bool) (more : Bool), m ≤ ins.length → g.length = ins.length →
    (∀ v ct, k (.exit 2) ⟨82, gl0, [(1, true, .ptr 150 1 0), (3, true, .d (.int .i64 ins.length)), (4, true, .vec 800 1 0 ins.length), (5, true, .d (.bool (strikes (succI ins) (List.range m).reverse (g, more)).2)), (6, true, .d (.int .i64 (-1))), (19, true, .d (.bool false))], arM ins vars cells v ct (strikes (succI ins) (List.range m).reverse (g, more)).1⟩ = R) →
    ∀ (v : Nat) (ct : Cont), denK ctx 42 (.loop (Code.at (codeOf Tryd.f42) [1, 1, 1, 0, 1, 0, 0, 1, 0, 1, 1, 0, 0])) ⟨82, gl0, [(1, true, .ptr 150 1 0), (3, true, .d (.int .i64 ins.length)), (4, true, .vec 800 1 0 ins.length), (5, true, .d (.bool more)), (6, true, .d (.int .i64 ((m : Int) - 1)))],
        arM ins vars cells v ct g⟩ k = R
  | 0, g, more, hm, hg, hx, v, ct => by
    rw [denK_loop]
    simp [strikes] at hx
    simp [Tryd.f42, hx]
  | m + 1, g, more, hm, hg, hx, v, ct => by
    have hlt : m < ins.length := by omega
    have hgl : m < g.length := by omega
    have hx1 : ins[m]? = some ins[m] := by simp [hlt]
    obtain ⟨i1, i2⟩ := hin m ins[m] hx1
    have e : (List.range (m + 1)).reverse = m :: (List.range m).reverse := by rw [List.range_succ]; simp
    rw [e] at hx
    have es : strikes (succI ins) (m :: (List.range m).reverse) (g, more) = strikes (succI ins) (List.range m).reverse (strike (succI ins) (g, more) m) := rfl
    rw [es, strike_free ins g more m hlt] at hx
    have w1 : IntKind.i64.wrap ((m : Int) - 1) = (m : Int) - 1 := wrap_id (by unfold I64; omega)
    have w2 : IntKind.i64.wrap ((m : Int) + 1) = (m : Int) + 1 := wrap_id (by unfold I64; omega)
    have hgd : g.getD m true = g[m] := by simp [hgl]
    rw [hgd] at hx
    have ih1 := ar_inner hin hl k R m g more (by omega) hg
    have ih2 := ar_inner hin hl k R m (g.set m true) true (by omega) (by simpa using hg)
    have hset : (bD g).set m (.bool true) = bD (g.set m true) := bD_set g m true
    simp at hset
    have b3 : ¬ ((m : Int) + 1 < 0) := by omega
    cases hq : g[m]
    rotate_left
    · rw [hq, if_pos rfl] at hx
      replace ih1 := ih1 hx
      rw [denK_loop]
      simp [Tryd.f42] at ih1 ⊢
      simp [hlt, hgl, hq, w1, ih1]
    have hno : ¬ (false = true) := by decide
    rw [hq, if_neg hno] at hx
    by_cases e11 : ins[m].op = 11
    · have hfr : freeB g m ins[m] = true := by simp [freeB, hlt, hgl, hq, e11]
      rw [hfr, if_pos rfl] at hx
      replace ih2 := ih2 hx
      rw [denK_loop]
      simp [Tryd.f42, e11] at ih2 ⊢
      simp [hlt, hgl, hq, w1, hset, e11, ih2]
    by_cases e15 : ins[m].op = 15
    · have hfr : freeB g m ins[m] = true := by simp [freeB, hlt, hgl, hq, e15]
      rw [hfr, if_pos rfl] at hx
      replace ih2 := ih2 hx
      rw [denK_loop]
      simp [Tryd.f42, e15] at ih2 ⊢
      simp [hlt, hgl, hq, w1, hset, e15, ih2]
    by_cases e9 : ins[m].op = 9
    · obtain ⟨a1, a2⟩ := i1 (.inl e9)
      have a3 : ins[m].a.toNat < g.length := by omega
      have a4 : ins[m].a.toNat < ins.length := by omega
      cases hq2 : g[ins[m].a.toNat]
      · have hfr : freeB g m ins[m] = false := by simp [freeB, hlt, hgl, hq, hq2, a1, a3, a4, e9]
        rw [hfr, if_neg hno] at hx
        replace ih1 := ih1 hx
        rw [denK_loop]
        simp [Tryd.f42, e9] at ih1 ⊢
        simp [hlt, hgl, hq, hq2, w1, a1, a3, a4, e9, ih1]
      · have hfr : freeB g m ins[m] = true := by simp [freeB, hlt, hgl, hq, hq2, a1, a3, a4, e9]
        rw [hfr, if_pos rfl] at hx
        replace ih2 := ih2 hx
        rw [denK_loop]
        simp [Tryd.f42, e9] at ih2 ⊢
        simp [hlt, hgl, hq, hq2, w1, a1, a3, a4, hset, e9, ih2]
    have b1 : m + 1 < ins.length := i2 e9 e15
    have b2 : m + 1 < g.length := by omega
    by_cases e10 : ins[m].op = 10
    · obtain ⟨a1, a2⟩ := i1 (.inr e10)
      have a3 : ins[m].a.toNat < g.length := by omega
      have a4 : ins[m].a.toNat < ins.length := by omega
      cases hq3 : g[m + 1]
      · have hfr : freeB g m ins[m] = false := by simp [freeB, hlt, hgl, hq, hq3, b1, b2, b3, a1, a3, a4, e10]
        rw [hfr, if_neg hno] at hx
        replace ih1 := ih1 hx
        rw [denK_loop]
        simp [Tryd.f42, e10] at ih1 ⊢
        simp [hlt, hgl, hq, hq3, w1, w2, b1, b2, b3, a1, a3, a4, e10, ih1]
      · cases hq2 : g[ins[m].a.toNat]
        · have hfr : freeB g m ins[m] = false := by simp [freeB, hlt, hgl, hq, hq2, hq3, b1, b2, b3, a1, a3, a4, e10]
          rw [hfr, if_neg hno] at hx
          replace ih1 := ih1 hx
          rw [denK_loop]
          simp [Tryd.f42, e10] at ih1 ⊢
          simp [hlt, hgl, hq, hq2, hq3, w1, w2, b1, b2, b3, a1, a3, a4, e10, ih1]
        · have hfr : freeB g m ins[m] = true := by simp [freeB, hlt, hgl, hq, hq2, hq3, b1, b2, b3, a1, a3, a4, e10]
          rw [hfr, if_pos rfl] at hx
          replace ih2 := ih2 hx
          rw [denK_loop]
          simp [Tryd.f42, e10] at ih2 ⊢
          simp [hlt, hgl, hq, hq2, hq3, w1, w2, b1, b2, b3, a1, a3, a4, hset, e10, ih2]
    cases hq3 : g[m + 1]
    · have hfr : freeB g m ins[m] = false := by simp [freeB, hlt, hgl, hq, hq3, b1, b2, b3, e9, e10, e11, e15]
      rw [hfr, if_neg hno] at hx
      replace ih1 := ih1 hx
      rw [denK_loop]
      simp [Tryd.f42, e9, e10, e11, e15] at ih1 ⊢
      simp [hlt, hgl, hq, hq3, w1, w2, b1, b2, b3, e9, e10, e11, e15, ih1]
    · have hfr : freeB g m ins[m] = true := by simp [freeB, hlt, hgl, hq, hq3, b1, b2, b3, e9, e10, e11, e15]
      rw [hfr, if_pos rfl] at hx
      replace ih2 := ih2 hx
      rw [denK_loop]
      simp [Tryd.f42, e9, e10, e11, e15] at ih2 ⊢
      simp [hlt, hgl, hq, hq3, w1, w2, b1, b2, b3, hset, e9, e10, e11, e15, ih2]
theorem ar_outer (hin : Inside ins) (hl : ins.length ≤ 5000) (hs : ∀ i < ins.length, ∀ j ∈ succI ins i, j < ins.length) (k : Kt) (R : Ans) :
    ∀ (f : Nat) (g : List Bool), g.length = ins.length → left g < f →
    (∀ v ct, k (.exit 0) ⟨82, gl0, [(1, true, .ptr 150 1 0), (3, true, .d (.int .i64 ins.length)), (4, true, .vec 800 1 0 ins.length), (15, true, .d (.bool false))], arM ins vars cells v ct (struck (succI ins) (List.range ins.length).reverse f g)⟩ = R) →
    ∀ (X : Env), (X = [] ∨ X = [(6, true, .d (.int .i64 (-1))), (19, true, .d (.bool false))]) → ∀ (v : Nat) (ct : Cont), denK ctx 42 (.loop (Code.at (codeOf Tryd.f42) [1, 1, 1, 0, 1, 0, 0])) ⟨82, gl0, [(1, true, .ptr 150 1 0), (3, true, .d (.int .i64 ins.length)), (4, true, .vec 800 1 0 ins.length), (5, true, .d (.bool true))] ++ X,
        arM ins vars cells v ct g⟩ k = R
  | 0, g, hg, hf, hx, X, hX, v, ct => by omega
  | f + 1, g, hg, hf, hx, X, hX, v, ct => by
    have w1 : IntKind.i64.wrap ((ins.length : Int) - 1) = (ins.length : Int) - 1 := wrap_id (by unfold I64; omega)
    obtain ⟨ok, _⟩ := strikes_ok hs (List.range ins.length).reverse (g, false) hg (fun i hi => by simpa using hi)
    unfold struck at hx
    have hi := fun k => ar_inner ins vars cells hin hl k R ins.length g false (by omega) hg
    obtain ⟨g', b, hd⟩ : ∃ g' b, strikes (succI ins) (List.range ins.length).reverse (g, false) = (g', b) := ⟨_, _, rfl⟩
    rw [hd] at ok hi hx
    rw [denK_loop]
    cases b with
    | true =>
      have h1 := ok.less rfl rfl
      have h2 := ok.len
      simp only at h1 h2
      have ih := ar_outer hin hl hs k R f g' (by omega) (by omega) hx _ (.inr rfl)
      simp [Tryd.f42] at hi ih
      rcases hX with rfl | rfl
      all_goals
        simp [Tryd.f42]
        simp [w1]
        refine hi _ (fun v ct => ?_) _ _
        simp [ih]
    | false =>
      simp [Tryd.f42] at hi hx
      rcases hX with rfl | rfl
      all_goals
        simp [Tryd.f42]
        simp [w1]
        refine hi _ (fun v ct => ?_) _ _
        simp
        rw [denK_loop]
        simp [hx]
theorem ar_last (k : Kt) (R1 R2 : Ans) (g : List Bool) (hl : g.length ≤ 5000) (v : Nat) (ct : Cont) 
    (h1 : k .ret ⟨82, gl0, [(2, true, .d (.bool true))], arM ins vars cells v ct g⟩ = R1)
    (h2 : k (.exit 4) ⟨82, gl0, [(3, true, .d (.int .i64 g.length)), (4, true, .vec 800 1 0 g.length), (9, true, .d (.int .i64 g.length)), (74, true, .d (.bool false))], arM ins vars cells v ct g⟩ = R2) :
    ∀ (rest pre : List Bool), pre ++ rest = g →
    denK ctx 42 (.loop (Code.at (codeOf Tryd.f42) [1, 1, 1, 1, 0, 1, 0, 0])) ⟨82, gl0, [(3, true, .d (.int .i64 g.length)), (4, true, .vec 800 1 0 g.length), (9, true, .d (.int .i64 pre.length))],
        arM ins vars cells v ct g⟩ k = if rest.any (fun b => !b) then R1 else R2
  | [], pre, hp => by
    simp at hp
    subst hp
    rw [denK_loop]
    simp at h2
    simp [Tryd.f42, h2]
  | b :: rest, pre, hp => by
    have hpl : pre.length < g.length := by rw [← hp]; simp
    have hb : g[pre.length] = b := by simp [← hp]
    have w : IntKind.i64.wrap ((pre.length : Int) + 1) = pre.length + 1 := wrap_id (by unfold I64; omega)
    have ih := ar_last k R1 R2 g hl v ct h1 h2 rest (pre ++ [b]) (by simpa using hp)
    rw [denK_loop]
    cases b with
    | true =>
      simp [Tryd.f42] at ih ⊢
      simp [hpl, hb, w, ih]
    | false =>
      simp at h1
      simp [Tryd.f42]
      simp [hpl, hb, h1]
theorem around_run (hin : Inside ins) (hl : ins.length ≤ 5000) (hs : ∀ i < ins.length, ∀ j ∈ succI ins i, j < ins.length) :
    callT ctx 42 [.d (codeD ins vars cells)] [] = some (.ret (.d (.bool (aroundB ins))), []) := by
  have hlf : left (List.replicate ins.length false) < ins.length + 1 := by
    have : left (List.replicate ins.length false) ≤ (List.replicate ins.length false).length := List.countP_le_length
    simp at this; omega
  have g1 : (ins.length : Int) ≤ 140737488355328 ∧ (ins.length : Int) ≤ 4611686018427387904 := by omega
  have ho := fun k hx => ar_outer ins vars cells hin hl hs k (some (.ret (.d (.bool (aroundB ins))), [])) (ins.length + 1) (List.replicate ins.length false) (by simp) hlf hx [] (.inl rfl)
  have hst := (struck_all hs (List.range ins.length).reverse (by simp) (ins.length + 1) (List.replicate ins.length false) (by simp) hlf (fun i hi hg => by simp [List.getD_eq_getElem?_getD, List.getElem?_replicate, hi] at hg)).1
  have hB : aroundB ins = (struck (succI ins) (List.range ins.length).reverse (ins.length + 1) (List.replicate ins.length false)).any (fun b => !b) := rfl
  generalize struck (succI ins) (List.range ins.length).reverse (ins.length + 1) (List.replicate ins.length false) = g at ho hst hB
  have hla := fun k R1 R2 v ct h1 h2 => ar_last ins vars cells k R1 R2 g (by omega) v ct h1 h2 g [] rfl
  rw [run42 (by simp)]
  simp [Tryd.f42, hst] at ho hla ⊢
  simp [g1]
  refine ho _ (fun v ct => ?_) _ _
  simp
  rw [hla _ (some (.ret (.d (.bool true)), [])) (some (.ret (.d (.bool false)), [])) v ct (by simp) (by simp)]
  rw [hB]
  cases hq : g.any (fun b => !b) <;> simp_all
end
end Go.Am
end
section
namespace Go.Am
open Go Go.Proofs
variable [Inhabited Mx2]
set_option maxRecDepth 20000
section
variable (ins : List Ins) (vars cells : Int)
@[simp] def ccM (A B : Cont) (va vb : Nat) (T : List Bool) : Mem := [⟨150, 1, .box [.d (.list (ins.map insD)), .d (.int .i64 vars), .d (.int .i64 cells)]⟩, ⟨450, va, A⟩, ⟨550, vb, B⟩, ⟨2950, 1, .vec 1 (bD T)⟩]
set_option maxHeartbeats 1000000 in
theorem cc_led (pins : Int → Nat) (hp : PinsOk 80 pins) (hl : ins.length ≤ 5000) (k : Kt) (R1 R2 : Ans) (A B : Cont) (va vb : Nat)
    (h1 : ∀ T, k .ret ⟨174, gl0, [(2, true, .d (.bool false))], ccM ins vars cells A B va vb T⟩ = R1) :
    ∀ (rest : List Ins) (i : Nat) (T : List Bool), ins.drop i = rest → i + rest.length = ins.length → T.length = ins.length →
    (singlesB pins ins.length cells i rest = true → k (.exit 0) ⟨174, gl0, [(1, true, .ptr 150 1 0), (3, true, .d (.int .i64 ins.length)), (4, true, .vec 2950 1 0 ins.length), (5, true, .d (.int .i64 ins.length)), (60, true, .d (.bool false))], ccM ins vars cells A B va vb (rest.foldl ledStep T)⟩ = R2) →
    denK ctx 17 (.loop (Code.at (codeOf Tryd.f17) [1, 1, 1, 1, 0, 1, 0, 0])) ⟨174, gl0, [(1, true, .ptr 150 1 0), (3, true, .d (.int .i64 ins.length)), (4, true, .vec 2950 1 0 ins.length), (5, true, .d (.int .i64 i))],
        ccM ins vars cells A B va vb T⟩ k = if singlesB pins ins.length cells i rest = true then R2 else R1
  | [], i, T, hd, hi, hT, h2 => by
    have hi : i = ins.length := by simpa using hi
    subst hi
    rw [denK_loop]
    simp [singlesB] at h2
    simp [Tryd.f17, singlesB, h2]
  | x :: rest, i, T, hd, hi, hT, h2 => by
    have hlt : i < ins.length := by simp at hi; omega
    have hx : ins[i] = x := by
      have := congrArg (·[0]?) hd
      simp at this
      simpa [hlt] using this
    have hs := single_run pins hp ins vars cells i hlt hl
    have w1 : IntKind.i64.wrap ((i : Int) + 1) = (i : Int) + 1 := wrap_id (by unfold I64; omega)
    rw [hx] at hs
    rw [singlesB, denK_loop]
    cases hq : singleB pins ins.length cells i x with
    | false =>
      rw [hq] at hs
      simp at hs h1
      simp [Tryd.f17, hlt, hs, h1]
    | true =>
      rw [hq] at hs
      have ih := cc_led pins hp hl k R1 R2 A B va vb h1 rest (i + 1) (ledStep T x) (by rw [← List.tail_drop, hd]; rfl) (by simp at hi; omega) (by rw [ledStep_len]; exact hT) (fun h => h2 (by rw [singlesB, hq, h]; rfl))
      simp at hs
      by_cases e9 : x.op = 9
      · have hf := hq
        simp [singleB, e9] at hf
        have a3 : x.a.toNat < T.length := by omega
        have e : ledStep T x = T.set x.a.toNat true := by simp [ledStep, e9]
        have hset : (bD T).set x.a.toNat (.bool true) = bD (T.set x.a.toNat true) := bD_set _ _ _
        rw [e] at ih
        simp at hset
        simp [Tryd.f17] at ih ⊢
        simp [hlt, hs, hx, e9, hf, a3, w1, hset, ih, drwK_end]
      by_cases e10 : x.op = 10
      · have hf := hq
        simp [singleB, e10] at hf
        have a3 : x.a.toNat < T.length := by omega
        have e : ledStep T x = T.set x.a.toNat true := by simp [ledStep, e10]
        have hset : (bD T).set x.a.toNat (.bool true) = bD (T.set x.a.toNat true) := bD_set _ _ _
        rw [e] at ih
        simp at hset
        simp [Tryd.f17] at ih ⊢
        simp [hlt, hs, hx, e10, hf, a3, w1, hset, ih, drwK_end]
      have e : ledStep T x = T := by simp [ledStep, e9, e10]
      rw [e] at ih
      simp [Tryd.f17] at ih ⊢
      simp [hlt, hs, hx, e9, e10, w1, ih]
theorem takeR_take {need : Bool} {A : List Bool} : ∀ {r hf : Nat} {S : List Bool}, hf + r ≤ A.length → takeR need r (A.take (hf + r)) = some S → S = A.take hf
  | 0, hf, S, h, ht => by simpa [takeR] using ht.symm
  | r + 1, hf, S, h, ht => by
    unfold takeR at ht
    split at ht
    · cases ht
    · have e : (A.take (hf + (r + 1))).dropLast = A.take (hf + r) := by
        rw [List.dropLast_eq_take, List.take_take, List.length_take]; congr 1; omega
      rw [e] at ht
      exact takeR_take (by omega) ht
theorem takeR_step (need : Bool) (A : List Bool) (r hf : Nat) (h : hf + (r + 1) ≤ A.length) :
    takeR need (r + 1) (A.take (hf + (r + 1))) = if need && !(A[hf + r]'(by omega)) then none else takeR need r (A.take (hf + r)) := by
  have e : (A.take (hf + (r + 1))).dropLast = A.take (hf + r) := by
    rw [List.dropLast_eq_take, List.take_take, List.length_take]; congr 1; omega
  have e2 : (A.take (hf + (r + 1))).getLastD true = A[hf + r]'(by omega) := by
    rw [List.getLastD_eq_getLast?, List.getLast?_eq_getElem?, List.length_take, Nat.min_eq_left h, show hf + (r + 1) - 1 = hf + r by omega]
    simp [show hf + r < hf + (r + 1) by omega, show hf + r < A.length by omega]
  rw [takeR, e, e2]
@[simp] def ccN (A : List Bool) (B : Cont) (vb : Nat) (T : List Bool) : Mem := [⟨150, 1, .box [.d (.list (ins.map insD)), .d (.int .i64 vars), .d (.int .i64 cells)]⟩, ⟨450, 1, .vec 1 (bD A)⟩, ⟨550, vb, B⟩, ⟨2950, 1, .vec 1 (bD T)⟩]
set_option maxHeartbeats 1000000 in
theorem cc_take (k : Kt) (R1 R2 : Ans) (A : List Bool) (B : Cont) (vb : Nat) (T : List Bool) (i inn out hf : Nat) (need gives : Bool) (hinn : inn ≤ 1000) (hA : A.length = 70)
    (h1 : k .ret ⟨174, gl0, [(2, true, .d (.bool false))], ccN ins vars cells A B vb T⟩ = R1)
    (h2 : k (.exit 4) ⟨174, gl0, [(1, true, .ptr 150 1 0), (3, true, .d (.int .i64 ins.length)), (4, true, .vec 2950 1 0 ins.length), (6, true, .d (.int .i64 hf)), (7, true, .eptr 450 1 0 0), (8, true, .d (.int .i64 i)), (9, true, .ptr 550 vb 0), (10, true, .d (.int .i64 inn)), (11, true, .d (.int .i64 out)), (12, true, .d (.bool need)), (13, true, .d (.bool gives)), (14, true, .d (.int .i64 inn)), (121, true, .d (.bool false))], ccN ins vars cells A B vb T⟩ = R2) :
    ∀ (r kk : Nat), kk + r = inn → hf + r ≤ A.length →
    denK ctx 17 (.loop (Code.at (codeOf Tryd.f17) [1, 1, 1, 1, 1, 1, 1, 0, 1, 0, 0, 1, 0, 0, 1, 1, 1, 1, 0, 1, 0, 0])) ⟨174, gl0, [(1, true, .ptr 150 1 0), (3, true, .d (.int .i64 ins.length)), (4, true, .vec 2950 1 0 ins.length), (6, true, .d (.int .i64 (hf + r : Nat))), (7, true, .eptr 450 1 0 0), (8, true, .d (.int .i64 i)), (9, true, .ptr 550 vb 0), (10, true, .d (.int .i64 inn)), (11, true, .d (.int .i64 out)), (12, true, .d (.bool need)), (13, true, .d (.bool gives)), (14, true, .d (.int .i64 kk))],
        ccN ins vars cells A B vb T⟩ k = if (takeR need r (A.take (hf + r))).isSome = true then R2 else R1
  | 0, kk, hk, hh => by
    have hk : kk = inn := by omega
    subst hk
    rw [denK_loop]
    simp at h2
    simp [Tryd.f17, takeR, h2]
  | r + 1, kk, hk, hh => by
    have w1 : IntKind.i64.wrap ((kk : Int) + 1) = (kk : Int) + 1 := wrap_id (by unfold I64; omega)
    have w2 : IntKind.i64.wrap ((hf : Int) + ((r : Int) + 1) - 1) = (hf : Int) + r := by rw [wrap_id (by unfold I64; omega)]; omega
    have hkk : kk < inn := by omega
    have hlt : hf + r < A.length := by omega
    have hnn : ¬ ((hf : Int) + r < 0) := by omega
    have h70 : ¬ ((70 : Int) ≤ (hf : Int) + r) := by omega
    have htn : ((hf : Int) + r).toNat = hf + r := by omega
    have hnn2 : (0 : Int) ≤ (hf : Int) + r := by omega
    have ih := cc_take k R1 R2 A B vb T i inn out hf need gives hinn hA h1 h2 r (kk + 1) (by omega) (by omega)
    rw [takeR_step need A r hf hh, denK_loop]
    simp at h1
    cases need with
    | false =>
      simp [Tryd.f17] at ih ⊢
      simp [hkk, w1, w2, ih]
    | true =>
      cases hq : A[hf + r] with
      | true =>
        simp [Tryd.f17] at ih ⊢
        simp [hkk, w1, w2, hlt, hnn, hnn2, h70, htn, hq, ih]
      | false =>
        simp [Tryd.f17]
        simp [hkk, w1, w2, hlt, hnn, hnn2, h70, htn, hq, h1]
def badB (h : Nat) (x : Ins) : Bool := decide (64 < h) || (decide (0 < h) && (decide (x.op = 9) || decide (x.op = 10) || decide (x.op = 11) || decide (x.op = 12) || decide (x.op = 15)))
theorem eff_small (x : Ins) : (effI x).1 ≤ 2 ∧ ((effI x).2.1 = 0 ∨ (effI x).2.1 = 1) := by
  unfold effI
  repeat' split
  all_goals simp
end
end Go.Am
end
section
namespace Go.Am
open Go Go.Proofs
variable [Inhabited Mx2]
set_option maxRecDepth 20000
section
variable (ins : List Ins) (vars cells : Int)
theorem bad_case1 (h : Nat) (x : Ins) (R1 E : Ans) (h0 : 0 < h) (h64 : h ≤ 64) : (if badB h x = true then R1 else E) = (if x.op = 9 then R1 else if x.op = 10 then R1 else if x.op = 11 then R1 else if x.op = 12 then R1 else if x.op = 15 then R1 else E) := by
  grind [badB]
theorem bad_case2 (h : Nat) (x : Ins) (R1 E : Ans) (h64 : 64 < h) : (if badB h x = true then R1 else E) = R1 := by
  grind [badB]
set_option maxHeartbeats 2000000 in
theorem cc_stk (k : Kt) (R1 R2 : Ans) (T : List Bool) (hT : T.length = ins.length) (hl : ins.length ≤ 5000)
    (h1 : ∀ A vb B, k .ret ⟨174, gl0, [(2, true, .d (.bool false))], ccN ins vars cells A B vb T⟩ = R1)
    (h2 : ∀ (h : Nat) A vb B, k (.exit 2) ⟨174, gl0, [(1, true, .ptr 150 1 0), (3, true, .d (.int .i64 ins.length)), (4, true, .vec 2950 1 0 ins.length), (6, true, .d (.int .i64 h)), (7, true, .eptr 450 1 0 0), (8, true, .d (.int .i64 ins.length)), (93, true, .d (.bool false))], ccN ins vars cells A B vb T⟩ = R2) :
    ∀ (rest : List Ins) (i h : Nat) (A : List Bool) (vb : Nat) (B : Cont), ins.drop i = rest → i + rest.length = ins.length → A.length = 70 → h ≤ 64 →
    denK ctx 17 (.loop (Code.at (codeOf Tryd.f17) [1, 1, 1, 1, 1, 1, 1, 0, 1, 0, 0])) ⟨174, gl0, [(1, true, .ptr 150 1 0), (3, true, .d (.int .i64 ins.length)), (4, true, .vec 2950 1 0 ins.length), (6, true, .d (.int .i64 h)), (7, true, .eptr 450 1 0 0), (8, true, .d (.int .i64 i))],
        ccN ins vars cells A B vb T⟩ k = if stackR T i rest (A.take h) = true then R2 else R1
  | [], i, h, A, vb, B, hd, hi, hA, hh => by
    have hi : i = ins.length := by simpa using hi
    subst hi
    have h2 := h2 h A vb B
    rw [denK_loop]
    simp at h2
    simp [Tryd.f17, stackR, h2]
  | x :: rest, i, h, A, vb, B, hd, hi, hA, hh => by
    have hlt : i < ins.length := by simp at hi; omega
    have hltT : i < T.length := by omega
    have hx : ins[i] = x := by
      have := congrArg (·[0]?) hd
      simp at this
      simpa [hlt] using this
    have hef := effect_run x
    obtain ⟨hs1, hs2⟩ := eff_small x
    have w1 : IntKind.i64.wrap ((i : Int) + 1) = (i : Int) + 1 := wrap_id (by unfold I64; omega)
    have hSl : (A.take h).length = h := by simp; omega
    have hSe : (A.take h).isEmpty = decide (h = 0) := by rw [← Bool.not_inj_iff]; cases hc : A.take h with | nil => (rw [hc] at hSl; simp at hSl; subst hSl; simp) | cons a b => (rw [hc] at hSl; simp at hSl; simp; omega)
    have hTg : T.getD i false = T[i] := by simp [hltT]
    have ih := fun h A vb B => cc_stk k R1 R2 T hT hl h1 h2 rest (i + 1) h A vb B (by rw [← List.tail_drop, hd]; rfl) (by simp at hi; omega)
    have h1' := fun A vb B => h1 A vb B
    rw [stackR, hTg, hSe, denK_loop]
    unfold movesR
    rw [hSl]
    obtain ⟨n, o, need, g, he⟩ : ∃ n o need g, effI x = (n, o, need, g) := ⟨_, _, _, _, rfl⟩
    rw [he] at hef hs1 hs2 ⊢
    simp only at hs1 hs2 ⊢
    simp at h1' hef
    by_cases c1 : T[i] = true ∧ h ≠ 0
    · obtain ⟨c1, c2⟩ := c1
      have c3 : 0 < h := by omega
      simp [Tryd.f17, hlt, hltT, hx, c1, c2, c3, h1']
    have c1' : (T[i] && !decide (h = 0)) = false := by
      cases hq : T[i] <;> simp [hq] at c1 ⊢
      exact c1
    have c1'' : ¬ (T[i] = true ∧ 0 < h) := fun hc => c1 ⟨hc.1, by omega⟩
    rw [c1']
    by_cases c2 : h < n
    · simp [Tryd.f17, hlt, hltT, hx, c1'', hef, c2, h1']
    obtain ⟨hf, rfl⟩ : ∃ hf, h = hf + n := ⟨h - n, by omega⟩
    have htk := fun k R2' B vb h1 h2 => cc_take ins vars cells k R1 R2' A B vb T i n o hf need g (by omega) hA h1 h2 n 0 (by omega) (by omega)
    have hcast : ((hf + n : Nat) : Int) = (hf : Int) + n := by omega
    have c3 : ¬ ((hf : Int) + n < n) := by omega
    simp only [if_neg c2, Bool.false_eq_true, if_false]
    have wh : IntKind.i64.wrap ((hf : Int) + 1) = (hf : Int) + 1 := wrap_id (by unfold I64; omega)
    have hR2 : ∀ S1, takeR need n (A.take (hf + n)) = some S1 → S1 = A.take hf := fun S1 hS => takeR_take (by omega) hS
    simp [Tryd.f17] at htk
    have fin : ∀ (h' : Nat) (S1 S2 : List Bool), S2.length = h' → takeR need n (A.take (hf + n)) = some S1 → (if 0 < o then S1 ++ [g] else S1) = S2 →
        (if badB h' x = true then R1 else if stackR T (i + 1) rest S2 = true then R2 else R1) =
        (if (match (match takeR need n (A.take (hf + n)) with
          | none => none
          | some S1 => if (decide (64 < (if 0 < o then S1 ++ [g] else S1).length) || (decide (0 < (if 0 < o then S1 ++ [g] else S1).length) && (decide (x.op = 9) || decide (x.op = 10) || decide (x.op = 11) || decide (x.op = 12) || decide (x.op = 15)))) = true then none else some (if 0 < o then S1 ++ [g] else S1)) with
          | none => false
          | some S' => stackR T (i + 1) rest S') = true then R2 else R1) := by
      intro h' S1 S2 hl2 hS1 hS2
      rw [hS1]
      simp only [hS2, hl2]
      rw [← badB]
      cases badB h' x <;> simp
    have c4 : ¬ (T[i] = true ∧ 0 < (hf : Int) + n) := fun hc => c1 ⟨hc.1, by omega⟩
    cases hq : takeR need n (A.take (hf + n)) with
    | none =>
      simp [Tryd.f17, hlt, hltT, hx, c1'', hef, c2, c3, c4]
      rw [htk _ _ _ _ (by simp [h1']) rfl]
      simp [hq]
    | some S1 =>
      obtain rfl := hR2 S1 hq
      rcases hs2 with rfl | rfl
      · have ih := fun vb B => ih hf A vb B hA (by omega)
        simp at htk
        have hfin := fin hf (A.take hf) (A.take hf) (by simp; omega) hq (by simp)
        rw [hq] at hfin
        refine Eq.trans ?_ hfin
        simp [Tryd.f17] at ih
        simp [Tryd.f17, hlt, hltT, hx, c1'', hef, c2, c3, c4]
        rw [htk _ (if badB hf x = true then R1 else if stackR T (i + 1) rest (A.take hf) = true then R2 else R1) _ _ (by simp [h1'])]
        · simp [hq]
        · simp [h1', w1, ih]
          grind [badB]
      · have hset : (bD A).set hf (.bool g) = bD (A.set hf g) := bD_set A hf g
        have hst : (A.set hf g).take (hf + 1) = A.take hf ++ [g] := by
          rw [List.take_add_one, List.take_set_of_le (by omega)]; simp [show hf < A.length by omega]
        have hfA : hf < A.length := by omega
        have hf70 : (hf : Int) < 70 := by omega
        have hf70n : hf < 70 := by omega
        have h1s := fun vb B => h1' (A.set hf g) vb B
        simp at h1s
        simp at htk
        have hfin := fin (hf + 1) (A.take hf) (A.take hf ++ [g]) (by simp; omega) hq (by simp)
        rw [hq] at hfin
        refine Eq.trans ?_ hfin
        simp [Tryd.f17, hlt, hltT, hx, c1'', hef, c2, c3, c4]
        rw [htk _ (if badB (hf + 1) x = true then R1 else if stackR T (i + 1) rest (A.take hf ++ [g]) = true then R2 else R1) _ _ (by simp [h1'])]
        · simp [hq]
        · by_cases h64 : hf + 1 ≤ 64
          · have h64' : (hf : Int) + 1 ≤ 64 := by omega
            have ih := fun vb B => ih (hf + 1) (A.set hf g) vb B (by simpa using hA) h64
            rw [hst] at ih
            simp [Tryd.f17] at ih
            rw [bad_case1 (hf + 1) x _ _ (by omega) h64]
            simp [h1', h1s, w1, wh, hfA, hf70, hf70n, ih, h64, h64', drwK_end]
          · have h64' : ¬ ((hf : Int) + 1 ≤ 64) := by omega
            rw [bad_case2 (hf + 1) x _ _ (by omega)]
            simp [h1', h1s, w1, wh, hfA, hf70, hf70n, h64', drwK_end]
end
end Go.Am
end
section
namespace Go.Am
open Go Go.Proofs
variable [Inhabited Mx2]
set_option maxRecDepth 20000
section
variable (ins : List Ins) (vars cells : Int)
theorem last_op (h : 0 < ins.length) : ins[ins.length - 1].op = lastOp ins := by
  unfold lastOp
  rw [List.getLast?_eq_getElem?]
  simp [show ins.length - 1 < ins.length by omega]
theorem refCode_run (pins : Int → Nat) (hp : PinsOk 80 pins) (hl : ins.length ≤ 5000) :
    callT ctx 17 [.d (codeD ins vars cells)] [] = some (.ret (.d (.bool (refCode pins ins vars cells))), []) := by
  have g1 : (ins.length : Int) ≤ 140737488355328 ∧ (ins.length : Int) ≤ 4611686018427387904 := by omega
  have hlo := fun k R1 R2 A B va vb h1 => cc_led ins vars cells pins hp hl k R1 R2 A B va vb h1 ins 0 (List.replicate ins.length false) rfl (by simp) (by simp)
  rw [run17 (by simp)]
  unfold refCode headB
  by_cases h0 : ins = []
  · simp [Tryd.f17, h0]
  have h0' : 0 < ins.length := List.length_pos_iff.2 h0
  have c1 : (1 : Int) ≤ ins.length := by omega
  have hlt : ins.length - 1 < ins.length := by omega
  have w1 : IntKind.i64.wrap ((ins.length : Int) - 1) = ((ins.length - 1 : Nat) : Int) := by rw [wrap_id (by unfold I64; omega)]; omega
  have hlast := last_op ins h0'
  by_cases h2 : (ins.length : Int) ≤ 4096
  rotate_left
  · simp [Tryd.f17, h0, h2]
  by_cases h3 : 0 ≤ cells
  rotate_left
  · simp [Tryd.f17, h0, h2, h3]
  by_cases h4 : cells ≤ 8192
  rotate_left
  · simp [Tryd.f17, h0, h2, h3, h4]
  by_cases h5 : 0 ≤ vars
  rotate_left
  · simp [Tryd.f17, h0, h2, h3, h4, h5]
  by_cases h6 : vars ≤ cells
  rotate_left
  · simp [Tryd.f17, h0, h2, h3, h4, h5, h6]
  by_cases h7 : lastOp ins = 15
  rotate_left
  · simp [Tryd.f17, h0, h2, h3, h4, h5, h6, w1, hlt, hlast, h7]
  simp [Tryd.f17] at hlo
  simp [Tryd.f17, h0, h2, h3, h4, h5, h6, w1, hlt, hlast, h7]
  simp [g1]
  rw [hlo _ (some (.ret (.d (.bool false)), [])) (some (.ret (.d (.bool (stackR (ledOf ins) 0 ins [] && !(aroundB ins)))), [])) _ _ _ _ (by simp)]
  · cases hq : singlesB pins ins.length cells 0 ins <;> simp [h0', h2, c1]
  · intro hsi
    have hok : okForms pins ins vars cells = true := by
      unfold okForms headB
      rw [singles_forms ⟨h3, h4⟩] at hsi
      rw [hsi]
      simp [h2, h3, h4, h5, h6, h7]
      omega
    have har := around_run ins vars cells (inside_of hok) hl (succ_in hok)
    have hll : (ledOf ins).length = ins.length := by
      have : ∀ (l : List Ins) (T : List Bool), (l.foldl ledStep T).length = T.length := by
        intro l
        induction l with
        | nil => intro T; rfl
        | cons x l ih => intro T; simp only [List.foldl_cons]; rw [ih, ledStep_len]
      rw [show ledOf ins = ins.foldl ledStep (List.replicate ins.length false) from rfl, this]; simp
    have hsk := fun k h1 h2 => cc_stk ins vars cells k (some (.ret (.d (.bool false)), [])) (some (.ret (.d (.bool (!(aroundB ins)))), [])) (ledOf ins) hll hl h1 h2 ins 0 0 (List.replicate 70 false) 0 .dead rfl (by simp) (by simp) (by simp)
    simp at har
    simp [Tryd.f17]
    refine (hsk _ (fun A vb B => by simp) (fun h A vb B => by simp [har])).trans ?_
    cases hq : stackR (ledOf ins) 0 ins [] <;> simp [hq]
end
end Go.Am
end
section
namespace Go.Am
open Go Go.Proofs
variable [Inhabited Mx2]
set_option maxRecDepth 20000
def sizesL : List Nat := [0, 0, 0, 0, 0, 0, 8, 0, 2, 0, 0, 0, 2, 0, 0, 0, 2, 0, 8, 8, 2, 0, 8, 8, 2, 0, 0, 0, 2, 0, 8, 8, 2, 2, 0, 0, 2, 0, 0, 0, 2, 0, 0, 0, 0, 0, 0, 0, 2, 2, 0, 0, 2, 2, 0, 0, 2, 0, 8, 8, 0, 0, 0, 0]
@[simp] def natD (n : Nat) : D := .int .i64 n
theorem sizes_run : callT ctx 65 [] [] = some (.ret (.d (.agg (sizesL.map natD))), []) := callT_of 20 (by kernel_rfl)
def szN (op k : Nat) : Nat := sizesL[op * 4 + k]?.getD 0
theorem sz_at {op k : Nat} (ho : op < 16) (hk : k < 4) : (sizesL.map natD)[op * 4 + k]? = some (natD (szN op k)) := by
  rw [List.getElem?_map]
  have : op * 4 + k < sizesL.length := by show _ < 64; omega
  unfold szN
  rw [List.getElem?_eq_getElem this]
  rfl
theorem sz_le {op k : Nat} : szN op k ≤ 8 := by
  unfold szN
  cases h : sizesL[op * 4 + k]? with
  | none => simp
  | some z =>
    have := List.mem_of_getElem? h
    have hall : ∀ z ∈ sizesL, z ≤ 8 := by decide
    exact hall z this
/-- An instruction's parts as the reference lays them. -/
def partsR (op : Nat) : Nat → List Int → Option (List UInt8)
  | _, [] => some []
  | k, z :: r => if szN op k = 0 ∧ u64N z ≠ 0 then none else (partsR op (k + 1) r).map (bigB (u64N z) (szN op k) ++ ·)
@[simp] def u64D (z : Int) : D := .int .u64 (u64N z)
set_option maxHeartbeats 1000000 in
theorem parts_loop (op : Nat) (ho : op < 16) (zs : List Int) (hz : zs.length = 4) (cs : List AV) (i : Nat) (v6 v2 : Nat) (a b n m : Int) (k : Kt) (R : Ans) :
    ∀ (r : List Int) (j : Nat) (out : List UInt8) (v : Nat), zs.drop j = r → j + r.length = 4 → out.length + 8 * r.length ≤ 200000 →
    (match partsR op j r with
      | none => ∀ v, k .ret ⟨92, gl0, [(2, true, .vec 200 (v2 + 1) 0 0), (3, true, .d (.int .i64 1))], [⟨150, 1, .box cs⟩, ⟨200, v2 + 1, .vec 1 []⟩, ⟨400, v6, .box [.d (.int .i64 op), .d (.int .i64 a), .d (.int .i64 b), .d (.int .i64 n), .d (.int .i64 m)]⟩, v]⟩ = R
      | some p => ∀ v (X : Env), k (.exit 2) ⟨92, gl0, [(1, true, .ptr 150 1 0), (4, true, .vec 750 v 0 (out ++ p).length), (5, true, .d (.int .i64 i)), (6, true, .ptr 400 v6 0)] ++ X, [⟨150, 1, .box cs⟩, ⟨200, v2, .vec 1 []⟩, ⟨400, v6, .box [.d (.int .i64 op), .d (.int .i64 a), .d (.int .i64 b), .d (.int .i64 n), .d (.int .i64 m)]⟩, ⟨750, v, .vec 1 ((out ++ p).map byteD)⟩]⟩ = R) →
    denK ctx 29 (.loop (Code.at (codeOf Tryd.f29) [1, 1, 1, 1, 1, 1, 0, 1, 0, 0, 1, 0, 0, 1, 1, 1, 0, 0]))
      ⟨92, gl0, [(1, true, .ptr 150 1 0), (4, true, .vec 750 v 0 out.length), (5, true, .d (.int .i64 i)), (6, true, .ptr 400 v6 0), (63, true, .d (.agg (zs.map u64D))), (64, true, .d (.int .i64 j))],
        [⟨150, 1, .box cs⟩, ⟨200, v2, .vec 1 []⟩, ⟨400, v6, .box [.d (.int .i64 op), .d (.int .i64 a), .d (.int .i64 b), .d (.int .i64 n), .d (.int .i64 m)]⟩, ⟨750, v, .vec 1 (out.map byteD)⟩]⟩ k = R
  | [], j, out, v, hd, hj, hol, hR => by
    have hj : j = 4 := by simpa using hj
    subst hj
    simp [partsR] at hR
    have hR := hR v
    rw [denK_loop]
    simp [Tryd.f29, hR]
  | z :: r, j, out, v, hd, hj, hol, hR => by
    have hlt : j < 4 := by simp at hj; omega
    have hltI : (j : Int) < 4 := by omega
    have hx : zs[j]? = some z := by
      have := congrArg (·[0]?) hd
      simpa using this
    have hx2 : ∀ h, zs[j]'h = z := fun h => by
      rw [List.getElem?_eq_getElem h] at hx; exact Option.some.inj hx
    have w1 : IntKind.i64.wrap ((j : Int) + 1) = (j : Int) + 1 := wrap_id (by unfold I64; omega)
    have hsz := sz_at ho hlt
    have hsr := sizes_run
    have hle := sz_le (op := op) (k := j)
    have hun : u64N z < 18446744073709551616 := by
      unfold u64N
      have : z % 18446744073709551616 < 18446744073709551616 := Int.emod_lt_of_pos _ (by omega)
      omega
    have hlr := laid_run (u64N z) (szN op j) hle hun
    have hbl := bigB_len (u64N z) (szN op j)
    have ih := fun v hR => parts_loop op ho zs hz cs i v6 v2 a b n m k R r (j + 1) (out ++ bigB (u64N z) (szN op j)) v (by rw [← List.tail_drop, hd]; rfl) (by simp at hj; omega) (by simp at hol ⊢; omega) hR
    have hol2 : out.length ≤ 200000 := by omega
    unfold partsR at hR
    have hl64 : (sizesL.map natD).length = 64 := rfl
    generalize sizesL.map natD = SZ at *
    generalize szN op j = sz at *
    have o1 : (op : Int) < 16 := by omega
    have o2 : 4 ≤ min 4 (64 - op * 4) := by omega
    rw [denK_loop]
    by_cases hs0 : sz = 0 ∧ u64N z ≠ 0
    · rw [if_pos hs0] at hR
      obtain ⟨rfl, hz0⟩ := hs0
      simp only at hR
      simp [Tryd.f29]
      simp [hlt, hltI, hx, hx2, hz, hsr, hl64, drwK_end, ho, o2, hsz, hz0, hR]
    · rw [if_neg hs0] at hR
      have ih2 : ∀ v, _ := fun v => ih v (by
        cases hpr : partsR op (j + 1) r with
        | none => rw [hpr] at hR; exact hR
        | some p =>
          rw [hpr] at hR
          simp only [Option.map_some, ← List.append_assoc] at hR
          exact hR)
      clear ih hR
      have hcnd : ¬ (sz = 0 ∧ ¬ ((u64N z : Int) = 0)) := fun h => hs0 ⟨h.1, by omega⟩
      generalize bigB (u64N z) sz = bz at *
      have g1 : (out.length + bz.length ≤ 140737488355328 ∧ out.length + bz.length ≤ 4611686018427387904) := by omega
      simp [Tryd.f29] at ih2
      simp [Tryd.f29]
      by_cases h0 : sz = 0
      · subst h0
        have hz0 : u64N z = 0 := Classical.byContradiction fun h => hs0 ⟨rfl, h⟩
        rw [hz0] at hlr
        simp at hlr
        simp [hlt, hltI, hx, hx2, hz, hsr, hl64, drwK_end, ho, o2, hsz, w1, hz0, hlr, g1, ih2]
      · simp [hlt, hltI, hx, hx2, hz, hsr, hl64, drwK_end, ho, o2, hsz, w1, h0, hlr, g1, ih2]
end Go.Am
end

/-
  Texts of one proof, one behind the other.
-/
import Derived.Test.YtmlboljlgaaebaaDoorP2
import Derived.Below
set_option linter.all false
section
namespace Go.Am
open Go

/-- What one operation of a region did: the keys that it may look at, the entries that it lays, whether its value counts, its value. -/
structure Stp where
  ks : List Nat
  es : List Ent
  g : Bool
  x : AV

def Stp.app (p : Stp) (o : Oper) (S : St) : St := ({ S with mem := putAll S.mem p.es } : St).put o.dst p.g p.x

def lkDst (all : List Oper) (j : Nat) : List Nat :=
  match all[j]? with
  | some o => match o.dst with | some t => [t] | none => []
  | none => []
/-- The slots that an operation looks at. -/
def looks (all : List Oper) (o : Oper) : List Nat :=
  (o.op.operands.toList.filterMap fun | .tmp t => some t | _ => none) ++ (match o.guard with | some (j, _) => lkDst all j | none => [])

structure Agree (all : List Oper) (o : Oper) (ks : List Nat) (S' S : St) : Prop where
  n : S'.n = S.n
  gl : S'.gl = S.gl
  keys : S'.mem.map (·.key) = S.mem.map (·.key)
  env : ∀ t ∈ looks all o, Env.lk S'.env t = Env.lk S.env t
  mem : ∀ k ∈ ks, Mem.get S'.mem k = Mem.get S.mem k

/-- An operation at its turn does what the step says, in every state that looks alike to it. -/
def StepL (P : Program) (all : List Oper) (S : St) (o : Oper) (p : Stp) : Prop :=
  ∀ S', Agree all o p.ks S' S → ∀ φ G a w, Rel φ G S' a w → ∀ (next : Act → World → Prop) (R : Exit → Act → World → Prop),
    (∀ φ' a' w', Rel φ' G (p.app o S') a' w' → Keeps φ S'.mem w φ' (p.app o S').mem w' → next a' w') →
    if Region.wanted o (yielded all.toArray a.tmps) then o.wp P a w next R else next (a.put o.dst undef) w

/-- Likewise, where the memory holds I. -/
def StepI (P : Program) (I : Mem → Prop) (all : List Oper) (S : St) (o : Oper) (p : Stp) : Prop :=
  ∀ S', Agree all o p.ks S' S → I S'.mem → ∀ φ G a w, Rel φ G S' a w → ∀ (next : Act → World → Prop) (R : Exit → Act → World → Prop),
    (∀ φ' a' w', Rel φ' G (p.app o S') a' w' → Keeps φ S'.mem w φ' (p.app o S').mem w' → next a' w') →
    if Region.wanted o (yielded all.toArray a.tmps) then o.wp P a w next R else next (a.put o.dst undef) w
theorem StepL.toI {P : Program} {I : Mem → Prop} {all : List Oper} {S : St} {o : Oper} {p : Stp} (h : StepL P all S o p) : StepI P I all S o p := fun S' ha _ => h S' ha

/-- A region's steps in the order of the text. -/
inductive Cert (P : Program) (I : Mem → Prop) (all : List Oper) : List Oper → St → List Stp → St → Prop
  | nil (S) : Cert P I all [] S [] S
  | cons (o rest S p ps S1) (hk : ∀ e ∈ p.es, e.key ∈ p.ks) (hI : ∀ m, I m → I (putAll m p.es)) (h : StepI P I all S o p) (hr : Cert P I all rest (p.app o S) ps S1) : Cert P I all (o :: rest) S (p :: ps) S1

/- The order: of two operations neither ahead of the other, none looks at what the other writes. -/
def preds (o : Oper) : List Nat := (o.after.toList.filter (Region.binds .any)).map (·.on)
/-- Of each operation all that stand ahead of it by the edges. -/
def ancs : List Oper → List (List Nat) → List (List Nat)
  | [], acc => acc
  | o :: r, acc => ancs r (acc ++ [((preds o).flatMap fun p => p :: acc.getD p []).eraseDups])

def disj (l r : List Nat) : Bool := l.all fun x => !r.contains x
def apartB (all : List Oper) (o o' : Oper) (p p' : Stp) : Bool :=
  disj o.dst.toList (looks all o') && disj o'.dst.toList (looks all o) && disj o.dst.toList o'.dst.toList && disj (p.es.map (·.key)) p'.ks && disj (p'.es.map (·.key)) p.ks
/-- What is asked of the region's operation j against all ahead of it in the text. -/
def ordAt (all : List Oper) (ps : List Stp) (an : List (List Nat)) (j : Nat) : Bool :=
  match all[j]?, ps[j]? with
  | some o, some p => (preds o).all (fun i => decide (i < j)) && (List.range j).all fun i => (an.getD j []).contains i || (match all[i]?, ps[i]? with
    | some o', some p' => apartB all o' o p' p
    | _, _ => false)
  | _, _ => false
def ordOk (all : List Oper) (ps : List Stp) : Bool := (List.range all.length).all (ordAt all ps (ancs all []))

theorem ancs_append : ∀ (l : List Oper) (acc : List (List Nat)), ∃ r, ancs l acc = acc ++ r ∧ r.length = l.length
  | [], acc => ⟨[], by simp [ancs]⟩
  | o :: l, acc => by
    obtain ⟨r, h1, h2⟩ := ancs_append l (acc ++ [((preds o).flatMap fun p => p :: acc.getD p []).eraseDups])
    exact ⟨((preds o).flatMap fun p => p :: acc.getD p []).eraseDups :: r, by rw [ancs, h1, List.append_assoc, List.singleton_append], by simp [h2]⟩

theorem mem_eraseDups {l : List Nat} {x : Nat} : x ∈ l.eraseDups ↔ x ∈ l := List.mem_eraseDups

/-- The ancestors of operation j: its direct ones and theirs. -/
theorem ancs_spec : ∀ (l : List Oper) (acc : List (List Nat)) (j : Nat) (o : Oper), l[j]? = some o → (∀ p ∈ preds o, p < acc.length + j) →
    ∀ i, i ∈ (ancs l acc).getD (acc.length + j) [] ↔ ∃ p ∈ preds o, i = p ∨ i ∈ (ancs l acc).getD p []
  | [], acc, j, o, h, _ => by simp at h
  | x :: l, acc, j, o, h, hp => by
    simp only [ancs]
    cases j with
    | zero =>
      simp at h; subst h
      obtain ⟨r, h1, _⟩ := ancs_append l (acc ++ [((preds x).flatMap fun p => p :: acc.getD p []).eraseDups])
      rw [h1]
      intro i
      have e1 : (acc ++ [((preds x).flatMap fun p => p :: acc.getD p []).eraseDups] ++ r).getD (acc.length + 0) [] = ((preds x).flatMap fun p => p :: acc.getD p []).eraseDups := by
        simp [List.getD_eq_getElem?_getD, List.append_assoc]
      rw [e1, mem_eraseDups, List.mem_flatMap]
      constructor
      · rintro ⟨p, hpm, hi⟩
        refine ⟨p, hpm, ?_⟩
        have hlt := hp p hpm
        rcases List.mem_cons.1 hi with rfl | hi
        · exact .inl rfl
        · right
          rw [List.getD_eq_getElem?_getD] at hi ⊢
          rw [List.append_assoc, List.getElem?_append_left (by omega)]
          exact hi
      · rintro ⟨p, hpm, hi⟩
        refine ⟨p, hpm, ?_⟩
        have hlt := hp p hpm
        rcases hi with rfl | hi
        · simp
        · rw [List.getD_eq_getElem?_getD, List.append_assoc, List.getElem?_append_left (by omega), ← List.getD_eq_getElem?_getD] at hi
          exact List.mem_cons_of_mem _ hi
    | succ j =>
      have := ancs_spec l (acc ++ [((preds x).flatMap fun p => p :: acc.getD p []).eraseDups]) j o (by simpa using h) (fun p hpm => by have := hp p hpm; simp; omega)
      simp only [List.length_append, List.length_cons, List.length_nil] at this
      rw [show acc.length + (j + 1) = acc.length + (0 + 1) + j by omega]
      exact this

/-- A set of operations that holds with each one all that stand ahead of it. -/
theorem anc_closed {all : List Oper} {L : Nat → Prop} (hp : ∀ j o, all[j]? = some o → ∀ p ∈ preds o, p < j) (hL : ∀ j o, all[j]? = some o → L j → ∀ p ∈ preds o, L p) :
    ∀ j, (∃ o, all[j]? = some o) → ∀ i, i ∈ (ancs all []).getD j [] → i < j ∧ ((∀ o, all[j]? = some o → ∀ p ∈ preds o, L p) → L i) := by
  intro j
  induction j using Nat.strongRecOn with
  | _ j ih =>
    rintro ⟨o, ho⟩ i hi
    have hs := (ancs_spec all [] j o ho (fun p hpm => by simpa using hp j o ho p hpm) i)
    simp only [List.length_nil, Nat.zero_add] at hs
    obtain ⟨p, hpm, h⟩ := hs.1 hi
    have hpj := hp j o ho p hpm
    rcases h with rfl | h
    · exact ⟨hpj, fun hh => hh o ho i hpm⟩
    · have hjl : j < all.length := (List.getElem?_eq_some_iff.1 ho).1
      obtain ⟨op, hop⟩ : ∃ op, all[p]? = some op := ⟨all[p], by simp [show p < all.length by omega]⟩
      obtain ⟨h1, h2⟩ := ih p hpj ⟨op, hop⟩ i h
      exact ⟨by omega, fun hh => h2 (fun o' ho' q hq => hL p o' ho' (hh o ho p hpm) q hq)⟩

/- States by the set of operations that have been carried out. -/
def runAll (all : List Oper) (ps : List Stp) (S : St) (l : List Nat) : St :=
  l.foldl (fun S i => match all[i]?, ps[i]? with | some o, some p => p.app o S | _, _ => S) S

theorem app_n (p : Stp) (o : Oper) (S : St) : (p.app o S).n = S.n := by simp [Stp.app, put_n]
theorem app_gl (p : Stp) (o : Oper) (S : St) : (p.app o S).gl = S.gl := by cases h : o.dst <;> simp [Stp.app, h, St.put]
theorem app_keys (p : Stp) (o : Oper) (S : St) : (p.app o S).mem.map (·.key) = S.mem.map (·.key) := by simp [Stp.app, put_mem, putAll_keys]

theorem app_lk (p : Stp) (o : Oper) (S : St) (t : Nat) : Env.lk (p.app o S).env t = if o.dst = some t then some (p.g, p.x) else Env.lk S.env t := by
  cases hd : o.dst with
  | none => simp [Stp.app, St.put, hd]
  | some d =>
    by_cases h : d = t
    · subst h; simp [Stp.app, St.put, hd, Env.lk]
    · simp [Stp.app, St.put, hd, Env.lk, h]

theorem putAll_get_ne : ∀ (es : List Ent) (m : Mem) (k : Nat), k ∉ es.map (·.key) → Mem.get (putAll m es) k = Mem.get m k
  | [], m, k, _ => rfl
  | e :: r, m, k, h => by
    simp only [List.map_cons, List.mem_cons, not_or] at h
    rw [putAll, putAll_get_ne r _ k h.2, Mem.get_set_ne (fun he => h.1 he.symm)]
/-- What is put at a key hangs on the keys that there are and on what is put alone. -/
theorem putAll_get_eq : ∀ (es : List Ent) (m m' : Mem) (k : Nat), m.map (·.key) = m'.map (·.key) → (k ∈ es.map (·.key) ∨ Mem.get m k = Mem.get m' k) → Mem.get (putAll m es) k = Mem.get (putAll m' es) k
  | [], m, m', k, _, h => by simpa [putAll] using h
  | e :: r, m, m', k, hk, h => by
    simp only [putAll]
    refine putAll_get_eq r _ _ k (by rw [Mem.set_keys, Mem.set_keys, hk]) ?_
    by_cases he : e.key = k
    · right
      subst he
      by_cases hin : e.key ∈ m.map (·.key)
      · rw [Mem.get_set_same hin, Mem.get_set_same (hk ▸ hin)]
      · have none_of : ∀ (m : Mem), e.key ∉ m.map (·.key) → Mem.get (Mem.set m e) e.key = none := by
          intro m hm
          cases hg : Mem.get (Mem.set m e) e.key with
          | none => rfl
          | some y =>
            obtain ⟨h1, h2⟩ := Mem.get_mem hg
            have : y.key ∈ (Mem.set m e).map (·.key) := List.mem_map_of_mem h1
            rw [Mem.set_keys, h2] at this
            exact absurd this hm
        rw [none_of m hin, none_of m' (hk ▸ hin)]
    · rw [Mem.get_set_ne he, Mem.get_set_ne he]
      rcases h with h | h
      · simp only [List.map_cons, List.mem_cons] at h
        rcases h with h | h
        · exact absurd h.symm he
        · exact .inl h
      · exact .inr h

theorem app_get_ne (p : Stp) (o : Oper) (S : St) (k : Nat) (h : k ∉ p.es.map (·.key)) : Mem.get (p.app o S).mem k = Mem.get S.mem k := by
  simp only [Stp.app, put_mem]; exact putAll_get_ne _ _ _ h

section
variable {all : List Oper} {ps : List Stp} {S : St}
theorem runAll_n (l : List Nat) : ∀ (S : St), (runAll all ps S l).n = S.n := by
  induction l with
  | nil => exact fun _ => rfl
  | cons i l ih =>
    intro S
    have e1 : runAll all ps S (i :: l) = runAll all ps (runAll all ps S [i]) l := by simp [runAll]
    rw [e1, ih]
    simp only [runAll, List.foldl_cons, List.foldl_nil]
    split
    · exact app_n ..
    · rfl
theorem runAll_gl (l : List Nat) : ∀ (S : St), (runAll all ps S l).gl = S.gl := by
  induction l with
  | nil => exact fun _ => rfl
  | cons i l ih =>
    intro S
    have e1 : runAll all ps S (i :: l) = runAll all ps (runAll all ps S [i]) l := by simp [runAll]
    rw [e1, ih]
    simp only [runAll, List.foldl_cons, List.foldl_nil]
    split
    · exact app_gl ..
    · rfl
theorem runAll_keys (l : List Nat) : ∀ (S : St), (runAll all ps S l).mem.map (·.key) = S.mem.map (·.key) := by
  induction l with
  | nil => exact fun _ => rfl
  | cons i l ih =>
    intro S
    have e1 : runAll all ps S (i :: l) = runAll all ps (runAll all ps S [i]) l := by simp [runAll]
    rw [e1, ih]
    simp only [runAll, List.foldl_cons, List.foldl_nil]
    split
    · exact app_keys ..
    · rfl
theorem runAll_append (l l' : List Nat) (S : St) : runAll all ps S (l ++ l') = runAll all ps (runAll all ps S l) l' := by simp [runAll]

/-- Operations that don't write a slot change nothing in it: those that do, in their order, decide. -/
theorem runAll_lk (t : Nat) (q : Nat → Bool) (l : List Nat) : ∀ (S S' : St), (∀ i ∈ l, ∀ o, all[i]? = some o → o.dst = some t → q i = true) → Env.lk S.env t = Env.lk S'.env t → Env.lk (runAll all ps S l).env t = Env.lk (runAll all ps S' (l.filter q)).env t := by
  induction l with
  | nil => intro S S' _ h; exact h
  | cons i l ih =>
    intro S S' hq h
    have e1 : runAll all ps S (i :: l) = runAll all ps (runAll all ps S [i]) l := by simp [runAll]
    have hq' : ∀ i' ∈ l, ∀ o, all[i']? = some o → o.dst = some t → q i' = true := fun i' hi' => hq i' (List.mem_cons_of_mem _ hi')
    rw [e1]
    by_cases hqi : q i = true
    · rw [List.filter_cons_of_pos hqi]
      have e2 : runAll all ps S' (i :: l.filter q) = runAll all ps (runAll all ps S' [i]) (l.filter q) := by simp [runAll]
      rw [e2]
      refine ih _ _ hq' ?_
      simp only [runAll, List.foldl_cons, List.foldl_nil]
      split
      · rw [app_lk, app_lk, h]
      · exact h
    · rw [List.filter_cons_of_neg hqi]
      refine ih _ _ hq' ?_
      simp only [runAll, List.foldl_cons, List.foldl_nil]
      split
      · rename_i o p ho hp
        rw [app_lk, if_neg (fun hd => hqi (hq i (by simp) o ho hd)), h]
      · exact h
theorem runAll_get (k : Nat) (q : Nat → Bool) (l : List Nat) : ∀ (S S' : St), (∀ i ∈ l, ∀ p, ps[i]? = some p → k ∈ p.es.map (·.key) → q i = true) → S.mem.map (·.key) = S'.mem.map (·.key) → Mem.get S.mem k = Mem.get S'.mem k → Mem.get (runAll all ps S l).mem k = Mem.get (runAll all ps S' (l.filter q)).mem k := by
  induction l with
  | nil => intro S S' _ _ h; exact h
  | cons i l ih =>
    intro S S' hq hk h
    have e1 : runAll all ps S (i :: l) = runAll all ps (runAll all ps S [i]) l := by simp [runAll]
    have hq' : ∀ i' ∈ l, ∀ p, ps[i']? = some p → k ∈ p.es.map (·.key) → q i' = true := fun i' hi' => hq i' (List.mem_cons_of_mem _ hi')
    rw [e1]
    by_cases hqi : q i = true
    · rw [List.filter_cons_of_pos hqi]
      have e2 : runAll all ps S' (i :: l.filter q) = runAll all ps (runAll all ps S' [i]) (l.filter q) := by simp [runAll]
      rw [e2]
      refine ih _ _ hq' (by rw [runAll_keys, runAll_keys, hk]) ?_
      simp only [runAll, List.foldl_cons, List.foldl_nil]
      split
      · simp only [Stp.app, put_mem]
        exact putAll_get_eq _ _ _ k hk (.inr h)
      · exact h
    · rw [List.filter_cons_of_neg hqi]
      refine ih _ _ hq' (by rw [runAll_keys, hk]) ?_
      simp only [runAll, List.foldl_cons, List.foldl_nil]
      split
      · rename_i o p ho hp
        rw [app_get_ne _ _ _ _ (fun hd => hqi (hq i (by simp) p hp hd)), h]
      · exact h
end

/- States alike. -/
structure Eqv (S' S : St) : Prop where
  n : S'.n = S.n
  gl : S'.gl = S.gl
  mem : S'.mem = S.mem
  env : ∀ t, Env.lk S'.env t = Env.lk S.env t
theorem Rel.eqv {φ G S S' a w} (h : Rel φ G S' a w) (he : Eqv S' S) : Rel φ G S a w :=
  ⟨by rw [← he.n]; exact h.size, h.defers, fun t x hx => by rw [← he.mem]; exact h.env t x (by rw [he.env]; exact hx), by rw [← he.mem]; exact h.mem, by rw [← he.gl, ← he.mem]; exact h.glob⟩
theorem Mem.ext {m m' : Mem} (hn : (m.map (·.key)).Nodup) (hk : m.map (·.key) = m'.map (·.key)) (h : ∀ k, Mem.get m k = Mem.get m' k) : m = m' := by
  induction m generalizing m' with
  | nil => cases m' with | nil => rfl | cons _ _ => simp at hk
  | cons e r ih =>
    cases m' with
    | nil => simp at hk
    | cons e' r' =>
      simp only [List.map_cons, List.cons.injEq] at hk
      simp only [List.map_cons, List.nodup_cons] at hn
      have h0 := h e.key
      simp only [Mem.get, if_true, hk.1] at h0
      cases h0
      congr 1
      refine ih hn.2 hk.2 fun k => ?_
      have := h k
      simp only [Mem.get] at this
      by_cases he : e.key = k
      · subst he
        have nn : ∀ {r : Mem}, e.key ∉ r.map (·.key) → Mem.get r e.key = none := by
          intro r hr
          cases hg : Mem.get r e.key with
          | none => rfl
          | some y => obtain ⟨h1, h2⟩ := Mem.get_mem hg; exact absurd (h2 ▸ List.mem_map_of_mem h1) hr
        rw [nn hn.1, nn (by rw [← hk.2]; exact hn.1)]
      · simpa [he] using this

/- The listed operations in the order of the text. -/
def lst (n : Nat) (f : Nat → Bool) : List Nat := (List.range n).filter f
theorem range_split {j n : Nat} (h : j < n) : List.range n = List.range j ++ j :: List.range' (j + 1) (n - j - 1) := by
  have h2 : (j :: List.range' (j + 1) (n - j - 1)) = List.range' j (n - j) := by
    rw [show n - j = (n - j - 1) + 1 by omega, List.range'_succ]; simp
  rw [h2, List.range_eq_range', List.range_eq_range']
  rw [show List.range' 0 n = List.range' 0 (j + (n - j)) by rw [show j + (n - j) = n by omega]]
  rw [← List.range'_append_1]; simp
theorem lst_split {j n : Nat} {f : Nat → Bool} (h : j < n) (hf : f j = false) : lst n f = (List.range j).filter f ++ (List.range' (j + 1) (n - j - 1)).filter f := by
  rw [lst, range_split h, List.filter_append, List.filter_cons_of_neg (by simp [hf])]
theorem lst_split1 {j n : Nat} {f g : Nat → Bool} (h : j < n) (hg : g j = true) (hne : ∀ i, i ≠ j → g i = f i) : lst n g = (List.range j).filter f ++ j :: (List.range' (j + 1) (n - j - 1)).filter f := by
  rw [lst, range_split h, List.filter_append, List.filter_cons_of_pos hg]
  congr 1
  · exact List.filter_congr fun i hi => hne i (by have := List.mem_range.1 hi; omega)
  · congr 1
    exact List.filter_congr fun i hi => hne i (by have := List.mem_range'_1.1 hi; omega)

theorem disj_spec {l r : List Nat} (h : disj l r = true) {x : Nat} (hl : x ∈ l) (hr : x ∈ r) : False := by
  have := List.all_eq_true.1 h x hl
  simp at this
  exact this hr

structure Apart (all : List Oper) (o o' : Oper) (p p' : Stp) : Prop where
  a : ∀ t, o.dst = some t → t ∉ looks all o'
  b : ∀ t, o'.dst = some t → t ∉ looks all o
  c : ∀ t, o.dst = some t → o'.dst ≠ some t
  d : ∀ k ∈ p.es.map (·.key), k ∉ p'.ks
  e : ∀ k ∈ p'.es.map (·.key), k ∉ p.ks
theorem apartB_spec {all o o' p p'} (h : apartB all o o' p p' = true) : Apart all o o' p p' := by
  simp only [apartB, Bool.and_eq_true] at h
  obtain ⟨⟨⟨⟨h1, h2⟩, h3⟩, h4⟩, h5⟩ := h
  exact ⟨fun t ht hl => disj_spec h1 (by simp [ht]) hl, fun t ht hl => disj_spec h2 (by simp [ht]) hl, fun t ht hl => disj_spec h3 (x := t) (by simp [ht]) (by simp [hl]), fun k hk hl => disj_spec h4 hk hl, fun k hk hl => disj_spec h5 hk hl⟩

section
variable {all : List Oper} {ps : List Stp}
theorem ordOk_spec (h : ordOk all ps = true) {j : Nat} {o : Oper} (ho : all[j]? = some o) : ∃ p, ps[j]? = some p ∧ (∀ i ∈ preds o, i < j) ∧
    ∀ i, i < j → i ∈ (ancs all []).getD j [] ∨ ∃ o' p', all[i]? = some o' ∧ ps[i]? = some p' ∧ Apart all o' o p' p := by
  have hj : j < all.length := (List.getElem?_eq_some_iff.1 ho).1
  have h1 := List.all_eq_true.1 h j (List.mem_range.2 hj)
  unfold ordAt at h1
  rw [ho] at h1
  cases hp : ps[j]? with
  | none => rw [hp] at h1; simp at h1
  | some p =>
    rw [hp] at h1
    simp only [Bool.and_eq_true, List.all_eq_true, decide_eq_true_eq, Bool.or_eq_true, List.mem_range] at h1
    refine ⟨p, rfl, h1.1, fun i hi => ?_⟩
    rcases h1.2 i hi with h2 | h2
    · exact .inl (by simpa using h2)
    · right
      split at h2
      · rename_i o' p' ho' hp'; exact ⟨o', p', ho', hp', apartB_spec h2⟩
      · cases h2

/-- The steps in the order of the text are the states by running. -/
theorem Cert.at {P : Program} {I : Mem → Prop} {rest : List Oper} {S0 S : St} {qs : List Stp} {S1 : St} (h : Cert P I all rest S qs S1) : ∀ (pre : List Oper) (pp : List Stp), pre.length = pp.length → all = pre ++ rest → ps = pp ++ qs → runAll all ps S0 (List.range pre.length) = S →
    runAll all ps S0 (List.range all.length) = S1 ∧ ps.length = all.length ∧ ∀ j o p, pre.length ≤ j → all[j]? = some o → ps[j]? = some p → (∀ e ∈ p.es, e.key ∈ p.ks) ∧ (∀ m, I m → I (putAll m p.es)) ∧ StepI P I all (runAll all ps S0 (List.range j)) o p := by
  induction h with
  | nil S =>
    intro pre pp hl ha hps hS
    simp only [List.append_nil] at ha hps
    subst ha hps
    refine ⟨hS, hl.symm, fun j o p hj ho _ => ?_⟩
    rw [List.getElem?_eq_none (by omega)] at ho
    cases ho
  | cons o rest S p qs S1 hk hI hst hr ih =>
    intro pre pp hl ha hps hS
    have e1 : all[pre.length]? = some o := by rw [ha]; simp
    have e2 : ps[pre.length]? = some p := by rw [hps, hl]; simp
    obtain ⟨h1, h2, h3⟩ := ih (pre ++ [o]) (pp ++ [p]) (by simp [hl]) (by rw [ha]; simp) (by rw [hps]; simp) (by
      rw [List.length_append, List.length_singleton, List.range_succ, runAll_append, hS]
      simp [runAll, e1, e2])
    refine ⟨h1, h2, fun j o' p' hj ho' hp' => ?_⟩
    rcases Nat.eq_or_lt_of_le hj with rfl | hj
    · rw [e1] at ho'; rw [e2] at hp'
      cases ho'; cases hp'
      exact ⟨hk, hI, by rw [hS]; exact hst⟩
    · exact h3 j o' p' (by simp; omega) ho' hp'

variable {S : St} {f : Nat → Bool}
/-- A set of listed operations that holds what stands ahead of each. -/
def Closed (all : List Oper) (f : Nat → Bool) : Prop := ∀ j o, all[j]? = some o → f j = true → ∀ p ∈ preds o, f p = true

theorem ready_agree (hlen : ps.length = all.length) (hord : ordOk all ps = true) (hcl : Closed all f) {j : Nat} {o : Oper} {p : Stp} (ho : all[j]? = some o) (hp : ps[j]? = some p) (hj : f j = false) (hpre : ∀ i ∈ preds o, f i = true) :
    Agree all o p.ks (runAll all ps S (lst all.length f)) (runAll all ps S (List.range j)) := by
  have hlt : j < all.length := (List.getElem?_eq_some_iff.1 ho).1
  have hpl : ∀ j o, all[j]? = some o → ∀ p ∈ preds o, p < j := fun j o ho => (ordOk_spec hord ho).choose_spec.2.1
  obtain ⟨p0, hp0, _, hap⟩ := ordOk_spec hord ho
  rw [hp] at hp0; cases hp0
  -- what stands ahead of j is listed
  have hanc : ∀ i ∈ (ancs all []).getD j [], i < j ∧ f i = true := fun i hi => by
    obtain ⟨h1, h2⟩ := anc_closed (L := fun i => f i = true) hpl (fun j o ho hf => hcl j o ho hf) j ⟨o, ho⟩ i hi
    exact ⟨h1, h2 fun o' ho' => by rw [ho] at ho'; cases ho'; exact hpre⟩
  let q : Nat → Bool := fun i => (ancs all []).getD j [] |>.contains i
  have hq : ∀ i, q i = true ↔ i ∈ (ancs all []).getD j [] := fun i => by simp [q]
  -- any other listed one, and any other ahead in the text, is apart
  have hother : ∀ i, (i < j ∨ (j < i ∧ f i = true)) → q i = false → ∀ oi pi, all[i]? = some oi → ps[i]? = some pi → Apart all oi o pi p ∨ Apart all o oi p pi := by
    rintro i (hi | ⟨hi, hfi⟩) hqi oi pi hoi hpi
    · rcases hap i hi with h | ⟨o', p', ho', hp', h⟩
      · rw [(hq i).2 h] at hqi; cases hqi
      · rw [hoi] at ho'; rw [hpi] at hp'; cases ho'; cases hp'
        exact .inl h
    · obtain ⟨pi', hpi', _, hapi⟩ := ordOk_spec hord hoi
      rw [hpi] at hpi'; cases hpi'
      rcases hapi j hi with h | ⟨o', p', ho', hp', h⟩
      · have := (anc_closed (L := fun i => f i = true) hpl (fun j o ho hf => hcl j o ho hf) i ⟨oi, hoi⟩ j h).2 (fun o' ho' => by rw [hoi] at ho'; cases ho'; exact hcl i oi hoi hfi)
        simp [hj] at this
      · rw [ho] at ho'; rw [hp] at hp'; cases ho'; cases hp'
        exact .inr h
  have hfilter : (lst all.length f).filter q = (List.range j).filter q := by
    rw [lst_split hlt hj, List.filter_append, List.filter_filter, List.filter_filter]
    have : (List.range' (j + 1) (all.length - j - 1)).filter (fun a => q a && f a) = [] := by
      rw [List.filter_eq_nil_iff]
      intro i hi
      have := (List.mem_range'_1.1 hi).1
      simp only [Bool.and_eq_true, not_and]
      intro hqi
      have := (hanc i ((hq i).1 hqi)).1
      omega
    rw [this, List.append_nil]
    refine List.filter_congr fun i hi => ?_
    cases hqi : q i with
    | false => rfl
    | true => simp [(hanc i ((hq i).1 hqi)).2]
  have hl : ∀ i ∈ lst all.length f, i < j ∨ (j < i ∧ f i = true) := fun i hi => by
    have hfi := (List.mem_filter.1 hi).2
    rcases Nat.lt_trichotomy i j with h | h | h
    · exact .inl h
    · subst h; simp [hj] at hfi
    · exact .inr ⟨h, hfi⟩
  have hr : ∀ i ∈ List.range j, i < j ∨ (j < i ∧ f i = true) := fun i hi => .inl (List.mem_range.1 hi)
  refine ⟨by rw [runAll_n, runAll_n], by rw [runAll_gl, runAll_gl], by rw [runAll_keys, runAll_keys], fun t ht => ?_, fun k hk => ?_⟩
  · have key : ∀ l : List Nat, (∀ i ∈ l, i < j ∨ (j < i ∧ f i = true)) → ∀ i ∈ l, ∀ oi, all[i]? = some oi → oi.dst = some t → q i = true := by
      intro l hl i hi oi hoi hd
      cases hqi : q i with
      | true => rfl
      | false =>
        obtain ⟨pi, hpi, _⟩ := ordOk_spec hord hoi
        rcases hother i (hl i hi) hqi oi pi hoi hpi with h | h
        · exact absurd ht (h.a t hd)
        · exact absurd ht (h.b t hd)
    rw [runAll_lk t q _ S S (key _ hl) rfl, runAll_lk t q (List.range j) S S (key _ hr) rfl, hfilter]
  · have key : ∀ l : List Nat, (∀ i ∈ l, i < j ∨ (j < i ∧ f i = true)) → ∀ i ∈ l, ∀ pi, ps[i]? = some pi → k ∈ pi.es.map (·.key) → q i = true := by
      intro l hl i hi pi hpi hd
      cases hqi : q i with
      | true => rfl
      | false =>
        have hil : i < ps.length := (List.getElem?_eq_some_iff.1 hpi).1
        cases hoi : all[i]? with
        | none =>
          rw [List.getElem?_eq_none_iff] at hoi
          omega
        | some oi =>
          rcases hother i (hl i hi) hqi oi pi hoi hpi with h | h
          · exact absurd hk (h.d k hd)
          · exact absurd hk (h.e k hd)
    rw [runAll_get k q _ S S (key _ hl) rfl rfl, runAll_get k q (List.range j) S S (key _ hr) rfl rfl, hfilter]

/-- Carrying out a ready operation lists it. -/
theorem ready_step (hlen : ps.length = all.length) (hord : ordOk all ps = true) (hcl : Closed all f) (hks : ∀ (j : Nat) (p : Stp), ps[j]? = some p → ∀ e ∈ p.es, e.key ∈ p.ks) (hnd : (S.mem.map (·.key)).Nodup) {j : Nat} {o : Oper} {p : Stp} (ho : all[j]? = some o) (hp : ps[j]? = some p) (hj : f j = false) {g : Nat → Bool} (hg : g j = true) (hgf : ∀ i, i ≠ j → g i = f i) :
    Eqv (p.app o (runAll all ps S (lst all.length f))) (runAll all ps S (lst all.length g)) := by
  have hlt : j < all.length := (List.getElem?_eq_some_iff.1 ho).1
  have hpl : ∀ j o, all[j]? = some o → ∀ p ∈ preds o, p < j := fun j o ho => (ordOk_spec hord ho).choose_spec.2.1
  have hlate : ∀ i ∈ (List.range' (j + 1) (all.length - j - 1)).filter f, ∀ oi pi, all[i]? = some oi → ps[i]? = some pi → Apart all o oi p pi := by
    intro i hi oi pi hoi hpi
    obtain ⟨hi, hfi⟩ := List.mem_filter.1 hi
    have hji := (List.mem_range'_1.1 hi).1
    obtain ⟨pi', hpi', _, hapi⟩ := ordOk_spec hord hoi
    rw [hpi] at hpi'; cases hpi'
    rcases hapi j (by omega) with h | ⟨o', p', ho', hp', h⟩
    · have := (anc_closed (L := fun i => f i = true) hpl (fun j o ho hf => hcl j o ho hf) i ⟨oi, hoi⟩ j h).2 (fun o' ho' => by rw [hoi] at ho'; cases ho'; exact hcl i oi hoi hfi)
      simp [hj] at this
    · rw [ho] at ho'; rw [hp] at hp'; cases ho'; cases hp'
      exact h
  rw [lst_split1 hlt hg hgf, lst_split hlt hj]
  generalize hL1 : (List.range j).filter f = L1
  generalize hL2 : (List.range' (j + 1) (all.length - j - 1)).filter f = L2 at hlate
  have hne1 : ∀ i ∈ L1 ++ L2, i ≠ j := by
    intro i hi
    rw [← hL1, ← hL2] at hi
    rcases List.mem_append.1 hi with h | h
    · have := List.mem_range.1 (List.mem_filter.1 h).1; omega
    · have := (List.mem_range'_1.1 (List.mem_filter.1 h).1).1; omega
  have hpsall : ∀ {i pi}, ps[i]? = some pi → ∃ oi, all[i]? = some oi := fun {i pi} h => by
    have := (List.getElem?_eq_some_iff.1 h).1
    exact ⟨all[i]'(by omega), List.getElem?_eq_getElem _⟩
  let q : Nat → Bool := fun i => i != j
  have hf1 : (L1 ++ j :: L2).filter q = L1 ++ L2 := by
    rw [List.filter_append, List.filter_cons_of_neg (by simp [q]), ← List.filter_append, List.filter_eq_self]
    intro i hi; simpa [q] using hne1 i hi
  have hone : ∀ S, runAll all ps S (L1 ++ j :: L2) = runAll all ps (p.app o (runAll all ps S L1)) L2 := fun S => by
    rw [runAll_append]
    simp [runAll, ho, hp]
  have hkeys : (p.app o (runAll all ps S (L1 ++ L2))).mem.map (·.key) = (runAll all ps S (L1 ++ j :: L2)).mem.map (·.key) := by
    rw [app_keys, runAll_keys, runAll_keys]
  refine ⟨by rw [app_n, runAll_n, runAll_n], by rw [app_gl, runAll_gl, runAll_gl], Mem.ext (by rw [app_keys, runAll_keys]; exact hnd) hkeys fun k => ?_, fun t => ?_⟩
  · by_cases hk : k ∈ p.es.map (·.key)
    · have h1 : Mem.get (p.app o (runAll all ps S (L1 ++ L2))).mem k = Mem.get (p.app o (runAll all ps S L1)).mem k := by
        simp only [Stp.app, put_mem]
        exact putAll_get_eq _ _ _ k (by rw [runAll_keys, runAll_keys]) (.inl hk)
      rw [h1, hone]
      rw [runAll_get k (fun _ => false) L2 _ (p.app o (runAll all ps S L1)) ?_ rfl rfl]
      · rw [List.filter_eq_nil_iff.2 (by simp)]; rfl
      · intro i hi pi hpi hki
        obtain ⟨oi, hoi⟩ := hpsall hpi
        have := (hlate i hi oi pi hoi hpi).e k hki
        obtain ⟨e, he, rfl⟩ := List.mem_map.1 hk
        exact absurd (hks j p hp e he) this
    · rw [app_get_ne _ _ _ _ hk, runAll_get k q (L1 ++ j :: L2) S S ?_ rfl rfl, hf1]
      intro i hi pi hpi hki
      by_cases hij : i = j
      · subst hij; rw [hp] at hpi; cases hpi; exact absurd hki hk
      · simpa [q] using hij
  · rw [app_lk]
    by_cases hd : o.dst = some t
    · rw [if_pos hd, hone]
      rw [runAll_lk t (fun _ => false) L2 _ (p.app o (runAll all ps S L1)) ?_ rfl]
      · rw [List.filter_eq_nil_iff.2 (by simp)]; simp [runAll, app_lk, hd]
      · intro i hi oi hoi hdi
        obtain ⟨pi, hpi, _⟩ := ordOk_spec hord hoi
        exact absurd hdi ((hlate i hi oi pi hoi hpi).c t hd)
    · rw [if_neg hd, runAll_lk t q (L1 ++ j :: L2) S S ?_ rfl, hf1]
      intro i hi oi hoi hdi
      by_cases hij : i = j
      · subst hij; rw [ho] at hoi; cases hoi; exact absurd hdi hd
      · simpa [q] using hij

/-- Whatever order is drawn, a region with a certificate ends in its state. -/
theorem wpAny_cert {P : Program} {S0 S1 : St} {φ0 : Phi} {G : Nat → Prop} {w0 : World} {Q : Exit → Act → World → Prop} {I : Mem → Prop} (hI0 : I S0.mem) (hc : Cert P I all all S0 ps S1) (hord : ordOk all ps = true) (hnd : (S0.mem.map (·.key)).Nodup)
    (hQ : ∀ φ' a' w', Rel φ' G S1 a' w' → Keeps φ0 S0.mem w0 φ' S1.mem w' → Q .normal a' w') :
    ∀ (fuel : Nat) (listed : Array Bool) φ a w, listed.size = all.length → Closed all (fun i => listed.getD i false) → Rel φ G (runAll all ps S0 (lst all.length fun i => listed.getD i false)) a w → Keeps φ0 S0.mem w0 φ (runAll all ps S0 (lst all.length fun i => listed.getD i false)).mem w →
      ((List.range all.length).filter fun i => !listed.getD i false).length ≤ fuel → wpAny P .any all.toArray Q fuel listed a w := by
  obtain ⟨hfin, hlen, hst⟩ := Cert.at (ps := ps) (S0 := S0) hc [] [] rfl rfl rfl rfl
  have hks : ∀ (j : Nat) (p : Stp), ps[j]? = some p → ∀ e ∈ p.es, e.key ∈ p.ks := fun j p hp => by
    have hjl : j < ps.length := (List.getElem?_eq_some_iff.1 hp).1
    exact (hst j (all[j]'(by omega)) p (by simp) (by simp) hp).1
  have hIs : ∀ l : List Nat, I (runAll all ps S0 l).mem := by
    have key : ∀ (l : List Nat) (S : St), I S.mem → I (runAll all ps S l).mem := by
      intro l
      induction l with
      | nil => exact fun _ h => h
      | cons i l ih =>
        intro S h
        have e1 : runAll all ps S (i :: l) = runAll all ps (runAll all ps S [i]) l := by simp [runAll]
        rw [e1]
        refine ih _ ?_
        simp only [runAll, List.foldl_cons, List.foldl_nil]
        split
        · rename_i o p ho hp
          simp only [Stp.app, put_mem]
          exact (hst i o p (by simp) ho hp).2.1 _ h
        · exact h
    exact fun l => key l S0 hI0
  -- the first that isn't listed is ready
  have first : ∀ (f : Nat → Bool) (n : Nat), n ≤ all.length → (∀ i, i < n → f i = true) ∨ ∃ i, i < n ∧ f i = false ∧ ∀ i', i' < i → f i' = true := by
    intro f n
    induction n with
    | zero => exact fun _ => .inl (fun i hi => by omega)
    | succ n ih =>
      intro hn
      rcases ih (by omega) with h | ⟨i, h1, h2, h3⟩
      · cases hf : f n with
        | true =>
          refine .inl fun i hi => ?_
          rcases Nat.lt_succ_iff_lt_or_eq.1 hi with h' | h'
          · exact h i h'
          · rw [h']; exact hf
        | false => exact .inr ⟨n, by omega, hf, h⟩
      · exact .inr ⟨i, by omega, h2, h3⟩
  have done : ∀ (listed : Array Bool) φ a w, listed.size = all.length → Rel φ G (runAll all ps S0 (lst all.length fun i => listed.getD i false)) a w → Keeps φ0 S0.mem w0 φ (runAll all ps S0 (lst all.length fun i => listed.getD i false)).mem w → Region.ready .any all.toArray listed = [] → Q .normal a w := by
    intro listed φ a w hsz hr hk hemp
    have hall : ∀ i, i < all.length → listed.getD i false = true := by
      rcases first (fun i => listed.getD i false) all.length (Nat.le_refl _) with h | ⟨i, h1, h2, h3⟩
      · exact h
      · exfalso
        have : i ∈ Region.ready .any all.toArray listed := by
          rw [mem_ready]
          refine ⟨?_, all[i], by simp [h1], fun e he hb => ?_⟩
          · have : i < listed.size := by omega
            simp only [Array.getD_eq_getD_getElem?, Array.getElem?_eq_getElem this, Option.getD_some] at h2 ⊢
            exact h2
          · obtain ⟨p, _, hp, _⟩ := ordOk_spec hord (show all[i]? = some all[i] by simp [h1])
            exact h3 e.on (hp e.on (by
              simp only [preds, List.mem_map, List.mem_filter]
              exact ⟨e, ⟨by simpa using he, hb⟩, rfl⟩))
        rw [hemp] at this
        cases this
    have hl : (lst all.length fun i => listed.getD i false) = List.range all.length := by
      rw [lst, List.filter_eq_self]
      intro i hi
      exact hall i (List.mem_range.1 hi)
    rw [hl, hfin] at hr hk
    exact hQ φ a w hr hk
  intro fuel
  induction fuel with
  | zero =>
    intro listed φ a w hsz hcl hr hk hf
    have hemp : Region.ready .any all.toArray listed = [] := by
      cases h : Region.ready .any all.toArray listed with
      | nil => rfl
      | cons i r =>
        exfalso
        have hi : i ∈ Region.ready .any all.toArray listed := by rw [h]; simp
        rw [mem_ready] at hi
        obtain ⟨h0, o, ho, _⟩ := hi
        have hil : i < all.length := by
          have := (Array.getElem?_eq_some_iff.1 ho).1; simpa using this
        have h0' : listed.getD i false = false := by
          have : i < listed.size := by omega
          simp only [Array.getD_eq_getD_getElem?, Array.getElem?_eq_getElem this, Option.getD_some] at h0 ⊢
          exact h0
        have : i ∈ (List.range all.length).filter fun i => !listed.getD i false := List.mem_filter.2 ⟨List.mem_range.2 hil, by simp [h0']⟩
        have := List.length_pos_of_mem this
        omega
    exact ⟨hemp, done listed φ a w hsz hr hk hemp⟩
  | succ fuel ih =>
    intro listed φ a w hsz hcl hr hk hf
    refine ⟨done listed φ a w hsz hr hk, fun i hi => ?_⟩
    rw [mem_ready] at hi
    obtain ⟨h0, o, ho, hafter⟩ := hi
    have ho' : all[i]? = some o := by simpa using ho
    have hil : i < all.length := (List.getElem?_eq_some_iff.1 ho').1
    have hil2 : i < listed.size := by omega
    have h0' : listed.getD i false = false := by
      simp only [Array.getD_eq_getD_getElem?, Array.getElem?_eq_getElem hil2, Option.getD_some] at h0 ⊢
      exact h0
    have hpre : ∀ k ∈ preds o, listed.getD k false = true := by
      intro k hk'
      simp only [preds, List.mem_map, List.mem_filter] at hk'
      obtain ⟨e, ⟨he, hb⟩, rfl⟩ := hk'
      exact hafter e (by simpa using he) hb
    obtain ⟨p, hp, _⟩ := ordOk_spec hord ho'
    obtain ⟨hke, _, hstep⟩ := hst i o p (by simp) ho' hp
    have hag := ready_agree (S := S0) hlen hord hcl ho' hp h0' hpre
    have hset : (listed.setIfInBounds i true).getD i false = true := by simp [hil2]
    have hsne : ∀ k, k ≠ i → (listed.setIfInBounds i true).getD k false = listed.getD k false := fun k hk' => getD_set_ne false (Ne.symm hk')
    have heq := ready_step (S := S0) (f := fun i => listed.getD i false) (g := fun k => (listed.setIfInBounds i true).getD k false) hlen hord hcl hks hnd ho' hp h0' hset hsne
    have hcl' : Closed all (fun k => (listed.setIfInBounds i true).getD k false) := by
      intro k ok hok hfk x hx
      by_cases hxi : x = i
      · subst hxi; exact hset
      · show (listed.setIfInBounds i true).getD x false = true
        rw [hsne x hxi]
        by_cases hki : k = i
        · subst hki; rw [ho'] at hok; cases hok; exact hpre x hx
        · exact hcl k ok hok ((hsne k hki).symm.trans hfk) x hx
    have hcount : ((List.range all.length).filter fun k => !(listed.setIfInBounds i true).getD k false).length ≤ fuel := by
      have h1 : (List.range all.length).filter (fun k => !(listed.setIfInBounds i true).getD k false) = ((List.range all.length).filter fun k => !listed.getD k false).filter (fun k => k != i) := by
        rw [List.filter_filter]
        refine List.filter_congr fun k _ => ?_
        by_cases hki : k = i
        · subst hki; rw [hset]; simp
        · rw [hsne k hki]; simp [hki]
      have hmem : i ∈ (List.range all.length).filter fun k => !listed.getD k false := List.mem_filter.2 ⟨List.mem_range.2 hil, by simp [h0']⟩
      rw [h1]
      have : (((List.range all.length).filter fun k => !listed.getD k false).filter (fun k => k != i)).length < ((List.range all.length).filter fun k => !listed.getD k false).length := by
        rw [List.length_filter_lt_length_iff_exists]
        exact ⟨i, hmem, by simp⟩
      omega
    have hs := hstep _ hag (hIs _) φ G a w hr (wpAny P .any all.toArray Q fuel (listed.setIfInBounds i true)) Q (fun φ' a' w' hr' hk' =>
      ih _ φ' a' w' (by simpa using hsz) hcl' (hr'.eqv heq) (by rw [← heq.mem]; exact hk.trans hk') hcount)
    unfold wpOp
    rw [ho]
    simp only
    split at hs
    · rename_i hw; rw [if_pos hw]; exact .inl hs
    · rename_i hw; rw [if_neg hw]; exact hs
end
theorem region_draw {P : Program} {S S1 : St} {id : Nat} {ops : List Oper} {ps : List Stp} {I : Mem → Prop} (hI0 : I S.mem) (hm : P.follows .mixedOrders = true) (hc : Cert P I ops ops S ps S1) (hord : ordOk ops ps = true) {φ G a w} (hr : Rel φ G S a w) {Q : Exit → Act → World → Prop}
    (hQ : ∀ φ' a' w', Rel φ' G S1 a' w' → Keeps φ S.mem w φ' S1.mem w' → Q .normal a' w') : (Code.region id ops.toArray true).wp P Q a w := by
  refine wp_region_any hm ?_
  have hdr : Rel φ G S a { w with drawn := w.drawn + 1 } := hr.grow (fun _ _ => rfl) (Nat.le_refl _)
  have hl0 : (lst ops.length fun i => (Array.replicate ops.length false).getD i false) = [] := by
    rw [lst, List.filter_eq_nil_iff]
    intro i hi
    simp [Array.getD_eq_getD_getElem?, List.mem_range.1 hi]
  refine wpAny_cert (S0 := S) (φ0 := φ) (w0 := w) (G := G) hI0 hc hord hr.mem.nodup (fun φ' a' w' hr' hk' => hQ φ' a' w' hr' hk') _ _ φ a _ (by simp) ?_ ?_ ?_ ?_
  · intro j o _ hj
    exfalso
    simp only [Array.getD_eq_getD_getElem?] at hj
    by_cases h : j < ops.length
    · simp [h] at hj
    · simp [h] at hj
  · simp only [List.size_toArray]; rw [hl0]; exact hdr
  · simp only [List.size_toArray]; rw [hl0]; exact Keeps.grow (fun _ _ => rfl) (Nat.le_refl _) rfl rfl rfl
  · simp only [List.size_toArray]
    exact Nat.le_trans (List.length_filter_le _ _) (by simp)
theorem cert_n {P : Program} {I : Mem → Prop} {ops : List Oper} {S S1 : St} {ps : List Stp} (hc : Cert P I ops ops S ps S1) : S1.n = S.n ∧ S1.gl = S.gl := by
  obtain ⟨hfin, _, _⟩ := Cert.at (ps := ps) (S0 := S) hc [] [] rfl rfl rfl rfl
  rw [← hfin]
  exact ⟨runAll_n .., runAll_gl ..⟩
/- The order, by a table: of each operation those that are neither ahead of it nor behind it. -/
def dstApart (all : List Oper) (o o' : Oper) : Bool := disj o.dst.toList (looks all o') && disj o'.dst.toList (looks all o) && disj o.dst.toList o'.dst.toList
def ordSAt (all : List Oper) (nd : List (List Nat)) (an : List (List Nat)) (j : Nat) : Bool :=
  match all[j]? with
  | some o => (preds o).all (fun i => decide (i < j)) && (List.range j).all fun i => (an.getD j []).contains i || (match all[i]? with
    | some o' => dstApart all o' o && ((nd.getD i []).contains j && (nd.getD j []).contains i)
    | none => false)
  | none => false
def ordS (all : List Oper) (nd : List (List Nat)) : Bool := (List.range all.length).all (ordSAt all nd (ancs all []))
def ordK (ps : List Stp) (es : List Ent) : List Nat → Bool
  | [] => true
  | j :: r => (match ps[j]? with | some q => disj (es.map (·.key)) q.ks | none => false) && ordK ps es r
def ordE (ps : List Stp) (js : List Nat) : List Ent → Bool
  | [] => true
  | e :: es => ordK ps (e :: es) js
def ordL (ps : List Stp) : List (List Nat) → List Stp → Bool
  | _, [] => true
  | [], p :: r => ordE ps [] p.es && ordL ps [] r
  | js :: nd, p :: r => ordE ps js p.es && ordL ps nd r
def ordD (nd : List (List Nat)) (ps : List Stp) : Bool := ordL ps nd ps
theorem ordL_get {ps : List Stp} : ∀ {nd : List (List Nat)} {l : List Stp}, ordL ps nd l = true → ∀ i p, l[i]? = some p → ordE ps (nd.getD i []) p.es = true
  | _, [], _, i, p, hp => by simp at hp
  | [], q :: r, h, i, p, hp => by
    simp only [ordL, Bool.and_eq_true] at h
    cases i with
    | zero => simp at hp; subst hp; simpa using h.1
    | succ i => have := ordL_get h.2 i p (by simpa using hp); simpa using this
  | js :: nd, q :: r, h, i, p, hp => by
    simp only [ordL, Bool.and_eq_true] at h
    cases i with
    | zero => simp at hp; subst hp; simpa using h.1
    | succ i => have := ordL_get h.2 i p (by simpa using hp); simpa using this
theorem ordK_get {ps : List Stp} {es : List Ent} : ∀ {js : List Nat}, ordK ps es js = true → ∀ j ∈ js, ∀ q, ps[j]? = some q → disj (es.map (·.key)) q.ks = true
  | [], _, j, hj, _, _ => by simp at hj
  | k :: r, h, j, hj, q, hq => by
    simp only [ordK, Bool.and_eq_true] at h
    rcases List.mem_cons.1 hj with rfl | hj
    · have := h.1; rw [hq] at this; exact this
    · exact ordK_get h.2 j hj q hq
theorem ordE_get {ps : List Stp} {js : List Nat} : ∀ {es : List Ent}, ordE ps js es = true → ∀ j ∈ js, ∀ q, ps[j]? = some q → disj (es.map (·.key)) q.ks = true
  | [], _, _, _, _, _ => rfl
  | _ :: _, h, j, hj, q, hq => ordK_get h j hj q hq
theorem ord_of {all : List Oper} {nd : List (List Nat)} {ps : List Stp} (hs : ordS all nd = true) (hd : ordD nd ps = true) (hl : ps.length = all.length) : ordOk all ps = true := by
  unfold ordOk
  refine List.all_eq_true.2 fun j hj => ?_
  have h1 := List.all_eq_true.1 hs j hj
  have hj' : j < all.length := List.mem_range.1 hj
  unfold ordSAt at h1
  unfold ordAt
  have hpj : ps[j]? = some (ps[j]'(by omega)) := by simp [hl, hj']
  rw [hpj]
  cases ho : all[j]? with
  | none => rw [ho] at h1; cases h1
  | some o =>
    rw [ho] at h1
    simp only [Bool.and_eq_true, List.all_eq_true, decide_eq_true_eq, Bool.or_eq_true, List.mem_range] at h1 ⊢
    refine ⟨h1.1, fun i hi => ?_⟩
    rcases h1.2 i hi with h2 | h2
    · exact .inl h2
    · right
      have hpi : ps[i]? = some (ps[i]'(by omega)) := by simp [show i < ps.length by omega]
      cases hoi : all[i]? with
      | none => rw [hoi] at h2; cases h2
      | some o' =>
        rw [hoi] at h2
        rw [hpi]
        simp only [Bool.and_eq_true] at h2
        simp only [apartB]
        have e1 := ordE_get (ordL_get hd i _ hpi) j (by simpa using h2.2.1) _ hpj
        have e2 := ordE_get (ordL_get hd j _ hpj) i (by simpa using h2.2.2) _ hpi
        have e3 := h2.1
        simp only [dstApart, Bool.and_eq_true] at e3
        simp only [Bool.and_eq_true]
        exact ⟨⟨e3, e1⟩, e2⟩
end Go.Am
end
section
namespace Go.Am
open Go

inductive Gh where
  | trim (k : Nat)
  | freeze (k : Nat)
  | adopt (kb j k sz : Nat)
  | rekey (k k2 : Nat)

structure Ctx where
  P : Program
  gl : List (Nat × D)
  keep : FuncId → Nat → List Nat
  gh : FuncId → Nat → List Gh
  md : FuncId → Nat → Bool
  fp : FuncId → FPol
  od : FuncId → Nat → List (List Nat)
  orc : FuncId → Option (List D → Option D)
  fl : FuncId → Nat → List (Nat × Nat)

abbrev CallFn := FuncId → List AV → List Cont → Option (Out × List (Nat × Cont))

/-- A function of the program that has a body. -/
def callable (P : Program) (g : FuncId) : Bool :=
  match P.funcs[g]? with
  | some fn => fn.body.isSome && !(fn.name == "runtime.NumGoroutine")
  | none => false

/- Calls. -/
mutual
def ptrKeys : AV → List Nat
  | .vec _ _ _ _ => []
  | .ptr k _ _ => [k]
  | .eptr k _ _ _ => [k]
  | .agg cs => ptrsKeys cs
  | .fn _ cap => avsKeys cap
  | .tup vs => ptrsKeys vs
  | _ => []
def ptrsKeys : List AV → List Nat
  | [] => []
  | x :: r => ptrKeys x ++ ptrsKeys r
end
mutual
def vecKeys : AV → List Nat
  | .vec k _ _ _ => [k]
  | .agg cs => vecsKeys cs
  | .tup vs => vecsKeys vs
  | _ => []
def vecsKeys : List AV → List Nat
  | [] => []
  | x :: r => vecKeys x ++ vecsKeys r
end
/-- The keys that are handed on, and those that are read as data. -/
def argKeys (mt : List Nat) : Nat → List AV → List Nat
  | _, [] => []
  | i, x :: r => (match mt.contains i with | true => avKeys x | false => ptrKeys x) ++ argKeys mt (i + 1) r
def argBor (mt : List Nat) : Nat → List AV → List Nat
  | _, [] => []
  | i, x :: r => (match mt.contains i with | true => [] | false => vecKeys x) ++ argBor mt (i + 1) r

structure CRes where
  out : Out
  es : List Ent
  ks : List Nat
def upO (ρ bs : List Nat) : Out → Out
  | .ret x => .ret (up ρ bs x)
  | .panic t x => .panic t x
def plainO : Out → Bool
  | .ret x => plainAV x
  | .panic _ x => plainD x
def plainL : List (Nat × Cont) → Bool
  | [] => true
  | (_, c) :: r => plainC c && plainL r
def frOk (m : Mem) (ρ : List Nat) : List Nat → Bool
  | [] => true
  | k :: r => (Mem.get m k).isSome && !ρ.contains k && frOk m ρ r
def callBack (m : Mem) (k0 : Nat) (ρ B : List Nat) : Option (Out × List (Nat × Cont)) → Option CRes
  | some (out, l2) =>
    if (decide (ρ.length ≤ l2.length) && frOk m ρ (List.range' (k0 + 1) (l2.length - ρ.length)) && (B.isEmpty || (plainO out && plainL l2))) = true then
      some ⟨upO (ρ ++ List.range' (k0 + 1) (l2.length - ρ.length)) (base m 0 ρ ++ base m 1 (List.range' (k0 + 1) (l2.length - ρ.length))) out,
        backL (ρ ++ List.range' (k0 + 1) (l2.length - ρ.length)) (base m 0 ρ ++ base m 1 (List.range' (k0 + 1) (l2.length - ρ.length))) 0 l2, ρ ++ B ++ List.range' (k0 + 1) (l2.length - ρ.length)⟩
    else none
  | none => none
/-- What is handed back anew is data, where there is no key for it. -/
def frzO (n0 : Nat) (l2 : List (Nat × Cont)) : Out → Out
  | .ret x => .ret (vw (mkM 0 l2) (List.range n0) (fun _ => true) (fun _ v => v) x).norm
  | .panic t x => .panic t x
def frzR (n0 : Nat) (b : Bool) : Option (Out × List (Nat × Cont)) → Option (Out × List (Nat × Cont))
  | some (out, l2) => if (b && decide (n0 < l2.length)) = true then some (frzO n0 l2 out, selL (mkM 0 l2) (List.range n0) (fun _ => true) (fun _ v => v) 0 (List.range n0)) else some (out, l2)
  | none => none
def vwArgs (m : Mem) (ρ B : List Nat) : List AV → List AV
  | [] => []
  | y :: r => (vw m ρ (fun k => B.contains k) nv0 y).norm :: vwArgs m ρ B r
def conts : List (Nat × Cont) → List Cont
  | [] => []
  | (_, c) :: r => c :: conts r
def callOp3 (cl : CallFn) (m : Mem) (k0 : Nat) (g : FuncId) (ys : List AV) (ρ B : List Nat) : Option CRes :=
  callBack m k0 ρ B (frzR ρ.length (Mem.get m (k0 + 1)).isNone (cl g (vwArgs m ρ B ys) (conts (selL m ρ (fun k => B.contains k) nv0 0 ρ))))
def callOp2 (cl : CallFn) (m : Mem) (k0 : Nat) (g : FuncId) (ys : List AV) (mt ρ : List Nat) : Option CRes :=
  callOp3 cl m k0 g ys ρ ((argBor mt 0 ys).filter fun k => !ρ.contains k)
def callOp (cl : CallFn) (m : Mem) (k0 : Nat) (g : FuncId) (ys : List AV) (mt : List Nat) : Option CRes :=
  callOp2 cl m k0 g ys mt (collect m 64 (argKeys mt 0 ys) [])

/- Operations. -/
def putC (S : St) (d : Option Nat) : Option CRes → Option (XE × St)
  | some ⟨.ret x, es, _⟩ => some (.normal, ({ S with mem := putAll S.mem es } : St).put d true x)
  | some ⟨.panic t x, es, _⟩ => some (.panic t x, { S with mem := putAll S.mem es })
  | none => none
def argVals (S : St) : List Operand → List AV
  | [] => []
  | x :: r => (S.opd x).2 :: argVals S r
def callVal (X : Ctx) (cl : CallFn) (S : St) (o : Oper) (args : List Operand) : Bool × AV → Option CRes
  | (true, .fn g caps) => if okAll S args = true then callOp cl S.mem (keyOf o) g (argVals S args ++ caps) (X.fp g).mut_ else none
  | _ => none
def panicVal (S : St) : Bool × AV → Option (XE × St)
  | (true, .ifc t d) => some (.panic t d, S)
  | _ => none
def specOp (X : Ctx) (cl : CallFn) (S : St) (o : Oper) : Option (XE × St) :=
  match o.op with
  | .call { callee := .value fv, args, .. } => putC S o.dst (callVal X cl S o args.toList (S.opd fv))
  | .panic x => panicVal S (S.opd x)
  | _ => none
def stepOp (X : Ctx) (cl : CallFn) (S : St) (o : Oper) : Res → Option (XE × St)
  | .val c x => if (opOk S o && c) = true then some (.normal, S.put o.dst true x) else none
  | .upd c x e => if (opOk S o && c) = true then some (.normal, ({ S with mem := Mem.set S.mem e } : St).put o.dst true x) else none
  | .no => specOp X cl S o
def guardOp (X : Ctx) (cl : CallFn) (S : St) (o : Oper) (b : Bool) : Res → Option (XE × St)
  | .val c x => if b = true → (opOk S o && c) = true then some (.normal, S.put o.dst b x) else none
  | r => if b = true then stepOp X cl S o r else some (.normal, S.put o.dst true .junk)
/-- What is known of a slot's truth is written down. -/
def St.cz (S : St) (d : Option Nat) (b : Bool) : St := S.put d true (.d (.bool b))
def dstAt (all : List Oper) (j : Nat) : Option Nat :=
  match all[j]? with
  | some o => o.dst
  | none => none
/-- What a guard's slot says. -/
inductive GV where
  | tru (t : Bool)
  | skip
  | bad
def gvD : D → GV
  | .bool t => .tru t
  | _ => .bad
def gvT : List AV → GV
  | [] => .skip
  | _ :: _ => .bad
def gvA : AV → GV
  | .d x => gvD x
  | .tup vs => gvT vs
  | _ => .bad
def gval : Option (Bool × AV) → GV
  | some (true, x) => gvA x
  | _ => .bad
theorem gval_tru {x : Option (Bool × AV)} {t : Bool} (h : gval x = .tru t) : x = some (true, .d (.bool t)) := by
  rcases x with _ | ⟨g, y⟩
  · cases h
  · cases g
    · cases h
    · cases y with
      | d y => cases y <;> simp_all [gval, gvA, gvD]
      | tup vs => cases vs <;> simp_all [gval, gvA, gvT]
      | _ => cases h
theorem gval_skip {x : Option (Bool × AV)} (h : gval x = .skip) : x = some (true, .tup []) := by
  rcases x with _ | ⟨g, y⟩
  · cases h
  · cases g
    · cases h
    · cases y with
      | d y => cases y <;> simp_all [gval, gvA, gvD]
      | tup vs => cases vs <;> simp_all [gval, gvA, gvT]
      | _ => cases h
def gstep (X : Ctx) (cl : CallFn) (md : Bool) (all : List Oper) (S : St) (o : Oper) : Option (XE × St) :=
  match o.guard with
  | none => stepOp X cl S o (stepv X.P S o)
  | some (j, want) => match gval (grd all S j) with
    | .tru t => match md with
      | false => guardOp X cl S o (t == want) (stepv X.P S o)
      | true => if (t == want) = true then stepOp X cl (S.cz (dstAt all j) want) o (stepv X.P (S.cz (dstAt all j) want) o) else some (.normal, (S.cz (dstAt all j) (!want)).put o.dst true (.tup []))
    | .skip => some (.normal, S.put o.dst true (.tup []))
    | .bad => none
def andThen (r : Option (XE × St)) (k : St → Option (XE × St)) : Option (XE × St) :=
  match r with
  | some (.normal, S) => k S
  | r => r
def runOps (X : Ctx) (cl : CallFn) (md : Bool) (all : List Oper) : List Oper → St → Option (XE × St)
  | [], S => some (.normal, S)
  | o :: r, S => andThen (gstep X cl md all S o) (runOps X cl md all r)

/- Regions that draw their order. -/
def dcall (S : St) (o : Oper) : Option CRes → Option (St × Stp)
  | some ⟨.ret x, es, ks⟩ => some ((⟨ks, es, true, x⟩ : Stp).app o S, ⟨ks, es, true, x⟩)
  | _ => none
def dspec (X : Ctx) (cl : CallFn) (S : St) (o : Oper) : Option (St × Stp) :=
  match o.op with
  | .call { callee := .value fv, args, .. } => dcall S o (callVal X cl S o args.toList (S.opd fv))
  | _ => none
def dstep (X : Ctx) (cl : CallFn) (S : St) (o : Oper) : Res → Option (St × Stp)
  | .val c x => if (opOk S o && c) = true then some (S.put o.dst true x, ⟨touch S o, [], true, x⟩) else none
  | .upd c x e => if (opOk S o && c && (touch S o).contains e.key) = true then some (({ S with mem := Mem.set S.mem e } : St).put o.dst true x, ⟨touch S o, [e], true, x⟩) else none
  | .no => dspec X cl S o
def dguard (X : Ctx) (cl : CallFn) (S : St) (o : Oper) (b : Bool) : Res → Option (St × Stp)
  | .val c x => if b = true → (opOk S o && c) = true then some (S.put o.dst b x, ⟨touch S o, [], b, x⟩) else none
  | r => if b = true then dstep X cl S o r else some (S.put o.dst true .junk, ⟨[], [], true, .junk⟩)
def dgstep (X : Ctx) (cl : CallFn) (md : Bool) (all : List Oper) (S : St) (o : Oper) : Option (St × Stp) :=
  match o.guard with
  | none => dstep X cl S o (stepv X.P S o)
  | some (j, want) => match gval (grd all S j) with
    | .tru t => match md with
      | false => dguard X cl S o (t == want) (stepv X.P S o)
      | true => if (t == want) = true then dstep X cl (S.cz (dstAt all j) want) o (stepv X.P (S.cz (dstAt all j) want) o) else some ((S.cz (dstAt all j) (!want)).put o.dst true (.tup []), ⟨[], [], true, .tup []⟩)
    | .skip => some (S.put o.dst true (.tup []), ⟨[], [], true, .tup []⟩)
    | .bad => none
def dThen (acc : List Stp) (r : Option (St × Stp)) (k : St → List Stp → Option (XE × St)) : Option (XE × St) :=
  match r with
  | some (S, p) => k S (p :: acc)
  | none => none
def drwOps (X : Ctx) (cl : CallFn) (md : Bool) (nd : List (List Nat)) (all : List Oper) : List Oper → St → List Stp → Option (XE × St)
  | [], S, acc => if ordD nd acc.reverse = true then some (.normal, S) else none
  | o :: r, S, acc => dThen acc (dgstep X cl md all S o) (drwOps X cl md nd all r)

/- Cells of boxes that a region reads and none of its operations changes. -/
structure Cl where
  k : Nat
  v : Nat
  j : Nat
  x : AV
def eqA : AV → AV → Bool
  | .vec a b c d, .vec a' b' c' d' => decide (a = a') && decide (b = b') && decide (c = c') && decide (d = d')
  | .ptr a b c, .ptr a' b' c' => decide (a = a') && decide (b = b') && decide (c = c')
  | .d (.int k n), .d (.int k' n') => decide (k = k') && decide (n = n')
  | .d (.bool b), .d (.bool b') => decide (b = b')
  | _, _ => false
def ents (m : Mem) : List (Nat × Nat) → Option (List Cl)
  | [] => some []
  | (k, j) :: r => match Mem.get m k, ents m r with
    | some ⟨_, v, .box cs⟩, some l => match cs[j]? with
      | some x => some (⟨k, v, j, x⟩ :: l)
      | none => none
    | _, _ => none
def clE (q : Cl) (v : Nat) : Cont → Bool
  | .box cs => decide (v = q.v) && (match cs[q.j]? with | some x => eqA x q.x | none => false)
  | _ => false
def invE (e : Ent) : List Cl → Bool
  | [] => true
  | q :: r => (match decide (e.key = q.k) with | true => clE q e.ver e.cont | false => true) && invE e r
def invEs (LI : List Cl) : List Ent → Bool
  | [] => true
  | e :: r => invE e LI && invEs LI r
def findC (k v j : Nat) : List Cl → Option AV
  | [] => none
  | q :: r => match decide (k = q.k) && decide (v = q.v) && decide (j = q.j) with | true => some q.x | false => findC k v j r
def hasC (k v : Nat) : List Cl → Bool
  | [] => false
  | q :: r => match decide (k = q.k) && decide (v = q.v) with | true => true | false => hasC k v r
def lookL (P : Program) (LI : List Cl) (t : TypeId) : Bool × AV → Option AV
  | (true, .ptr k v off) => match (tk P t).agg, decide (tk P t = .other) with
    | false, false => findC k v off LI
    | _, _ => none
  | _ => none
def lookF (LI : List Cl) : Option Nat → Bool × AV → Option AV
  | some n, (true, .ptr k v off) => match hasC k v LI with | true => some (.ptr k v (off + n)) | false => none
  | _, _ => none
def lookN (LI : List Cl) : Bool × AV → Option AV
  | (true, .ptr k v off) => match hasC k v LI with | true => some (.ptr k v off) | false => none
  | _ => none
def lookG (P : Program) (LI : List Cl) (S : St) : Op → Option AV
  | .load t x => lookL P LI t (S.opd x)
  | .fieldAddr s x f => lookF LI (foff P s f) (S.opd x)
  | .nilCheck x => lookN LI (S.opd x)
  | _ => none
def lookI (P : Program) (LI : List Cl) (S : St) (o : Oper) : Option AV :=
  match o.guard with
  | none => lookG P LI S o.op
  | some _ => none
def chkI (LI : List Cl) : Option (St × Stp) → Option (St × Stp)
  | some (S, p) => if invEs LI p.es = true then some (S, p) else none
  | none => none
def stepI (X : Ctx) (cl : CallFn) (md : Bool) (LI : List Cl) (all : List Oper) (S : St) (o : Oper) : Option AV → Option (St × Stp)
  | some x => some (S.put o.dst true x, ⟨[], [], true, x⟩)
  | none => chkI LI (dgstep X cl md all S o)
def drwI (X : Ctx) (cl : CallFn) (md : Bool) (nd : List (List Nat)) (LI : List Cl) (all : List Oper) : List Oper → St → List Stp → Option (XE × St)
  | [], S, acc => if ordD nd acc.reverse = true then some (.normal, S) else none
  | o :: r, S, acc => dThen acc (stepI X cl md LI all S o (lookI X.P LI S o)) (drwI X cl md nd LI all r)
def drwE (X : Ctx) (cl : CallFn) (md : Bool) (nd : List (List Nat)) (all : List Oper) (S : St) : Option (List Cl) → Option (XE × St)
  | some LI => drwI X cl md nd LI all all S []
  | none => none
def drwA (X : Ctx) (cl : CallFn) (md : Bool) (nd : List (List Nat)) (all : List Oper) (S : St) : List (Nat × Nat) → Option (XE × St)
  | [] => drwOps X cl md nd all all S []
  | q :: r => drwE X cl md nd all S (ents S.mem (q :: r))

/- Turns. -/
def St.adopt (S : St) (kb j k sz : Nat) : St :=
  match Mem.get S.mem kb, Mem.get S.mem k with
  | some ⟨_, vb, .box cs⟩, some ⟨_, v, _⟩ => match cs[j]? with
    | some (.lit (.slice none 0 0)) => if kb = k then S else { S with mem := Mem.set (Mem.set S.mem ⟨k, v + 1, .vec sz []⟩) ⟨kb, vb, .box (cs.set j (.vec k (v + 1) 0 0))⟩ }
    | _ => S
  | _, _ => S
def rkAV (k v k2 v2 : Nat) : AV → AV
  | .vec k0 v0 o l => if k0 = k ∧ v0 = v then .vec k2 v2 o l else .vec k0 v0 o l
  | x => x
def mapB (τ : AV → AV) : Mem → Mem
  | [] => []
  | e :: r => ⟨e.key, e.ver, mapC τ e.cont⟩ :: mapB τ r
/-- A vector is handed from one key to another. -/
def St.rekey (S : St) (k k2 : Nat) : St :=
  match Mem.get S.mem k, Mem.get S.mem k2 with
  | some ⟨_, v, .vec sz rows⟩, some ⟨_, v2, _⟩ => if k = k2 then S else { S with env := mapEnv (rkAV k v k2 (v2 + 1)) S.env, mem := Mem.set (Mem.set (mapB (rkAV k v k2 (v2 + 1)) S.mem) ⟨k, v + 1, .dead⟩) ⟨k2, v2 + 1, .vec sz rows⟩ }
  | _, _ => S
def Gh.go (S : St) : Gh → St
  | .trim k => S.trim1 k
  | .freeze k => S.freeze k
  | .adopt kb j k sz => S.adopt kb j k sz
  | .rekey k k2 => S.rekey k k2
def ghs (S : St) : List Gh → St
  | [] => S
  | g :: r => ghs (g.go S) r

/- Code. -/
def mapN (k : St → St) : Option (XE × St) → Option (XE × St)
  | some (.normal, S) => some (.normal, k S)
  | r => r
def inBlk (id : Nat) : Option (XE × St) → Option (XE × St)
  | some (.exit id', S) => if id' = id then some (.normal, S) else some (.exit id', S)
  | r => r
def iter (f : St → Option (XE × St)) : Nat → St → Option (XE × St)
  | 0, _ => none
  | n + 1, S => andThen (f S) (iter f n)
def condB (a b : Option (XE × St)) : Bool × AV → Option (XE × St)
  | (true, .d (.bool t)) => if t = true then a else b
  | _ => none
def St.leave (X : Ctx) (f : FuncId) (id : Nat) (S : St) : St := ghs (S.prune (X.keep f id)) (X.gh f id)
def den (X : Ctx) (f : FuncId) (cl : CallFn) (n : Nat) : Code → St → Option (XE × St)
  | .skip, S => some (.normal, S)
  | .region id ops draw, S => match draw with
    | false => mapN (St.leave X f id) (runOps X cl (X.md f id) ops.toList ops.toList S)
    | true => mapN (St.leave X f id) (drwA X cl (X.md f id) (X.od f id) ops.toList S (X.fl f id))
  | .seq a b, S => andThen (den X f cl n a S) (den X f cl n b)
  | .cond c a b, S => condB (den X f cl n a S) (den X f cl n b S) (S.opd c)
  | .block id c, S => inBlk id (den X f cl n c S)
  | .loop c, S => iter (den X f cl n c) n S
  | .exit id, S => some (.exit id, S)
  | .ret, S => some (.ret, S)
  | _, _ => none

/- Functions. -/
def fin (P : Program) (p : FPol) (n0 : Nat) (rs : List ResultVar) : Option (XE × St) → Option (Out × List (Nat × Cont))
  | some (.normal, S) => finish P p n0 rs S
  | some (.ret, S) => finish P p n0 rs S
  | some (.panic t x, S) => finPanic p n0 t x S
  | _ => none
def runFn (X : Ctx) (f : FuncId) (cl : CallFn) (n : Nat) (fn : Func) (c : Code) (args : List AV) (cs : List Cont) : Option (Out × List (Nat × Cont)) :=
  if (decide (args.length ≤ fn.ntmps) && decide (cs.length ≤ 100) && (X.fp f).sites.all (fun k => decide (100 ≤ k)) && decide (X.fp f).sites.Nodup) = true then
    fin X.P (X.fp f) cs.length fn.results.toList (den X f cl n c (entry fn.ntmps X.gl args cs (X.fp f).sites))
  else none
/-- What an empty list gives, be it nothing or not. -/
def emptyVec : Option (Out × List (Nat × Cont)) → Option Nat
  | some (.ret (.vec 0 0 0 0), [(0, .vec sz [])]) => some sz
  | _ => none
def splitRun (r1 r2 : Option (Out × List (Nat × Cont))) : Option (Out × List (Nat × Cont)) :=
  match emptyVec r1, emptyVec r2 with
  | some a, some b => if a = b then r1 else none
  | _, _ => none
def runSplit (run : List AV → Option (Out × List (Nat × Cont))) (args : List AV) : Bool → Option (Out × List (Nat × Cont))
  | true => match args with
    | .d (.list []) :: r => splitRun (run (.lit (.slice none 0 0) :: r)) (run (.nn :: r))
    | args => run args
  | false => run args
/-- What a function gives whose contract is had from elsewhere: data for data. -/
def orcAns (h : List D → Option D) (args : List AV) : List Cont → Option (Out × List (Nat × Cont))
  | [] => match toDs args with
    | some ds => match h ds with
      | some d => some (.ret (.d d), [])
      | none => none
    | none => none
  | _ :: _ => none
def callN (X : Ctx) : Nat → CallFn
  | 0, _, _, _ => none
  | n + 1, f, args, cs => match X.orc f with
    | some h => orcAns h args cs
    | none => match X.P.funcs[f]? with
      | some fn => match fn.body with
        | some c => runSplit (fun args => runFn X f (callN X n) n fn c args cs) args (X.fp f).split
        | none => none
      | none => none
end Go.Am
end
section
namespace Go.Am
open Go

def ClOk (X : Ctx) (cl : CallFn) : Prop := ∀ g args cs out l, cl g args cs = some (out, l) →
  callable X.P g = true ∧ Ev X.P X.gl g args (inM 0 cs) fun o m => o = out ∧ m = mkM 0 l

theorem run_callFunc {P : Program} {g : FuncId} {vs : Array Value} {w : World} (h : callable P g = true) : (callFunc g vs).run P w = .ok (.enter g vs) w := by
  unfold callable at h
  split at h
  · rename_i fn hf
    simp only [Bool.and_eq_true, Bool.not_eq_true'] at h
    have h1 : fn.body.isNone = false := by
      have := h.1
      cases hb : fn.body <;> simp_all
    have h2 : fn.name ≠ "runtime.NumGoroutine" := by simpa using h.2
    have h3 : fn.body ≠ none := by intro hb; simp [hb] at h1
    simp [callFunc, hf, h2, h3]
  · cases h

/- Where a call looks. -/
theorem get_none {m : Mem} {k : Nat} : Mem.get m k = none ↔ k ∉ m.map (·.key) := by
  induction m with
  | nil => simp [Mem.get]
  | cons e r ih =>
    simp only [Mem.get, List.map_cons, List.mem_cons, not_or]
    split
    · rename_i h; simp [h]
    · rename_i h; rw [ih]; constructor
      · exact fun hh => ⟨fun he => h he.symm, hh⟩
      · exact fun hh => hh.2
theorem isNone_keys {m m' : Mem} (hk : m'.map (·.key) = m.map (·.key)) (k : Nat) : (Mem.get m' k).isNone = (Mem.get m k).isNone := by
  have := get_none (m := m) (k := k)
  have h2 := get_none (m := m') (k := k)
  rw [hk, ← this] at h2
  cases h : Mem.get m k <;> cases h' : Mem.get m' k <;> simp_all

theorem collect_sub (m : Mem) : ∀ (n : Nat) (todo acc : List Nat), ∀ k ∈ acc, k ∈ collect m n todo acc
  | 0, todo, acc, k, h => h
  | n + 1, [], acc, k, h => h
  | n + 1, t :: todo, acc, k, h => by
    simp only [collect]
    split
    · exact collect_sub m n todo acc k h
    · exact collect_sub m n _ _ k (List.mem_append_left _ h)
theorem collect_loc {m m' : Mem} (hk : m'.map (·.key) = m.map (·.key)) : ∀ (n : Nat) (todo acc : List Nat), (∀ k ∈ collect m n todo acc, Mem.get m' k = Mem.get m k) → collect m' n todo acc = collect m n todo acc
  | 0, todo, acc, _ => rfl
  | n + 1, [], acc, _ => rfl
  | n + 1, t :: todo, acc, h => by
    simp only [collect, isNone_keys hk t] at h ⊢
    split
    · rename_i hc
      rw [hc] at h
      exact collect_loc hk n todo acc h
    · rename_i hc
      rw [hc] at h
      have e : Mem.get m' t = Mem.get m t := h t (collect_sub m n _ _ t (by simp))
      rw [e]
      exact collect_loc hk n _ _ h

mutual
theorem vw_loc {m m' : Mem} {ρ : List Nat} {bor : Nat → Bool} {nv : Nat → Nat → Nat} (hk : m'.map (·.key) = m.map (·.key)) (h : ∀ k, (k ∈ ρ ∨ bor k = true) → Mem.get m' k = Mem.get m k) : ∀ y : AV, vw m' ρ bor nv y = vw m ρ bor nv y
  | .ptr k ver off => by
    by_cases hkρ : k ∈ ρ
    · simp only [vw, h k (.inl hkρ)]
    · have h0 : ∀ m0 : Mem, vw m0 ρ bor nv (.ptr k ver off) = .junk := by
        intro m0
        simp only [vw, findK_none (ρ := ρ) (k := k) (j := 0) |>.2 hkρ]
        cases Mem.get m0 k <;> rfl
      rw [h0, h0]
  | .vec k ver off len => by
    by_cases hkρ : k ∈ ρ ∨ bor k = true
    · simp only [vw, h k hkρ]
    · simp only [not_or] at hkρ
      have h0 : ∀ m0 : Mem, vw m0 ρ bor nv (.vec k ver off len) = .junk := by
        intro m0
        simp only [vw, findK_none (ρ := ρ) (k := k) (j := 0) |>.2 hkρ.1, hkρ.2]
        cases Mem.get m0 k with
        | none => rfl
        | some e =>
          obtain ⟨_, _, c⟩ := e
          cases c <;> simp
      rw [h0, h0]
  | .eptr k ver i j => by
    by_cases hkρ : k ∈ ρ
    · simp only [vw, h k (.inl hkρ)]
    · have h0 : ∀ m0 : Mem, vw m0 ρ bor nv (.eptr k ver i j) = .junk := by
        intro m0
        simp only [vw, findK_none (ρ := ρ) (k := k) (j := 0) |>.2 hkρ]
        cases Mem.get m0 k <;> rfl
      rw [h0, h0]
  | .agg cs => by simp only [vw, vws_loc hk h cs]
  | .fn f cap => by simp only [vw, vws_loc hk h cap]
  | .tup vs => by simp only [vw, vws_loc hk h vs]
  | .junk => rfl
  | .d x => rfl
  | .rptr x j => rfl
  | .ifc t x => rfl
  | .lit v => rfl
  | .nn => rfl
theorem vws_loc {m m' : Mem} {ρ : List Nat} {bor : Nat → Bool} {nv : Nat → Nat → Nat} (hk : m'.map (·.key) = m.map (·.key)) (h : ∀ k, (k ∈ ρ ∨ bor k = true) → Mem.get m' k = Mem.get m k) : ∀ l : List AV, vws m' ρ bor nv l = vws m ρ bor nv l
  | [] => rfl
  | x :: r => by simp only [vws, vw_loc hk h x, vws_loc hk h r]
end
theorem selL_loc {m m' : Mem} {ρ : List Nat} {bor : Nat → Bool} {nv : Nat → Nat → Nat} (hk : m'.map (·.key) = m.map (·.key)) (h : ∀ k, (k ∈ ρ ∨ bor k = true) → Mem.get m' k = Mem.get m k) :
    ∀ (l : List Nat) (i : Nat), (∀ k ∈ l, k ∈ ρ) → selL m' ρ bor nv i l = selL m ρ bor nv i l
  | [], i, _ => rfl
  | k :: r, i, hl => by
    simp only [selL, h k (.inl (hl k (by simp))), selL_loc hk h r (i + 1) (fun x hx => hl x (by simp [hx]))]
    congr 1
    cases Mem.get m k with
    | none => rfl
    | some e =>
      simp only [selE, Prod.mk.injEq, true_and]
      cases e.cont with
      | box cs => simp only [selC, vws_loc hk h cs]
      | _ => rfl
theorem vwArgs_loc {m m' : Mem} {ρ B : List Nat} (hk : m'.map (·.key) = m.map (·.key)) (h : ∀ k, (k ∈ ρ ∨ B.contains k = true) → Mem.get m' k = Mem.get m k) : ∀ l : List AV, vwArgs m' ρ B l = vwArgs m ρ B l
  | [] => rfl
  | x :: r => by simp only [vwArgs, vw_loc (nv := nv0) hk h x, vwArgs_loc hk h r]
theorem base_loc {m m' : Mem} (d : Nat) : ∀ (l : List Nat), (∀ k ∈ l, Mem.get m' k = Mem.get m k) → base m' d l = base m d l
  | [], _ => rfl
  | k :: r, h => by simp only [base, h k (by simp), base_loc d r (fun x hx => h x (by simp [hx]))]
theorem frOk_loc {m m' : Mem} (ρ : List Nat) (hk : m'.map (·.key) = m.map (·.key)) : ∀ (l : List Nat), frOk m' ρ l = frOk m ρ l
  | [] => rfl
  | k :: r => by
    have : (Mem.get m' k).isSome = (Mem.get m k).isSome := by
      have := isNone_keys hk k
      cases h : Mem.get m k <;> cases h' : Mem.get m' k <;> simp_all
    simp only [frOk, this, frOk_loc ρ hk r]

theorem callOp_loc {cl : CallFn} {m m' : Mem} {k0 : Nat} {g : FuncId} {ys : List AV} {mt : List Nat} {res : CRes} (hk : m'.map (·.key) = m.map (·.key)) (h : callOp cl m k0 g ys mt = some res) (hs : ∀ k ∈ res.ks, Mem.get m' k = Mem.get m k) :
    callOp cl m' k0 g ys mt = some res := by
  unfold callOp callOp2 callOp3 at h ⊢
  obtain ⟨ρ, hρ⟩ : ∃ ρ, ρ = collect m 64 (argKeys mt 0 ys) [] := ⟨_, rfl⟩
  rw [← hρ] at h
  obtain ⟨B, hB⟩ : ∃ B, B = (argBor mt 0 ys).filter fun k => !ρ.contains k := ⟨_, rfl⟩
  rw [← hB] at h
  have hks : ∀ k, k ∈ ρ ∨ B.contains k = true → Mem.get m' k = Mem.get m k := by
    intro k hk2
    refine hs k ?_
    unfold callBack at h
    split at h
    · split at h
      · cases h
        simp only [List.mem_append]
        rcases hk2 with h1 | h1
        · exact .inl (.inl h1)
        · exact .inl (.inr (by simpa using h1))
      · cases h
    · cases h
  have e1 : collect m' 64 (argKeys mt 0 ys) [] = ρ := by
    rw [hρ]; exact collect_loc hk 64 _ _ (fun k hk2 => hks k (.inl (hρ ▸ hk2)))
  rw [e1, ← hB, vwArgs_loc hk hks, selL_loc hk hks ρ 0 (fun _ h => h), isNone_keys hk]
  unfold callBack at h ⊢
  split
  · rename_i out l2 hcl
    rw [hcl] at h
    simp only at h
    rw [frOk_loc ρ hk]
    split
    · rename_i hc
      rw [if_pos hc] at h
      cases h
      have e2 : ∀ d, base m' d ρ = base m d ρ := fun d => base_loc d ρ (fun k hk2 => hks k (.inl hk2))
      have e3 : ∀ d, base m' d (List.range' (k0 + 1) (l2.length - ρ.length)) = base m d (List.range' (k0 + 1) (l2.length - ρ.length)) := fun d => base_loc d _ (fun k hk2 => hs k (by simp only [List.mem_append]; exact .inr hk2))
      rw [e2, e3]
    · rename_i hc
      rw [if_neg hc] at h; cases h
  · rename_i hcl
    rw [hcl] at h; cases h

theorem argVals_get (S : St) : ∀ (l : List Operand) (i : Nat), (argVals S l)[i]? = (l[i]?).map fun x => (S.opd x).2
  | [], i => by simp [argVals]
  | x :: r, i => by cases i with | zero => simp [argVals] | succ i => simp [argVals, argVals_get S r i]
theorem argVals_length (S : St) : ∀ (l : List Operand), (argVals S l).length = l.length
  | [] => rfl
  | x :: r => by simp [argVals, argVals_length S r]
theorem vwArgs_get (m ρ B) : ∀ (l : List AV) (i : Nat), (vwArgs m ρ B l)[i]? = (l[i]?).map fun y => (vw m ρ (fun k => B.contains k) nv0 y).norm
  | [], i => by simp [vwArgs]
  | x :: r, i => by cases i with | zero => simp [vwArgs] | succ i => simp [vwArgs, vwArgs_get m ρ B r i]
theorem vwArgs_length (m ρ B) : ∀ (l : List AV), (vwArgs m ρ B l).length = l.length
  | [] => rfl
  | x :: r => by simp [vwArgs, vwArgs_length m ρ B r]
theorem inM_conts (m ρ bor) : ∀ (l : List Nat) (i j : Nat), inM i (conts (selL m ρ bor nv0 j l)) = mkM i (selL m ρ bor nv0 j l)
  | [], i, j => rfl
  | k :: r, i, j => by
    have : selE m ρ bor nv0 j (Mem.get m k) = (0, (selE m ρ bor nv0 j (Mem.get m k)).2) := by
      cases Mem.get m k <;> rfl
    simp only [selL]
    rw [this]
    simp only [conts, inM, mkM, inM_conts m ρ bor r (i + 1) (j + 1)]
theorem frOk_all {m : Mem} {ρ : List Nat} : ∀ {l : List Nat}, frOk m ρ l = true → ∀ k ∈ l, (Mem.get m k).isSome = true ∧ k ∉ ρ
  | [], _, k, hk => by simp at hk
  | x :: r, h, k, hk => by
    simp only [frOk, Bool.and_eq_true, Bool.not_eq_true', List.contains_eq_mem, decide_eq_false_iff_not] at h
    rcases List.mem_cons.1 hk with rfl | hk
    · exact h.1
    · exact frOk_all h.2 k hk
theorem plainL_all : ∀ {l : List (Nat × Cont)}, plainL l = true → ∀ e ∈ l, plainC e.2 = true
  | [], _, e, he => by simp at he
  | (v, c) :: r, h, e, he => by
    simp only [plainL, Bool.and_eq_true] at h
    rcases List.mem_cons.1 he with rfl | he
    · exact h.1
    · exact plainL_all h.2 e he

theorem mkM_get : ∀ (l : List (Nat × Cont)) (i k : Nat), i ≤ k → k < i + l.length → (Mem.get (mkM i l) k).isSome = true
  | [], i, k, h1, h2 => by simp at h2; omega
  | (v, c) :: r, i, k, h1, h2 => by
    simp only [mkM, Mem.get]
    split
    · rfl
    · rename_i hne
      exact mkM_get r (i + 1) k (by have hne2 : i ≠ k := hne; omega) (by simp at h2; omega)

theorem Ev.frz {P : Program} {gl f args} {cs : List Cont} {out : Out} {l2 : List (Nat × Cont)} (h : Ev P gl f args (inM 0 cs) fun o m => o = out ∧ m = mkM 0 l2) (hl : cs.length ≤ l2.length) :
    Ev P gl f args (inM 0 cs) fun o m => o = frzO cs.length l2 out ∧ m = mkM 0 (selL (mkM 0 l2) (List.range cs.length) (fun _ => true) (fun _ v => v) 0 (List.range cs.length)) := by
  intro φ G w vs hm hg hla ha
  refine (h φ G w vs hm hg hla ha).mono ?_
  rintro e w' ⟨φ', m', out', ⟨rfl, rfl⟩, hm', hk', hout⟩
  obtain ⟨s1, s2, s3⟩ := sel_mem (G1 := G) (ρ := List.range cs.length) (bor := fun _ => true) (nv := fun _ v => v) hm' List.nodup_range (fun k hk => mkM_get l2 0 k (Nat.zero_le _) (by simp at hk; omega)) (fun b h => .inl h) (fun b h => hm'.notG b h.own)
    (fun k e L hg _ _ hL ho => hm'.notG _ ⟨e, (Mem.get_mem hg).1, L, by rw [(Mem.get_mem hg).2]; exact hL, ho, rfl⟩)
  refine ⟨_, _, _, ⟨rfl, rfl⟩, s1, ⟨?_, hk'.old, ?_, hk'.size, hk'.os, hk'.tape, hk'.output⟩, ?_⟩
  · intro k L hL
    have hk : k < cs.length := by
      have := hm.dom k L hL
      rw [inM_mk, mkM_keys] at this
      simpa using this
    obtain ⟨L', h1, h2, h3⟩ := hk'.le k L hL
    exact ⟨L', by simp [Phi.sel, hk, h1], h2, h3⟩
  · intro b hb ho
    exact hk'.own b hb ((sel_own (φ := φ') (nv := fun _ v => v) (bor := fun _ => true) (fun k hk => mkM_get l2 0 k (Nat.zero_le _) (by simp at hk; omega)) b).1 ho).own
  · cases out' with
    | ret x =>
      cases e with
      | returned v => exact (s2 x v hout).norm
      | _ => exact hout.elim
    | panic t x =>
      cases e with
      | panicked chain =>
        obtain ⟨v, hc, hx⟩ := hout
        exact ⟨v, hc, hx.mono (fun _ _ _ => rfl) (Nat.le_refl _) (fun b _ => s3 b)⟩
      | _ => exact hout.elim

theorem conts_length : ∀ (l : List (Nat × Cont)), (conts l).length = l.length
  | [] => rfl
  | (_, _) :: r => by simp [conts, conts_length r]

theorem frzR_some {n0 : Nat} {b : Bool} {r : Option (Out × List (Nat × Cont))} {out : Out} {l : List (Nat × Cont)} (h : frzR n0 b r = some (out, l)) : ∃ out0 l0, r = some (out0, l0) ∧
    ((out = out0 ∧ l = l0) ∨ (n0 < l0.length ∧ out = frzO n0 l0 out0 ∧ l = selL (mkM 0 l0) (List.range n0) (fun _ => true) (fun _ v => v) 0 (List.range n0))) := by
  cases r with
  | none => cases h
  | some p =>
    obtain ⟨o0, l0⟩ := p
    refine ⟨o0, l0, rfl, ?_⟩
    simp only [frzR] at h
    split at h
    · rename_i hc
      simp only [Bool.and_eq_true, decide_eq_true_eq] at hc
      simp only [Option.some.injEq, Prod.mk.injEq] at h
      exact .inr ⟨hc.2, h.1.symm, h.2.symm⟩
    · simp only [Option.some.injEq, Prod.mk.injEq] at h
      exact .inl ⟨h.1.symm, h.2.symm⟩

theorem callOp_ok {X : Ctx} {cl : CallFn} (hcl : ClOk X cl) {S : St} {o : Oper} {fv : Operand} {args : Array Operand} {tys : Array TypeId} {g : FuncId} {caps : List AV} {k0 : Nat} {mt : List Nat} {res : CRes}
    (ho : o.op = .call { callee := .value fv, args, argTypes := tys }) (hfv : S.opd fv = (true, .fn g caps)) (hok : okAll S args.toList = true)
    (h : callOp cl S.mem k0 g (argVals S args.toList ++ caps) mt = some res) (hgl : S.gl = X.gl) {φ G a w} (hr : Rel φ G S a w) {next : Act → World → Prop} {R : Exit → Act → World → Prop}
    (hret : ∀ x, res.out = .ret x → ∀ φ' w' v, Rel φ' G { S with mem := putAll S.mem res.es } a w' → Keeps φ S.mem w φ' (putAll S.mem res.es) w' → AVRel φ' w' (Fo G φ' (putAll S.mem res.es)) x v → next (a.put o.dst v) w')
    (hpan : ∀ t x, res.out = .panic t x → ∀ φ' w' v, Rel φ' G { S with mem := putAll S.mem res.es } a w' → Keeps φ S.mem w φ' (putAll S.mem res.es) w' → DRel w' (Fo G φ' (putAll S.mem res.es)) x v → R (.panic [{ v := .iface t v, recovered := false }]) a w') : o.wp X.P a w next R := by
  unfold callOp callOp2 callOp3 at h
  obtain ⟨ρ, hρ⟩ : ∃ ρ, ρ = collect S.mem 64 (argKeys mt 0 (argVals S args.toList ++ caps)) [] := ⟨_, rfl⟩
  have hcol := collect_ok S.mem 64 (argKeys mt 0 (argVals S args.toList ++ caps)) [] List.nodup_nil (by simp)
  rw [← hρ] at h hcol
  generalize (argBor mt 0 (argVals S args.toList ++ caps)).filter (fun k => !ρ.contains k) = B at h
  clear hρ
  obtain ⟨hn, hall⟩ := hcol
  unfold callBack at h
  split at h
  · rename_i out l2 hcall
    split at h
    · rename_i hc
      cases h
      have hcall2 : callable X.P g = true ∧ Ev X.P X.gl g (vwArgs S.mem ρ B (argVals S args.toList ++ caps)) (inM 0 (conts (selL S.mem ρ (fun k => B.contains k) nv0 0 ρ))) fun o m => o = out ∧ m = mkM 0 l2 := by
        obtain ⟨out0, l0, h0, h1⟩ := frzR_some hcall
        obtain ⟨hc0, hev0⟩ := hcl _ _ _ _ _ h0
        refine ⟨hc0, ?_⟩
        rcases h1 with ⟨rfl, rfl⟩ | ⟨hlt, rfl, rfl⟩
        · exact hev0
        · have hcl2 : (conts (selL S.mem ρ (fun k => B.contains k) nv0 0 ρ)).length = ρ.length := by rw [conts_length, selL_length]
          have := hev0.frz (by rw [hcl2]; omega)
          rw [hcl2] at this
          exact this
      obtain ⟨hcallable, hev⟩ := hcall2
      simp only [Bool.and_eq_true, Bool.or_eq_true, decide_eq_true_eq] at hc
      obtain ⟨⟨hlen, hfr⟩, hpl⟩ := hc
      rw [inM_conts] at hev
      obtain ⟨v1, v2, v3⟩ := call_view (B := B) hr.mem hn hall
      have hfe := hr.opd fv (by rw [hfv])
      rw [hfv] at hfe
      generalize hfq : a.eval fv = fval at hfe
      cases hfe with
      | fn _ _ ca hlc hcr =>
        have hrun : (execOp a.eval o).run X.P w = .ok (.enter g (args.map a.eval ++ ca)) w := by
          simp [execOp, ho, resolve, hfq, Deferred.ofValue, invoke, run_callFunc hcallable]
        unfold Oper.wp
        rw [hrun]
        have hlenA : (vwArgs S.mem ρ B (argVals S args.toList ++ caps)).length = (args.map a.eval ++ ca).size := by
          rw [vwArgs_length, List.length_append, argVals_length]
          simp [hlc]
        have hav : ∀ (i : Nat) x v, (vwArgs S.mem ρ B (argVals S args.toList ++ caps))[i]? = some x → (args.map a.eval ++ ca)[i]? = some v → AVRel (φ.sel ρ nv0) w (Fo (GCall φ G S.mem ρ B) (φ.sel ρ nv0) (mkM 0 (selL S.mem ρ (fun k => B.contains k) nv0 0 ρ))) x v := by
          intro i x v hx hv
          rw [vwArgs_get] at hx
          obtain ⟨y, hy, rfl⟩ := Option.map_eq_some_iff.1 hx
          refine (v2 y v ?_).norm
          by_cases hi : i < args.size
          · rw [List.getElem?_append_left (by rw [argVals_length]; simpa using hi), argVals_get] at hy
            rw [Array.getElem?_append_left (by simpa using hi)] at hv
            simp only [Array.getElem?_map, Option.map_eq_some_iff] at hv
            obtain ⟨z, hz, rfl⟩ := hv
            obtain ⟨z', hz', rfl⟩ := Option.map_eq_some_iff.1 hy
            rw [Array.getElem?_toList, hz] at hz'
            cases hz'
            exact hr.opd z (okAll_mem hok z (by simpa using Array.mem_of_getElem? hz))
          · rw [List.getElem?_append_right (by rw [argVals_length]; simpa using hi), argVals_length] at hy
            rw [Array.getElem?_append_right (by simpa using hi)] at hv
            simp only [Array.size_map, Array.length_toList] at hy hv
            exact hcr _ _ v hy hv
        have hglob : GlobRel w (Fo (GCall φ G S.mem ρ B) (φ.sel ρ nv0) (mkM 0 (selL S.mem ρ (fun k => B.contains k) nv0 0 ρ))) X.gl := by
          rw [← hgl]
          exact hr.glob.mono (fun _ _ _ => rfl) (Nat.le_refl _) (fun b _ => v3 b)
        refine (hev (φ.sel ρ nv0) (GCall φ G S.mem ρ B) w _ v1 hglob hlenA hav).mono ?_
        rintro e w' ⟨φ2, m2, out', ⟨rfl, rfl⟩, hm2, hk2, hout⟩
        have hBpl : B = [] ∨ (plainO out' = true ∧ plainL l2 = true) := hpl.imp (by simp) id
        obtain ⟨φ', hm', hk', hup⟩ := call_back (B := B) hr.mem hn hall (fr := List.range' (k0 + 1) (l2.length - ρ.length)) List.nodup_range' (frOk_all hfr) hm2 hk2 (by simp; omega) (hBpl.imp id fun hp => plainL_all hp.2)
        have hr' := hr.turn hm' hk'
        cases out' with
        | ret x =>
          cases e with
          | returned v => exact hret _ rfl φ' w' v hr' hk' (hup x v (hBpl.imp id fun hp => hp.1) hout)
          | _ => exact hout.elim
        | panic t x =>
          cases e with
          | panicked chain =>
            obtain ⟨v, rfl, hx⟩ := hout
            have := hup (.d x) v (hBpl.imp id fun hp => hp.1) (.d _ _ hx)
            cases this with
            | d _ _ hd => exact hpan t x rfl φ' w' v hr' hk' hd
          | _ => exact hout.elim
    · cases h
  · cases h
end Go.Am
end
section
namespace Go.Am
open Go

/-- What is known of an end. -/
abbrev Is (e : XE) (S' : St) : XE → St → Prop := fun e' S'' => e' = e ∧ S'' = S'

/-- One operation is carried out. -/
def OpD (P : Program) (S : St) (o : Oper) (e : XE) (S' : St) : Prop :=
  S'.n = S.n ∧ S'.gl = S.gl ∧ (e = .normal ∨ ∃ t x, e = .panic t x) ∧ ∀ φ G a w, Rel φ G S a w → ∀ (next : Act → World → Prop) (R : Exit → Act → World → Prop),
    (e = .normal → ∀ φ' a' w', Rel φ' G S' a' w' → Keeps φ S.mem w φ' S'.mem w' → next a' w') →
    (∀ t x, e = .panic t x → ∀ φ' a' w' v, Rel φ' G S' a' w' → Keeps φ S.mem w φ' S'.mem w' → DRel w' (Fo G φ' S'.mem) x v → R (.panic [{ v := .iface t v, recovered := false }]) a' w') → o.wp P a w next R

theorem put_gl (S : St) (d g x) : (S.put d g x).gl = S.gl := by cases d <;> rfl

section
variable {X : Ctx} {cl : CallFn} {S S' : St} {o : Oper} {e : XE}

theorem opD_val {c : Bool} {x : AV} {gb : Bool} (hs : stepv X.P S o = .val c x) (hok : (opOk S o && c) = true) (hd : ∀ t, o.dst = some t → t < S.n) : OpD X.P S o .normal (S.put o.dst gb x) := by
  simp only [Bool.and_eq_true] at hok
  have := stepv_ok X.P S o hok.1
  rw [hs] at this
  refine ⟨put_n .., put_gl .., .inl rfl, fun φ G a w hr next R hn _ => ?_⟩
  exact val_step this hok.2 hr hd (fun a' w' hr' hk' => hn rfl φ a' w' hr' (by rw [put_mem]; exact hk'))
theorem opD_upd {c : Bool} {x : AV} {ent : Ent} (hs : stepv X.P S o = .upd c x ent) (hok : (opOk S o && c) = true) (hd : ∀ t, o.dst = some t → t < S.n) : OpD X.P S o .normal (({ S with mem := Mem.set S.mem ent } : St).put o.dst true x) := by
  simp only [Bool.and_eq_true] at hok
  have := stepv_ok X.P S o hok.1
  rw [hs] at this
  refine ⟨put_n .., put_gl .., .inl rfl, fun φ G a w hr next R hn _ => ?_⟩
  exact upd_step this hok.2 hr hd (fun φ' a' w' hr' hk' => hn rfl φ' a' w' hr' (by rw [put_mem]; exact hk'))

theorem callVal_some {args : List Operand} {fv : Bool × AV} {res : CRes} (h : callVal X cl S o args fv = some res) : ∃ g caps, fv = (true, .fn g caps) ∧ okAll S args = true ∧ callOp cl S.mem (keyOf o) g (argVals S args ++ caps) (X.fp g).mut_ = some res := by
  unfold callVal at h
  split at h
  · rename_i g caps
    split at h
    · rename_i hok; exact ⟨g, caps, rfl, hok, h⟩
    · cases h
  · cases h

theorem opD_call (hcl : ClOk X cl) {fv : Operand} {args : Array Operand} {tys : Array TypeId} (ho : o.op = .call { callee := .value fv, args, argTypes := tys }) (hgl : S.gl = X.gl) (hd : ∀ t, o.dst = some t → t < S.n)
    (h : putC S o.dst (callVal X cl S o args.toList (S.opd fv)) = some (e, S')) : OpD X.P S o e S' := by
  cases hcv : callVal X cl S o args.toList (S.opd fv) with
  | none => rw [hcv] at h; cases h
  | some res =>
    rw [hcv] at h
    obtain ⟨g, caps, hfv, hok, hcall⟩ := callVal_some hcv
    obtain ⟨out, es, ks⟩ := res
    cases out with
    | ret x =>
      simp only [putC, Option.some.injEq, Prod.mk.injEq] at h
      obtain ⟨rfl, rfl⟩ := h
      refine ⟨put_n .., put_gl .., .inl rfl, fun φ G a w hr next R hn _ => ?_⟩
      refine callOp_ok hcl ho hfv hok hcall hgl hr (fun x' hx φ' w' v hr' hk' hv => ?_) (fun t x' hx => by cases hx)
      cases hx
      exact hn rfl φ' _ w' (hr'.put o.dst hd true x v (fun _ => hv)) (by rw [put_mem]; exact hk')
    | panic t x =>
      simp only [putC, Option.some.injEq, Prod.mk.injEq] at h
      obtain ⟨rfl, rfl⟩ := h
      refine ⟨rfl, rfl, .inr ⟨t, x, rfl⟩, fun φ G a w hr next R _ hp => ?_⟩
      refine callOp_ok hcl ho hfv hok hcall hgl hr (fun x' hx => by cases hx) (fun t' x' hx φ' w' v hr' hk' hv => ?_)
      cases hx
      exact hp t x rfl φ' a w' v hr' hk' hv

theorem opD_panic {x : Operand} (ho : o.op = .panic x) (h : panicVal S (S.opd x) = some (e, S')) : OpD X.P S o e S' := by
  cases hx : S.opd x with
  | mk g y =>
    rw [hx] at h
    unfold panicVal at h
    split at h
    · rename_i t d heq
      cases heq
      simp only [Option.some.injEq, Prod.mk.injEq] at h
      obtain ⟨rfl, rfl⟩ := h
      refine ⟨rfl, rfl, .inr ⟨t, d, rfl⟩, fun φ G a w hr next R _ hp => ?_⟩
      have hv := hr.opd x (by rw [hx])
      rw [hx] at hv
      generalize hev : a.eval x = u at hv
      cases hv with
      | ifc _ _ v hd =>
        have hrun : (execOp a.eval o).run X.P w = .halt (.panic (.iface t v)) w := by
          simp [execOp, ho, hev, Instr.panic]
        unfold Oper.wp
        rw [hrun]
        exact hp t d rfl φ a w v hr (Keeps.refl ..) hd
    · cases h

theorem stepOp_ok (hcl : ClOk X cl) (hgl : S.gl = X.gl) (hd : ∀ t, o.dst = some t → t < S.n) (h : stepOp X cl S o (stepv X.P S o) = some (e, S')) : OpD X.P S o e S' := by
  generalize hs : stepv X.P S o = r at h
  cases r with
  | val c x =>
    simp only [stepOp] at h
    split at h
    · rename_i hok; cases h; exact opD_val hs hok hd
    · cases h
  | upd c x ent =>
    simp only [stepOp] at h
    split at h
    · rename_i hok; cases h; exact opD_upd hs hok hd
    · cases h
  | no =>
    simp only [stepOp, specOp] at h
    split at h
    · rename_i fv args tys ho; exact opD_call hcl ho hgl hd h
    · rename_i x ho; exact opD_panic ho h
    · cases h

/-- An operation of a region, its guard regarded. -/
def GopD (P : Program) (all : List Oper) (S : St) (o : Oper) (e : XE) (S' : St) : Prop :=
  S'.n = S.n ∧ S'.gl = S.gl ∧ (e = .normal ∨ ∃ t x, e = .panic t x) ∧ ∀ φ G a w, Rel φ G S a w → ∀ (next : Act → World → Prop) (R : Exit → Act → World → Prop),
    (e = .normal → ∀ φ' a' w', Rel φ' G S' a' w' → Keeps φ S.mem w φ' S'.mem w' → next a' w') →
    (∀ t x, e = .panic t x → ∀ φ' a' w' v, Rel φ' G S' a' w' → Keeps φ S.mem w φ' S'.mem w' → DRel w' (Fo G φ' S'.mem) x v → R (.panic [{ v := .iface t v, recovered := false }]) a' w') →
    if Region.wanted o (yielded all.toArray a.tmps) then o.wp P a w next R else next (a.put o.dst undef) w

theorem gop_yes {all : List Oper} (h : OpD X.P S o e S') (hw : ∀ φ G a w, Rel φ G S a w → Region.wanted o (yielded all.toArray a.tmps) = true) : GopD X.P all S o e S' := by
  obtain ⟨h1, h2, h3, h4⟩ := h
  refine ⟨h1, h2, h3, fun φ G a w hr next R hn hp => ?_⟩
  rw [if_pos (hw φ G a w hr)]
  exact h4 φ G a w hr next R hn hp
theorem undef_rel {φ : Phi} {w : World} {F : Nat → Prop} {x : AV} (hx : x = .junk ∨ x = .tup []) : AVRel φ w F x undef := by
  rcases hx with rfl | rfl
  · exact .junk _
  · exact .tup [] #[] rfl (fun i c v h => by simp at h)
theorem skip_yield {all : List Oper} {j : Nat} {φ G a w} (h : Rel φ G S a w) (hg : grd all S j = some (true, .tup [])) : yielded all.toArray a.tmps j = none := by
  unfold grd at hg
  split at hg
  · rename_i o ho
    split at hg
    · rename_i t ht
      have h1 := h.env t _ hg
      unfold yielded
      simp only [List.getElem?_toArray, ho, Option.bind_some, ht]
      rw [Array.getD_eq_getD_getElem?] at h1
      cases hq : a.tmps[t]? with
      | none => rfl
      | some v =>
        rw [hq] at h1
        simp only [Option.getD_some] at h1
        cases h1
        rfl
    · cases hg
  · cases hg
theorem gop_no {all : List Oper} {gb : Bool} {x : AV} (hx : gb = true → x = .junk ∨ x = .tup []) (hd : ∀ t, o.dst = some t → t < S.n) (hw : ∀ φ G a w, Rel φ G S a w → Region.wanted o (yielded all.toArray a.tmps) = false) : GopD X.P all S o .normal (S.put o.dst gb x) := by
  refine ⟨put_n .., put_gl .., .inl rfl, fun φ G a w hr next R hn _ => ?_⟩
  rw [if_neg (by rw [hw φ G a w hr]; simp)]
  exact hn rfl φ _ w (hr.put o.dst hd gb x undef (fun hg => undef_rel (hx hg))) (by rw [put_mem]; exact Keeps.refl ..)

theorem wanted_of {all : List Oper} {j : Nat} {want t : Bool} (hg : o.guard = some (j, want)) (hgr : grd all S j = some (true, .d (.bool t))) {φ G a w} (hr : Rel φ G S a w) : Region.wanted o (yielded all.toArray a.tmps) = (t == want) := by
  have hy := grd_yield hr hgr
  simp only [Region.wanted, hg, hy]
  cases t <;> cases want <;> rfl

theorem cz_n (S : St) (d b) : (S.cz d b).n = S.n := put_n ..
theorem cz_gl (S : St) (d b) : (S.cz d b).gl = S.gl := put_gl ..
theorem cz_mem (S : St) (d b) : (S.cz d b).mem = S.mem := put_mem ..
theorem cz_lk {all : List Oper} {S : St} {j : Nat} {t b : Bool} (hgr : grd all S j = some (true, .d (.bool t))) (hb : t = b) (u : Nat) : Env.lk (S.cz (dstAt all j) b).env u = Env.lk S.env u := by
  subst hb
  unfold grd at hgr
  unfold St.cz dstAt
  split at hgr
  · rename_i oj hj
    split at hgr
    · rename_i d hd
      simp only [hj, hd, St.put, Env.lk]
      split
      · rename_i hu; subst hu; exact hgr.symm
      · rfl
    · cases hgr
  · cases hgr
theorem cz_rel {all : List Oper} {S : St} {j : Nat} {t b : Bool} (hgr : grd all S j = some (true, .d (.bool t))) (hb : t = b) {φ G a w} (hr : Rel φ G S a w) : Rel φ G (S.cz (dstAt all j) b) a w :=
  Rel.eqv hr ⟨(cz_n ..).symm, (cz_gl ..).symm, (cz_mem ..).symm, fun u => (cz_lk hgr hb u).symm⟩

theorem gstep_ok {all : List Oper} (hcl : ClOk X cl) (hgl : S.gl = X.gl) (hd : ∀ t, o.dst = some t → t < S.n) {md : Bool} (h : gstep X cl md all S o = some (e, S')) : GopD X.P all S o e S' := by
  unfold gstep at h
  split at h
  · rename_i hg
    exact gop_yes (stepOp_ok hcl hgl hd h) (fun _ _ _ _ _ => by simp [Region.wanted, hg])
  · rename_i j want hg
    split at h
    · rename_i t hgr
      replace hgr := gval_tru hgr
      have hw : ∀ φ G a w, Rel φ G S a w → Region.wanted o (yielded all.toArray a.tmps) = (t == want) := fun φ G a w hr => wanted_of hg hgr hr
      have other : ∀ {r : Res}, stepv X.P S o = r → (if (t == want) = true then stepOp X cl S o r else some (.normal, S.put o.dst true .junk)) = some (e, S') → GopD X.P all S o e S' := by
        intro r hs h
        split at h
        · rename_i hb
          exact gop_yes (stepOp_ok hcl hgl hd (by rw [hs]; exact h)) (fun φ G a w hr => by rw [hw φ G a w hr]; exact hb)
        · rename_i hb
          cases h
          exact gop_no (fun _ => .inl rfl) hd (fun φ G a w hr => by rw [hw φ G a w hr]; simpa using hb)
      cases md with
      | true =>
        simp only at h
        have hcz : ∀ b, t = b → ∀ φ G a w, Rel φ G S a w → Rel φ G (S.cz (dstAt all j) b) a w := fun b hb φ G a w hr => cz_rel hgr hb hr
        split at h
        · rename_i hb
          have hb' : t = want := by simpa using hb
          have := stepOp_ok (S := S.cz (dstAt all j) want) hcl (by rw [cz_gl]; exact hgl) (fun t ht => by rw [cz_n]; exact hd t ht) h
          obtain ⟨h1, h2, h3, h4⟩ := this
          refine gop_yes ⟨by rw [h1, cz_n], by rw [h2, cz_gl], h3, fun φ G a w hr next R hn hp => ?_⟩ (fun φ G a w hr => by rw [hw φ G a w hr]; exact hb)
          have h5 := h4 φ G a w (hcz want hb' φ G a w hr) next R
          rw [cz_mem] at h5
          exact h5 hn hp
        · rename_i hb
          have hb' : t = !want := by cases t <;> cases want <;> simp_all
          cases h
          refine ⟨by rw [put_n, cz_n], by rw [put_gl, cz_gl], .inl rfl, fun φ G a w hr next R hn _ => ?_⟩
          rw [if_neg (by rw [hw φ G a w hr]; simpa using hb)]
          exact hn rfl φ _ w ((hcz _ hb' φ G a w hr).put o.dst (fun t ht => by rw [cz_n]; exact hd t ht) true (.tup []) undef (fun _ => undef_rel (.inr rfl))) (by rw [put_mem, cz_mem]; exact Keeps.refl ..)
      | false =>
      simp only at h
      unfold guardOp at h
      split at h
      · rename_i c x hs
        split at h
        · rename_i hc
          cases h
          cases hb : (t == want)
          · exact gop_no (by simp) hd (fun φ G a w hr => by rw [hw φ G a w hr]; exact hb)
          · exact gop_yes (opD_val hs (hc hb) hd) (fun φ G a w hr => by rw [hw φ G a w hr]; exact hb)
        · cases h
      · rename_i r hr
        exact other rfl h
    · rename_i hgr
      replace hgr := gval_skip hgr
      cases h
      exact gop_no (fun _ => .inr rfl) hd (fun φ G a w hr => by
        simp only [Region.wanted, hg, skip_yield hr hgr]
        cases want <;> rfl)
    · cases h

theorem andThen_some {r : Option (XE × St)} {k : St → Option (XE × St)} {y : XE × St} (h : andThen r k = some y) : (∃ S1, r = some (.normal, S1) ∧ k S1 = some y) ∨ (r = some y ∧ y.1 ≠ .normal) := by
  unfold andThen at h
  split at h
  · rename_i S1; exact .inl ⟨S1, rfl, h⟩
  · rename_i hr
    refine .inr ⟨h, fun he => ?_⟩
    obtain ⟨e, S1⟩ := y
    simp only at he
    subst he
    exact hr S1 h

theorem Keeps.post {n : Nat} {φ φ' : Phi} {G : Nat → Prop} {m : Mem} {w w' : World} {e : XE} {S' : St} {a' : Act} (hn : S'.n = n) (hr : Rel φ' G S' a' w') (hk : Keeps φ m w φ' S'.mem w') (he : e = .normal) : Post n φ G m w (Is e S') .normal a' w' :=
  ⟨φ', S', hn, ⟨he.symm, rfl⟩, hr, hk⟩

theorem runOps_ok {md : Bool} {all : List Oper} (hcl : ClOk X cl) : ∀ (ops : List Oper) (S : St) (e : XE) (S' : St), runOps X cl md all ops S = some (e, S') → S.gl = X.gl → dstsOk S.n ops = true →
    S'.n = S.n ∧ S'.gl = S.gl ∧ ∀ φ G a w, Rel φ G S a w → ∀ Q : Exit → Act → World → Prop, (∀ e' a' w', Post S.n φ G S.mem w (Is e S') e' a' w' → Q e' a' w') → wpList X.P all.toArray Q ops a w
  | [], S, e, S', h, hgl, hd => by
    simp only [runOps, Option.some.injEq, Prod.mk.injEq] at h
    obtain ⟨rfl, rfl⟩ := h
    exact ⟨rfl, rfl, fun φ G a w hr Q hQ => hQ _ _ _ (Keeps.post rfl hr (Keeps.refl ..) rfl)⟩
  | o :: rest, S, e, S', h, hgl, hd => by
    simp only [dstsOk, List.all_cons, Bool.and_eq_true] at hd
    obtain ⟨hd0, hd⟩ := hd
    have hdo : ∀ t, o.dst = some t → t < S.n := fun t ht => by rw [ht] at hd0; simpa using hd0
    simp only [runOps] at h
    rcases andThen_some h with ⟨S1, h1, h2⟩ | ⟨h1, h2⟩
    · obtain ⟨hn1, hg1, _, hop⟩ := gstep_ok hcl hgl hdo h1
      obtain ⟨hn2, hg2, hrest⟩ := runOps_ok hcl rest S1 e S' h2 (hg1.trans hgl) (by rw [hn1]; exact hd)
      refine ⟨hn2.trans hn1, hg2.trans hg1, fun φ G a w hr Q hQ => ?_⟩
      have := hop φ G a w hr (wpList X.P all.toArray Q rest) Q
        (fun _ φ' a' w' hr' hk' => hrest φ' G a' w' hr' Q (fun e' a2 w2 hp => hQ e' a2 w2 (by rw [← hn1]; exact hp.weaken hk'))) (fun t x he => by cases he)
      unfold wpList
      split
      · rename_i hw; rw [if_pos hw] at this; exact .inl this
      · rename_i hw; rw [if_neg hw] at this; exact this
    · obtain ⟨hn1, hg1, hee, hop⟩ := gstep_ok hcl hgl hdo h1
      refine ⟨hn1, hg1, fun φ G a w hr Q hQ => ?_⟩
      have := hop φ G a w hr (wpList X.P all.toArray Q rest) Q
        (fun he => absurd he h2) (fun t x he φ' a' w' v hr' hk' hv => hQ _ _ _ ⟨φ', S', t, x, v, rfl, hv, hn1, ⟨he.symm, rfl⟩, hr', hk'⟩)
      unfold wpList
      split
      · rename_i hw; rw [if_pos hw] at this; exact .inl this
      · rename_i hw; rw [if_neg hw] at this; exact this

/- Regions that draw their order. -/
theorem agree_opd {all : List Oper} {ks : List Nat} {S' S : St} (h : Agree all o ks S' S) {x : Operand} (hx : x ∈ o.op.operands.toList) : S'.opd x = S.opd x := by
  cases x with
  | tmp t =>
    simp only [St.opd]
    rw [h.env t (by simp only [looks, List.mem_append, List.mem_filterMap]; exact .inl ⟨.tmp t, hx, rfl⟩)]
  | global g => simp only [St.opd, h.gl]
  | _ => rfl
theorem agree_grd {all : List Oper} {ks : List Nat} {S' S : St} (h : Agree all o ks S' S) {j want} (hg : o.guard = some (j, want)) : Am.grd all S' j = Am.grd all S j := by
  unfold Am.grd
  split
  · rename_i oj hj
    split
    · rename_i t ht
      exact h.env t (by simp only [looks, List.mem_append, hg, lkDst, hj, ht]; exact .inr (by simp))
    · rfl
  · rfl
theorem okAll_loc {S' S : St} : ∀ {l : List Operand}, (∀ x ∈ l, S'.opd x = S.opd x) → okAll S' l = okAll S l
  | [], _ => rfl
  | x :: r, h => by simp only [okAll, h x (by simp), okAll_loc (l := r) (fun y hy => h y (List.mem_cons_of_mem _ hy))]
theorem argVals_loc {S' S : St} : ∀ {l : List Operand}, (∀ x ∈ l, S'.opd x = S.opd x) → argVals S' l = argVals S l
  | [], _ => rfl
  | x :: r, h => by simp only [argVals, h x (by simp), argVals_loc (l := r) (fun y hy => h y (List.mem_cons_of_mem _ hy))]
theorem opOk_loc {S' S : St} (h : ∀ x ∈ o.op.operands.toList, S'.opd x = S.opd x) : opOk S' o = opOk S o := by
  unfold opOk
  split
  · rfl
  · exact okAll_loc h

theorem stepL_val {all : List Oper} {c : Bool} {x : AV} {gb : Bool} (hd : ∀ t, o.dst = some t → t < S.n) (hs : stepv X.P S o = .val c x) (hok : (opOk S o && c) = true)
    (hw : ∀ S', Agree all o (touch S o) S' S → ∀ φ G a w, Rel φ G S' a w → Region.wanted o (yielded all.toArray a.tmps) = true) : StepL X.P all S o ⟨touch S o, [], gb, x⟩ := by
  intro S' ha φ G a w hr next R hn
  rw [if_pos (hw S' ha φ G a w hr)]
  have hx : ∀ x ∈ o.op.operands.toList, S'.opd x = S.opd x := fun x hx => agree_opd ha hx
  have hs' : stepv X.P S' o = .val c x := by rw [stepv_loc hx ha.mem]; exact hs
  obtain ⟨_, _, _, h4⟩ := opD_val (gb := gb) hs' (by rw [opOk_loc hx]; exact hok) (fun t ht => by rw [ha.n]; exact hd t ht)
  exact h4 φ G a w hr next R (fun _ φ' a' w' hr' hk' => hn φ' a' w' hr' hk') (fun t x he => by cases he)
theorem stepL_upd {all : List Oper} {c : Bool} {x : AV} {ent : Ent} (hd : ∀ t, o.dst = some t → t < S.n) (hs : stepv X.P S o = .upd c x ent) (hok : (opOk S o && c) = true)
    (hw : ∀ S', Agree all o (touch S o) S' S → ∀ φ G a w, Rel φ G S' a w → Region.wanted o (yielded all.toArray a.tmps) = true) : StepL X.P all S o ⟨touch S o, [ent], true, x⟩ := by
  intro S' ha φ G a w hr next R hn
  rw [if_pos (hw S' ha φ G a w hr)]
  have hx : ∀ x ∈ o.op.operands.toList, S'.opd x = S.opd x := fun x hx => agree_opd ha hx
  have hs' : stepv X.P S' o = .upd c x ent := by rw [stepv_loc hx ha.mem]; exact hs
  obtain ⟨_, _, _, h4⟩ := opD_upd hs' (by rw [opOk_loc hx]; exact hok) (fun t ht => by rw [ha.n]; exact hd t ht)
  exact h4 φ G a w hr next R (fun _ φ' a' w' hr' hk' => hn φ' a' w' hr' hk') (fun t x he => by cases he)
theorem stepL_skip {all : List Oper} {ks : List Nat} {gb : Bool} {x : AV} (hd : ∀ t, o.dst = some t → t < S.n) (hx : gb = true → x = .junk ∨ x = .tup [])
    (hw : ∀ S', Agree all o ks S' S → ∀ φ G a w, Rel φ G S' a w → Region.wanted o (yielded all.toArray a.tmps) = false) : StepL X.P all S o ⟨ks, [], gb, x⟩ := by
  intro S' ha φ G a w hr next R hn
  rw [if_neg (by rw [hw S' ha φ G a w hr]; simp)]
  exact hn φ _ w (hr.put o.dst (fun t ht => by rw [ha.n]; exact hd t ht) gb x undef (fun hg => undef_rel (hx hg))) (by simp only [Stp.app, put_mem]; exact Keeps.refl ..)
theorem stepL_call {all : List Oper} (hcl : ClOk X cl) (hgl : S.gl = X.gl) (hd : ∀ t, o.dst = some t → t < S.n) {fv : Operand} {args : Array Operand} {tys : Array TypeId} (ho : o.op = .call { callee := .value fv, args, argTypes := tys })
    {x : AV} {es : List Ent} {ks : List Nat} (h : callVal X cl S o args.toList (S.opd fv) = some ⟨.ret x, es, ks⟩)
    (hw : ∀ S', Agree all o ks S' S → ∀ φ G a w, Rel φ G S' a w → Region.wanted o (yielded all.toArray a.tmps) = true) : StepL X.P all S o ⟨ks, es, true, x⟩ := by
  intro S' ha φ G a w hr next R hn
  rw [if_pos (hw S' ha φ G a w hr)]
  have hx : ∀ x ∈ o.op.operands.toList, S'.opd x = S.opd x := fun x hx => agree_opd ha hx
  have hxa : ∀ x ∈ args.toList, S'.opd x = S.opd x := fun x hxm => hx x (by simp [ho, Op.operands, Call.operands]; exact .inr (by simpa using hxm))
  obtain ⟨g, caps, hfv, hok, hcall⟩ := callVal_some h
  have hfv' : S'.opd fv = (true, .fn g caps) := by rw [hx fv (by simp [ho, Op.operands, Call.operands])]; exact hfv
  have hcall' : callOp cl S'.mem (keyOf o) g (argVals S' args.toList ++ caps) (X.fp g).mut_ = some ⟨.ret x, es, ks⟩ := by
    rw [argVals_loc hxa]
    exact callOp_loc ha.keys hcall (fun k hk => ha.mem k hk)
  refine callOp_ok hcl ho hfv' (by rw [okAll_loc hxa]; exact hok) hcall' (ha.gl.trans hgl) hr (fun x' hx' φ' w' v hr' hk' hv => ?_) (fun t x' hx' => by cases hx')
  cases hx'
  exact hn φ' _ w' (hr'.put o.dst (fun t ht => by show t < S'.n; rw [ha.n]; exact hd t ht) true x v (fun _ => hv)) (by simp only [Stp.app, put_mem]; exact hk')

theorem dstep_ok {all : List Oper} {S1 : St} {p : Stp} (hcl : ClOk X cl) (hgl : S.gl = X.gl) (hd : ∀ t, o.dst = some t → t < S.n) {r : Res} (hs : stepv X.P S o = r) (h : dstep X cl S o r = some (S1, p))
    (hw : ∀ (ks : List Nat) S', Agree all o ks S' S → ∀ φ G a w, Rel φ G S' a w → Region.wanted o (yielded all.toArray a.tmps) = true) : S1 = p.app o S ∧ (∀ e ∈ p.es, e.key ∈ p.ks) ∧ StepL X.P all S o p := by
  cases r with
  | val c x =>
    simp only [dstep] at h
    split at h
    · rename_i hok; cases h; exact ⟨rfl, by simp, stepL_val hd hs hok (hw _)⟩
    · cases h
  | upd c x ent =>
    simp only [dstep] at h
    split at h
    · rename_i hok
      cases h
      simp only [Bool.and_eq_true, List.contains_eq_mem, decide_eq_true_eq] at hok
      exact ⟨rfl, by simpa using hok.2, stepL_upd hd hs (by simpa using hok.1) (hw _)⟩
    · cases h
  | no =>
    simp only [dstep, dspec] at h
    split at h
    · rename_i fv args tys ho
      cases hcv : callVal X cl S o args.toList (S.opd fv) with
      | none => rw [hcv] at h; cases h
      | some res =>
        rw [hcv] at h
        obtain ⟨out, es, ks⟩ := res
        cases out with
        | panic => cases h
        | ret x =>
          cases h
          refine ⟨rfl, ?_, stepL_call hcl hgl hd ho hcv (hw _)⟩
          obtain ⟨g, caps, hfv, hok, hcall⟩ := callVal_some hcv
          unfold callOp callOp2 callOp3 callBack at hcall
          split at hcall
          · rename_i out l2 _
            split at hcall
            · rename_i hc
              simp only [Bool.and_eq_true, decide_eq_true_eq] at hc
              simp only [Option.some.injEq, CRes.mk.injEq] at hcall
              obtain ⟨_, rfl, rfl⟩ := hcall
              intro e he
              obtain ⟨j, v, c, hj, rfl⟩ := backL_mem.1 he
              have hjl := (List.getElem?_eq_some_iff.1 hj).1
              simp only [Nat.zero_add]
              generalize collect S.mem 64 (argKeys (X.fp g).mut_ 0 (argVals S args.toList ++ caps)) [] = ρ at hc hjl ⊢
              have hlt : j < (ρ ++ List.range' (keyOf o + 1) (l2.length - ρ.length)).length := by simp; omega
              have hm := List.getElem_mem hlt
              have e2 : (ρ ++ List.range' (keyOf o + 1) (l2.length - ρ.length)).getD j 0 = (ρ ++ List.range' (keyOf o + 1) (l2.length - ρ.length))[j] := by
                rw [List.getD_eq_getElem?_getD, List.getElem?_eq_getElem hlt]; rfl
              rw [e2]
              rcases List.mem_append.1 hm with h1 | h1
              · exact List.mem_append_left _ (List.mem_append_left _ h1)
              · exact List.mem_append_right _ h1
            · cases hcall
          · cases hcall
    · cases h
theorem Eqv.refl (S : St) : Eqv S S := ⟨rfl, rfl, rfl, fun _ => rfl⟩
theorem Eqv.symm {S S' : St} (h : Eqv S S') : Eqv S' S := ⟨h.n.symm, h.gl.symm, h.mem.symm, fun t => (h.env t).symm⟩
theorem Eqv.trans {S S' S'' : St} (h : Eqv S S') (k : Eqv S' S'') : Eqv S S'' := ⟨h.n.trans k.n, h.gl.trans k.gl, h.mem.trans k.mem, fun t => (h.env t).trans (k.env t)⟩
theorem Eqv.app {S S' : St} (h : Eqv S S') (p : Stp) (o : Oper) : Eqv (p.app o S) (p.app o S') :=
  ⟨by rw [app_n, app_n, h.n], by rw [app_gl, app_gl, h.gl], by simp only [Stp.app, put_mem, h.mem], fun t => by rw [app_lk, app_lk, h.env]⟩
theorem Agree.eqv {all : List Oper} {ks : List Nat} {S' S S0 : St} (h : Agree all o ks S' S) (he : Eqv S S0) : Agree all o ks S' S0 :=
  ⟨h.n.trans he.n, h.gl.trans he.gl, by rw [h.keys, he.mem], fun t ht => (h.env t ht).trans (he.env t), fun k hk => by rw [h.mem k hk, he.mem]⟩
theorem StepL.eqv {P : Program} {all : List Oper} {S S0 : St} {p : Stp} (h : StepL P all S o p) (he : Eqv S S0) : StepL P all S0 o p := fun S' ha => h S' (ha.eqv he.symm)
theorem StepI.eqv {P : Program} {I : Mem → Prop} {all : List Oper} {S S0 : St} {p : Stp} (h : StepI P I all S o p) (he : Eqv S S0) : StepI P I all S0 o p := fun S' ha => h S' (ha.eqv he.symm)
theorem cert_eqv {P : Program} {I : Mem → Prop} {all ops : List Oper} {S S1 : St} {ps : List Stp} (h : Cert P I all ops S ps S1) : ∀ {S0 : St}, Eqv S S0 → ∃ S2, Cert P I all ops S0 ps S2 ∧ Eqv S1 S2 := by
  induction h with
  | nil S => exact fun he => ⟨_, .nil _, he⟩
  | cons o rest S p ps S1 hk hI h hr ih =>
    intro S0 he
    obtain ⟨S2, h2, h3⟩ := ih (he.app p o)
    exact ⟨S2, .cons o rest S0 p ps S2 hk hI (h.eqv he) h2, h3⟩
theorem cz_eqv {all : List Oper} {S : St} {j : Nat} {t b : Bool} (hgr : grd all S j = some (true, .d (.bool t))) (hb : t = b) : Eqv (S.cz (dstAt all j) b) S :=
  ⟨cz_n .., cz_gl .., cz_mem .., fun u => cz_lk hgr hb u⟩

theorem dgstep_ok {md : Bool} {all : List Oper} {S1 : St} {p : Stp} (hcl : ClOk X cl) (hgl : S.gl = X.gl) (hd : ∀ t, o.dst = some t → t < S.n) (h : dgstep X cl md all S o = some (S1, p)) : Eqv S1 (p.app o S) ∧ (∀ e ∈ p.es, e.key ∈ p.ks) ∧ StepL X.P all S o p := by
  have yes : ∀ {r : Res}, stepv X.P S o = r → dstep X cl S o r = some (S1, p) → (∀ (ks : List Nat) S', Agree all o ks S' S → ∀ φ G a w, Rel φ G S' a w → Region.wanted o (yielded all.toArray a.tmps) = true) → Eqv S1 (p.app o S) ∧ (∀ e ∈ p.es, e.key ∈ p.ks) ∧ StepL X.P all S o p := by
    intro r hs h hw
    obtain ⟨h1, h2, h3⟩ := dstep_ok hcl hgl hd hs h hw
    exact ⟨by rw [h1]; exact Eqv.refl _, h2, h3⟩
  unfold dgstep at h
  split at h
  · rename_i hg
    exact yes rfl h (fun _ _ _ _ _ _ _ _ => by simp [Region.wanted, hg])
  · rename_i j want hg
    split at h
    · rename_i t hgr
      replace hgr := gval_tru hgr
      have hw : ∀ (ks : List Nat) S', Agree all o ks S' S → ∀ φ G a w, Rel φ G S' a w → Region.wanted o (yielded all.toArray a.tmps) = (t == want) :=
        fun ks S' ha φ G a w hr => wanted_of hg (by rw [agree_grd ha hg]; exact hgr) hr
      have other : ∀ {r : Res}, stepv X.P S o = r → (if (t == want) = true then dstep X cl S o r else some (S.put o.dst true .junk, ⟨[], [], true, .junk⟩)) = some (S1, p) → Eqv S1 (p.app o S) ∧ (∀ e ∈ p.es, e.key ∈ p.ks) ∧ StepL X.P all S o p := by
        intro r hs h
        split at h
        · rename_i hb
          exact yes hs h (fun ks S' ha φ G a w hr => by rw [hw ks S' ha φ G a w hr]; exact hb)
        · rename_i hb
          cases h
          exact ⟨Eqv.refl _, by simp, stepL_skip hd (fun _ => .inl rfl) (fun S' ha φ G a w hr => by rw [hw _ S' ha φ G a w hr]; simpa using hb)⟩
      cases md with
      | true =>
        simp only at h
        split at h
        · rename_i hb
          have hb' : t = want := by simpa using hb
          have he := cz_eqv hgr hb'
          obtain ⟨h1, h2, h3⟩ := dstep_ok (S := S.cz (dstAt all j) want) hcl (by rw [cz_gl]; exact hgl) (fun t ht => by rw [cz_n]; exact hd t ht) rfl h
            (fun ks S' ha φ G a w hr => by rw [hw ks S' (ha.eqv he) φ G a w hr]; exact hb)
          exact ⟨by rw [h1]; exact he.app p o, h2, h3.eqv he⟩
        · rename_i hb
          have hb' : t = !want := by cases t <;> cases want <;> simp_all
          cases h
          have he := cz_eqv hgr hb'
          exact ⟨he.app ⟨[], [], true, .tup []⟩ o, by simp, stepL_skip hd (fun _ => .inr rfl) (fun S' ha φ G a w hr => by rw [hw _ S' ha φ G a w hr]; simpa using hb)⟩
      | false =>
      simp only at h
      unfold dguard at h
      split at h
      · rename_i c x hs
        split at h
        · rename_i hc
          cases h
          refine ⟨Eqv.refl _, by simp, ?_⟩
          cases hb : (t == want)
          · exact stepL_skip hd (by simp) (fun S' ha φ G a w hr => by rw [hw _ S' ha φ G a w hr]; exact hb)
          · exact stepL_val hd hs (hc hb) (fun S' ha φ G a w hr => by rw [hw _ S' ha φ G a w hr]; exact hb)
        · cases h
      · exact other rfl h
    · rename_i hgr
      replace hgr := gval_skip hgr
      cases h
      exact ⟨Eqv.refl _, by simp, stepL_skip hd (fun _ => .inr rfl) (fun S' ha φ G a w hr => by
        have := skip_yield hr (by rw [agree_grd ha hg]; exact hgr)
        simp only [Region.wanted, hg, this]
        cases want <;> rfl)⟩
    · cases h

theorem drwOps_cert {md : Bool} {nd : List (List Nat)} {all : List Oper} (hcl : ClOk X cl) : ∀ (ops : List Oper) (S : St) (acc : List Stp) (e : XE) (S1 : St), drwOps X cl md nd all ops S acc = some (e, S1) → S.gl = X.gl → dstsOk S.n ops = true →
    e = .normal ∧ ∃ ps S2, Cert X.P (fun _ => True) all ops S ps S2 ∧ Eqv S1 S2 ∧ ordD nd (acc.reverse ++ ps) = true
  | [], S, acc, e, S1, h, hgl, hd => by
    simp only [drwOps] at h
    split at h
    · rename_i hord
      cases h
      exact ⟨rfl, [], S, .nil S, Eqv.refl _, by simpa using hord⟩
    · cases h
  | o :: rest, S, acc, e, S1, h, hgl, hd => by
    simp only [dstsOk, List.all_cons, Bool.and_eq_true] at hd
    obtain ⟨hd0, hd⟩ := hd
    have hdo : ∀ t, o.dst = some t → t < S.n := fun t ht => by rw [ht] at hd0; simpa using hd0
    simp only [drwOps] at h
    cases hg : dgstep X cl md all S o with
    | none => rw [hg] at h; cases h
    | some q =>
      obtain ⟨S2, p⟩ := q
      rw [hg] at h
      simp only [dThen] at h
      obtain ⟨heq, hks, hst⟩ := dgstep_ok hcl hgl hdo hg
      obtain ⟨he, ps, S3, hc, he3, hord⟩ := drwOps_cert hcl rest S2 (p :: acc) e S1 h (by rw [heq.gl, app_gl]; exact hgl) (by rw [heq.n, app_n]; exact hd)
      obtain ⟨S4, hc4, he4⟩ := cert_eqv hc heq
      exact ⟨he, p :: ps, S4, .cons o rest S p ps S4 hks (fun _ _ => trivial) hst.toI hc4, he3.trans he4, by simpa using hord⟩

/- Regions of which some cells of boxes stay. -/
def InvM (LI : List Cl) (m : Mem) : Prop := ∀ q ∈ LI, ∃ cs, Mem.get m q.k = some ⟨q.k, q.v, .box cs⟩ ∧ cs[q.j]? = some q.x
theorem eqA_eq : ∀ {x y : AV}, eqA x y = true → x = y := by
  intro x y h
  unfold eqA at h
  split at h
  · simp only [Bool.and_eq_true, decide_eq_true_eq] at h
    obtain ⟨⟨⟨rfl, rfl⟩, rfl⟩, rfl⟩ := h; rfl
  · simp only [Bool.and_eq_true, decide_eq_true_eq] at h
    obtain ⟨⟨rfl, rfl⟩, rfl⟩ := h; rfl
  · simp only [Bool.and_eq_true, decide_eq_true_eq] at h
    obtain ⟨rfl, rfl⟩ := h; rfl
  · simp only [decide_eq_true_eq] at h
    subst h; rfl
  · cases h
theorem ents_inv {m : Mem} : ∀ {fl : List (Nat × Nat)} {LI : List Cl}, ents m fl = some LI → InvM LI m
  | [], LI, h => by simp [ents] at h; subst h; exact fun q hq => by simp at hq
  | (k, j) :: r, LI, h => by
    unfold ents at h
    split at h
    · rename_i key v cs l hg hl
      split at h
      · rename_i x hx
        cases h
        have hk : key = k := (Mem.get_mem hg).2
        subst hk
        intro q hq
        rcases List.mem_cons.1 hq with rfl | hq
        · exact ⟨cs, hg, hx⟩
        · exact ents_inv hl q hq
      · cases h
    · cases h
theorem invE_get {e : Ent} : ∀ {LI : List Cl}, invE e LI = true → ∀ q ∈ LI, e.key = q.k → ∃ cs, e = ⟨q.k, q.v, .box cs⟩ ∧ cs[q.j]? = some q.x
  | [], _, q, hq, _ => by simp at hq
  | p :: r, h, q, hq, hk => by
    simp only [invE, Bool.and_eq_true] at h
    rcases List.mem_cons.1 hq with rfl | hq
    · have h1 := h.1
      simp only [hk, decide_true] at h1
      obtain ⟨key, ver, cont⟩ := e
      simp only at hk h1
      subst hk
      unfold clE at h1
      split at h1
      · rename_i cs
        simp only [Bool.and_eq_true, decide_eq_true_eq] at h1
        obtain ⟨rfl, h2⟩ := h1
        split at h2
        · rename_i x hx
          exact ⟨cs, rfl, by rw [hx, eqA_eq h2]⟩
        · cases h2
      · cases h1
    · exact invE_get h.2 q hq hk
theorem invEs_put {LI : List Cl} : ∀ {es : List Ent}, invEs LI es = true → ∀ m, InvM LI m → InvM LI (putAll m es)
  | [], _, m, hm => hm
  | e :: r, h, m, hm => by
    simp only [invEs, Bool.and_eq_true] at h
    refine invEs_put h.2 _ (fun q hq => ?_)
    obtain ⟨cs, h1, h2⟩ := hm q hq
    by_cases hk : e.key = q.k
    · obtain ⟨cs', he, hx⟩ := invE_get h.1 q hq hk
      refine ⟨cs', ?_, hx⟩
      have hin : e.key ∈ m.map (·.key) := by
        obtain ⟨h3, h4⟩ := Mem.get_mem h1
        rw [hk]; exact List.mem_map_of_mem h3
      rw [← hk, Mem.get_set_same hin, he]
    · exact ⟨cs, by rw [Mem.get_set_ne hk]; exact h1, h2⟩
theorem findC_mem {k v j : Nat} {x : AV} : ∀ {LI : List Cl}, findC k v j LI = some x → ∃ q ∈ LI, q.k = k ∧ q.v = v ∧ q.j = j ∧ q.x = x
  | [], h => by simp [findC] at h
  | q :: r, h => by
    unfold findC at h
    split at h
    · rename_i hb
      simp only [Bool.and_eq_true, decide_eq_true_eq] at hb
      cases h
      exact ⟨q, by simp, hb.1.1.symm, hb.1.2.symm, hb.2.symm, rfl⟩
    · obtain ⟨q', h1, h2⟩ := findC_mem h
      exact ⟨q', by simp [h1], h2⟩
theorem hasC_mem {k v : Nat} : ∀ {LI : List Cl}, hasC k v LI = true → ∃ q ∈ LI, q.k = k ∧ q.v = v
  | [], h => by simp [hasC] at h
  | q :: r, h => by
    unfold hasC at h
    split at h
    · rename_i hb
      simp only [Bool.and_eq_true, decide_eq_true_eq] at hb
      exact ⟨q, by simp, hb.1.symm, hb.2.symm⟩
    · obtain ⟨q', h1, h2⟩ := hasC_mem h
      exact ⟨q', by simp [h1], h2⟩
theorem lookG_ok {P : Program} {LI : List Cl} {S : St} {x : AV} (h : lookG P LI S o.op = some x) (hm : InvM LI S.mem) : stepv P S o = .val true x ∧ opOk S o = true := by
  unfold lookG at h
  split at h
  · rename_i t y ho
    unfold lookL at h
    split at h
    · rename_i k v off heq
      split at h
      · rename_i hagg hoth
        obtain ⟨q, hq, rfl, rfl, rfl, rfl⟩ := findC_mem h
        obtain ⟨cs, h1, h2⟩ := hm q hq
        have hlt : q.j < cs.length := (List.getElem?_eq_some_iff.1 h2).1
        refine ⟨?_, by simp [opOk, ho, okAll, Op.operands, heq]⟩
        unfold stepv
        rw [ho]
        simp only [heq, loadR, h1, hagg, h2, Option.getD_some]
        simp only [decide_eq_false_iff_not] at hoth
        simp [hoth, hlt]
      · cases h
    · cases h
  · rename_i s y f ho
    unfold lookF at h
    split at h
    · rename_i n k v off hn heq
      split at h
      · rename_i hc
        cases h
        obtain ⟨q, hq, rfl, rfl⟩ := hasC_mem hc
        obtain ⟨cs, h1, h2⟩ := hm q hq
        refine ⟨?_, by simp [opOk, ho, okAll, Op.operands, heq]⟩
        unfold stepv
        rw [ho]
        simp [heq, fieldRm, hn, h1]
      · cases h
    · cases h
  · rename_i y ho
    unfold lookN at h
    split at h
    · rename_i k v off heq
      split at h
      · rename_i hc
        cases h
        obtain ⟨q, hq, rfl, rfl⟩ := hasC_mem hc
        obtain ⟨cs, h1, h2⟩ := hm q hq
        refine ⟨?_, by simp [opOk, ho, okAll, Op.operands, heq]⟩
        unfold stepv
        rw [ho]
        simp [heq, nilCheckR, h1]
      · cases h
    · cases h
  · cases h
theorem lookG_loc {P : Program} {LI : List Cl} {S' S : St} (h : ∀ x ∈ o.op.operands.toList, S'.opd x = S.opd x) : lookG P LI S' o.op = lookG P LI S o.op := by
  unfold lookG
  split
  · rename_i t y ho; rw [h y (by simp [ho, Op.operands])]
  · rename_i s y f ho; rw [h y (by simp [ho, Op.operands])]
  · rename_i y ho; rw [h y (by simp [ho, Op.operands])]
  · rfl
theorem stepI_look {all : List Oper} {LI : List Cl} {x : AV} (hd : ∀ t, o.dst = some t → t < S.n) (h : lookI X.P LI S o = some x) : StepI X.P (InvM LI) all S o ⟨[], [], true, x⟩ := by
  intro S' ha hI φ G a w hr next R hn
  unfold lookI at h
  split at h
  · rename_i hg
    rw [if_pos (by simp [Region.wanted, hg])]
    have hx : ∀ x ∈ o.op.operands.toList, S'.opd x = S.opd x := fun x hx => agree_opd ha hx
    obtain ⟨hs', hok⟩ := lookG_ok (by rw [lookG_loc hx]; exact h) hI
    obtain ⟨_, _, _, h4⟩ := opD_val (gb := true) hs' (by rw [hok]; rfl) (fun t ht => by rw [ha.n]; exact hd t ht)
    exact h4 φ G a w hr next R (fun _ φ' a' w' hr' hk' => hn φ' a' w' hr' hk') (fun t x he => by cases he)
  · cases h
theorem drwI_cert {md : Bool} {nd : List (List Nat)} {LI : List Cl} {all : List Oper} (hcl : ClOk X cl) : ∀ (ops : List Oper) (S : St) (acc : List Stp) (e : XE) (S1 : St), drwI X cl md nd LI all ops S acc = some (e, S1) → S.gl = X.gl → dstsOk S.n ops = true →
    e = .normal ∧ ∃ ps S2, Cert X.P (InvM LI) all ops S ps S2 ∧ Eqv S1 S2 ∧ ordD nd (acc.reverse ++ ps) = true
  | [], S, acc, e, S1, h, hgl, hd => by
    simp only [drwI] at h
    split at h
    · rename_i hord
      cases h
      exact ⟨rfl, [], S, .nil S, Eqv.refl _, by simpa using hord⟩
    · cases h
  | o :: rest, S, acc, e, S1, h, hgl, hd => by
    simp only [dstsOk, List.all_cons, Bool.and_eq_true] at hd
    obtain ⟨hd0, hd⟩ := hd
    have hdo : ∀ t, o.dst = some t → t < S.n := fun t ht => by rw [ht] at hd0; simpa using hd0
    simp only [drwI] at h
    cases hl : lookI X.P LI S o with
    | some x =>
      rw [hl] at h
      simp only [stepI, dThen] at h
      have hst := stepI_look (X := X) (all := all) hdo hl
      obtain ⟨he, ps, S3, hc, he3, hord⟩ := drwI_cert hcl rest (S.put o.dst true x) (⟨[], [], true, x⟩ :: acc) e S1 h (by have := app_gl ⟨[], [], true, x⟩ o S; exact this.trans hgl) (by rw [put_n]; exact hd)
      exact ⟨he, ⟨[], [], true, x⟩ :: ps, S3, .cons o rest S ⟨[], [], true, x⟩ ps S3 (by simp) (fun _ h => h) hst hc, he3, by simpa using hord⟩
    | none =>
      rw [hl] at h
      simp only [stepI] at h
      cases hg : dgstep X cl md all S o with
      | none => rw [hg] at h; cases h
      | some q =>
        obtain ⟨S2, p⟩ := q
        rw [hg] at h
        simp only [chkI] at h
        split at h
        · rename_i hinv
          simp only [dThen] at h
          obtain ⟨heq, hks, hst⟩ := dgstep_ok hcl hgl hdo hg
          obtain ⟨he, ps, S3, hc, he3, hord⟩ := drwI_cert hcl rest S2 (p :: acc) e S1 h (by rw [heq.gl, app_gl]; exact hgl) (by rw [heq.n, app_n]; exact hd)
          obtain ⟨S4, hc4, he4⟩ := cert_eqv hc heq
          exact ⟨he, p :: ps, S4, .cons o rest S p ps S4 hks (invEs_put hinv) hst.toI hc4, he3.trans he4, by simpa using hord⟩
        · cases h
end
end Go.Am
end
section
namespace Go.Am
open Go

/- Turns. -/
theorem turn_adopt (S : St) (kb j k sz : Nat) : Turn S (S.adopt kb j k sz) := by
  unfold St.adopt
  split
  · rename_i key vb cs key2 v cont hgb hg
    split
    · rename_i hj
      split
      · exact Turn.refl S
      · rename_i hne
        refine ⟨rfl, rfl, fun φ G a w hr => ?_⟩
        obtain ⟨hm, hk, L, hL, hver, hcr⟩ := hr.mem.get hg
        simp only at hk hver
        subst hk
        obtain ⟨φ1, hm1, hk1, hφ1, hφo⟩ := hr.mem.upd (e' := ⟨key2, v + 1, .vec sz []⟩) hm hL rfl (L' := ⟨v + 1, 0, sz, 0, 0⟩) (by simp only; omega) (fun hh => by simp only at hh; omega) rfl
          (w' := w) (fun _ _ _ => rfl) (Nat.le_refl _) (fun ho => absurd ho (by simp [Cont.owns])) rfl rfl rfl (fun φ' hφ' hle' => ⟨rfl, by simp, by simp, fun hc => by simp at hc⟩)
        have hgb1 : Mem.get (Mem.set S.mem ⟨key2, v + 1, .vec sz []⟩) kb = some ⟨key, vb, .box cs⟩ := by
          rw [Mem.get_set_ne (by simpa using fun h => hne h.symm)]; exact hgb
        obtain ⟨hmb, hkb, Lb, hLb, hverb, hcrb⟩ := hm1.get hgb1
        simp only at hkb hverb
        subst hkb
        obtain ⟨φ2, hm2, hk2, hφ2, hφo2⟩ := hm1.upd (e' := ⟨key, vb, .box (cs.set j (.vec key2 (v + 1) 0 0))⟩) hmb hLb rfl (L' := Lb) (Nat.le_refl _) (fun _ => rfl) hverb
          (w' := w) (fun _ _ _ => rfl) (Nat.le_refl _) (fun ho => .inl ⟨trivial, rfl⟩) rfl rfl rfl (fun φ' hφ' hle' => by
            obtain ⟨g0, arr, elem, g1, g2, g3, g4⟩ := hcrb
            have hFF : ∀ b, Fo G φ' (Mem.set (Mem.set S.mem ⟨key2, v + 1, .vec sz []⟩) ⟨key, vb, .box (cs.set j (.vec key2 (v + 1) 0 0))⟩) b → Fo G φ1 (Mem.set S.mem ⟨key2, v + 1, .vec sz []⟩) b := by
              rintro b (h | ⟨x, hx, Lx, hLx, hox, rfl⟩)
              · exact .inl h
              · right
                rcases (Mem.mem_set hm1.nodup).1 hx with ⟨rfl, _⟩ | ⟨hxm, hxk⟩
                · simp only [hφ', if_true] at hLx; cases hLx
                  exact ⟨_, hmb, Lb, hLb, trivial, rfl⟩
                · simp only [hφ', hxk, if_false] at hLx
                  exact ⟨x, hxm, Lx, hLx, hox, rfl⟩
            refine ⟨by simpa using g0, arr, elem, g1, by simp [g2], g3, fun i c u hc hu => ?_⟩
            rw [List.getElem?_set] at hc
            split at hc
            · rename_i hij
              subst hij
              split at hc
              · cases hc
                have := g4 j _ u hj hu
                cases this
                refine .vec key2 (v + 1) 0 0 _ ⟨v + 1, 0, sz, 0, 0⟩ ?_ (Nat.le_refl _) (fun _ => ⟨_, _, rfl, by simp, fun h => by omega⟩) rfl
                rw [hφ']
                simp only
                rw [if_neg (fun h => hne h.symm)]
                exact hφ1
              · cases hc
            · exact (g4 i c u hc hu).mono hle' (fun _ _ _ => rfl) (Nat.le_refl _) (fun b _ => hFF b))
        have hkk := hk1.trans hk2
        exact ⟨φ2, hr.turn hm2 hkk, hkk⟩
    · exact Turn.refl S
  · exact Turn.refl S

theorem mapB_keys (τ : AV → AV) : ∀ m : Mem, (mapB τ m).map (·.key) = m.map (·.key)
  | [] => rfl
  | e :: r => by simp [mapB, mapB_keys τ r]
theorem mapB_mem {τ : AV → AV} : ∀ {m : Mem} {x : Ent}, x ∈ mapB τ m ↔ ∃ e ∈ m, x = ⟨e.key, e.ver, mapC τ e.cont⟩
  | [], x => by simp [mapB]
  | e :: r, x => by simp [mapB, mapB_mem (m := r)]
theorem turn_rekey (S : St) (k k2 : Nat) : Turn S (S.rekey k k2) := by
  unfold St.rekey
  split
  · rename_i key v sz rows key2 v2 cont hg hg2
    split
    · exact Turn.refl S
    · rename_i hne
      refine ⟨rfl, rfl, fun φ G a w hr => ?_⟩
      obtain ⟨hm, hk, L, hL, hver, hcr⟩ := hr.mem.get hg
      obtain ⟨hm2, hk2, L2, hL2, hver2, _⟩ := hr.mem.get hg2
      simp only at hk hver hk2 hver2
      subst hk; subst hk2
      have hne2 : ¬ key2 = key := fun h => hne h.symm
      obtain ⟨τ, hτ⟩ : ∃ τ, τ = rkAV key v key2 (v2 + 1) := ⟨_, rfl⟩
      rw [← hτ]
      obtain ⟨m1, hm1⟩ : ∃ m1, m1 = Mem.set (mapB τ S.mem) ⟨key, v + 1, .dead⟩ := ⟨_, rfl⟩
      have hn0 : ((mapB τ S.mem).map (·.key)).Nodup := by rw [mapB_keys]; exact hr.mem.nodup
      have hn1 : (m1.map (·.key)).Nodup := by rw [hm1, Mem.set_keys]; exact hn0
      obtain ⟨m', hm'⟩ : ∃ m', m' = Mem.set m1 ⟨key2, v2 + 1, .vec sz rows⟩ := ⟨_, rfl⟩
      rw [← hm1, ← hm']
      have hkeys : m'.map (·.key) = S.mem.map (·.key) := by rw [hm', Mem.set_keys, hm1, Mem.set_keys, mapB_keys]
      have hmem : ∀ y, y ∈ m' → y = ⟨key2, v2 + 1, .vec sz rows⟩ ∨ y = ⟨key, v + 1, .dead⟩ ∨ (∃ z ∈ S.mem, y = ⟨z.key, z.ver, mapC τ z.cont⟩ ∧ z.key ≠ key ∧ z.key ≠ key2) := by
        intro y hy
        rw [hm'] at hy
        rcases (Mem.mem_set hn1).1 hy with ⟨h, _⟩ | ⟨h, h2⟩
        · exact .inl h
        · rw [hm1] at h
          rcases (Mem.mem_set hn0).1 h with ⟨h, _⟩ | ⟨h, h3⟩
          · exact .inr (.inl h)
          · obtain ⟨z, hz, rfl⟩ := mapB_mem.1 h
            exact .inr (.inr ⟨z, hz, rfl, h3, h2⟩)
      obtain ⟨φ', hφ'⟩ : ∃ φ' : Phi, φ' = fun j => if j = key then some { L with ver := v + 1 } else if j = key2 then some { L with ver := v2 + 1 } else φ j := ⟨_, rfl⟩
      have f1 : φ' key = some { L with ver := v + 1 } := by simp [hφ']
      have f2 : φ' key2 = some { L with ver := v2 + 1 } := by simp [hφ', hne2]
      have f3 : ∀ j, j ≠ key → j ≠ key2 → φ' j = φ j := fun j h1 h2 => by simp [hφ', h1, h2]
      have hle : φ.le φ' := by
        intro j L0 h0
        by_cases h1 : j = key
        · subst h1; rw [hL] at h0; cases h0
          exact ⟨_, f1, by simp only; omega, fun hh => by simp only at hh; omega⟩
        · by_cases h2 : j = key2
          · subst h2; rw [hL2] at h0; cases h0
            exact ⟨_, f2, by simp only; omega, fun hh => by simp only at hh; omega⟩
          · exact ⟨L0, by rw [f3 j h1 h2]; exact h0, Nat.le_refl _, fun _ => rfl⟩
      have hown : ∀ b, Own φ' m' b → Own φ S.mem b := by
        rintro b ⟨y, hy, Ly, hLy, hoy, rfl⟩
        rcases hmem y hy with rfl | rfl | ⟨y0, h1, rfl, h2, h3⟩
        · simp only at hLy; rw [f2] at hLy; cases hLy
          exact ⟨_, hm, L, hL, hoy, rfl⟩
        · exact hoy.elim
        · simp only at hLy; rw [f3 _ h2 h3] at hLy
          exact ⟨y0, h1, Ly, hLy, mapC_owns.1 hoy, rfl⟩
      have hF : ∀ b, Fo G φ' m' b → Fo G φ S.mem b := fun b => Or.imp id (hown b)
      have hav : ∀ x u, AVRel φ w (Fo G φ S.mem) x u → AVRel φ' w (Fo G φ' m') (τ x) u := by
        intro y u h0
        have h0' := h0.mono (φ' := φ') (F' := Fo G φ' m') hle (fun _ _ _ => rfl) (Nat.le_refl _) (fun b _ => hF b)
        rw [hτ]
        unfold rkAV
        split
        · rename_i k0 v0 o l
          split
          · rename_i hh
            obtain ⟨rfl, rfl⟩ := hh
            cases h0 with
            | vec _ _ _ _ _ L' hL' _ h h1 =>
              rw [hL] at hL'; cases hL'
              exact .vec key2 (v2 + 1) o l _ _ f2 (Nat.le_refl _) (fun _ => h hver.symm) h1
          · exact h0'
        · exact h0'
      refine ⟨φ', ⟨hr.size, hr.defers, ?_, ⟨?_, ?_, ?_, ?_, ?_, ?_⟩, hr.glob.mono (fun _ _ _ => rfl) (Nat.le_refl _) (fun b _ => hF b)⟩, own_same hown hle⟩
      · intro t x hx
        obtain ⟨y, hy, rfl⟩ := lk_mapEnv _ S.env t true x hx
        exact hav _ _ (hr.env t y hy)
      · show (m'.map (·.key)).Nodup
        rw [hkeys]; exact hr.mem.nodup
      · intro j L0 h0
        show j ∈ m'.map (·.key)
        rw [hkeys]
        by_cases h1 : j = key
        · subst h1; exact List.mem_map_of_mem hm
        · by_cases h2 : j = key2
          · subst h2; exact List.mem_map_of_mem hm2
          · rw [f3 j h1 h2] at h0; exact hr.mem.dom j L0 h0
      · intro y hy
        rcases hmem y hy with rfl | rfl | ⟨y0, h1, rfl, h2, h3⟩
        · refine ⟨_, f2, rfl, ?_⟩
          have := hcr.mono (φ' := φ') (F' := Fo G φ' m') hle (fun _ _ _ => rfl) (Nat.le_refl _) (fun b _ => hF b) (fun _ => rfl)
          exact this
        · exact ⟨_, f1, rfl, trivial⟩
        · obtain ⟨Ly, hLy, hvy, hcy⟩ := hr.mem.ents y0 h1
          refine ⟨Ly, by simp only; rw [f3 _ h2 h3]; exact hLy, hvy, ?_⟩
          cases hyc : y0.cont with
          | dead => trivial
          | box cs =>
            rw [hyc] at hcy
            obtain ⟨g0, arr, elem, g1, g2, g3, g4⟩ := hcy
            refine ⟨by simpa using g0, arr, elem, g1, by simp [g2], g3, fun i c u hci hu => ?_⟩
            rw [List.getElem?_map] at hci
            obtain ⟨x, hx, rfl⟩ := Option.map_eq_some_iff.1 hci
            exact hav x u (g4 i x u hx hu)
          | vec sz1 rows1 =>
            rw [hyc] at hcy
            exact hcy.mono hle (fun _ _ _ => rfl) (Nat.le_refl _) (fun b _ => hF b) (fun _ => rfl)
      · intro y hy z hz Ly Lz hLy hLz hoy hoz hb
        rcases hmem y hy with rfl | rfl | ⟨y0, h1, rfl, h2, h3⟩
        · rcases hmem z hz with rfl | rfl | ⟨z0, g1, rfl, g2, g3⟩
          · rfl
          · exact hoz.elim
          · simp only at hLy; rw [f2] at hLy; cases hLy
            simp only at hLz; rw [f3 _ g2 g3] at hLz
            exact absurd (hr.mem.apart _ hm z0 g1 L Lz hL hLz hoy (mapC_owns.1 hoz) hb).symm g2
        · exact hoy.elim
        · rcases hmem z hz with rfl | rfl | ⟨z0, g1, rfl, g2, g3⟩
          · simp only at hLz; rw [f2] at hLz; cases hLz
            simp only at hLy; rw [f3 _ h2 h3] at hLy
            exact absurd (hr.mem.apart y0 h1 _ hm Ly L hLy hL (mapC_owns.1 hoy) hoz hb) h2
          · exact hoz.elim
          · simp only at hLy hLz; rw [f3 _ h2 h3] at hLy
            rw [f3 _ g2 g3] at hLz
            exact hr.mem.apart y0 h1 z0 g1 Ly Lz hLy hLz (mapC_owns.1 hoy) (mapC_owns.1 hoz) hb
      · intro b hb
        exact hr.mem.notG b (hown b hb)
      · exact hr.mem.bound
  · exact Turn.refl S
theorem turn_gh (S : St) (g : Gh) : Turn S (g.go S) := by
  cases g with
  | trim k => exact turn_trim1 S k
  | freeze k => exact turn_freeze S k
  | adopt kb j k sz => exact turn_adopt S kb j k sz
  | rekey k k2 => exact turn_rekey S k k2
theorem turn_ghs : ∀ (l : List Gh) (S : St), Turn S (ghs S l)
  | [], S => Turn.refl S
  | g :: r, S => (turn_gh S g).trans (turn_ghs r _)
theorem turn_leave (X : Ctx) (f : FuncId) (id : Nat) (S : St) : Turn S (S.leave X f id) := (turn_prune S _).trans (turn_ghs _ _)

/- Code. -/
def codeDst (X : Ctx) (f : FuncId) (n : Nat) : Code → Bool
  | .region id ops draw => dstsOk n ops.toList && (!draw || ordS ops.toList (X.od f id))
  | .seq a b => codeDst X f n a && codeDst X f n b
  | .cond _ a b => codeDst X f n a && codeDst X f n b
  | .block _ c => codeDst X f n c
  | .loop c => codeDst X f n c
  | _ => true

structure CtxOk (X : Ctx) : Prop where
  names : ∀ (g : FuncId) (fn : Func), X.P.funcs[g]? = some fn → fn.name ≠ "runtime.NumGoroutine"
  dsts : ∀ (g : FuncId) (fn : Func) (c : Code), X.P.funcs[g]? = some fn → fn.body = some c → codeDst X g fn.ntmps c = true
  mixed : X.P.follows .mixedOrders = true
  orc : ∀ (g : FuncId) (h : List D → Option D), X.orc g = some h → callable X.P g = true ∧ ∀ (ds : List D) (d : D), h ds = some d → ∀ (F : Nat → Prop) (w : World) (vs : Array Value), GlobRel w F X.gl → ds.length = vs.size →
    (∀ (i : Nat) x v, ds[i]? = some x → vs[i]? = some v → DRel w F x v) → Calls X.P g vs w fun e w' => ∃ v, e = .returned v ∧ Go.RowKit.Below w.heap.size w w' ∧ DRel w' F d v

theorem Post.is {n : Nat} {φ : Phi} {G : Nat → Prop} {m : Mem} {w : World} {e : XE} {S' : St} {e' : Exit} {a' : Act} {w' : World} (h : Post n φ G m w (Is e S') e' a' w') :
    ∃ φ', S'.n = n ∧ Rel φ' G S' a' w' ∧ Keeps φ m w φ' S'.mem w' ∧ (match e' with
      | .normal => e = .normal
      | .exit id => e = .exit id
      | .ret => e = .ret
      | .panic chain => ∃ t x v, e = .panic t x ∧ chain = [{ v := .iface t v, recovered := false }] ∧ DRel w' (Fo G φ' S'.mem) x v
      | _ => False) := by
  cases e' with
  | normal => obtain ⟨φ', S2, hn, ⟨h1, rfl⟩, h2, h3⟩ := h; exact ⟨φ', hn, h2, h3, h1.symm⟩
  | exit id => obtain ⟨φ', S2, hn, ⟨h1, rfl⟩, h2, h3⟩ := h; exact ⟨φ', hn, h2, h3, h1.symm⟩
  | ret => obtain ⟨φ', S2, hn, ⟨h1, rfl⟩, h2, h3⟩ := h; exact ⟨φ', hn, h2, h3, h1.symm⟩
  | panic chain => obtain ⟨φ', S2, t, x, v, hc, hd, hn, ⟨h1, rfl⟩, h2, h3⟩ := h; exact ⟨φ', hn, h2, h3, t, x, v, h1.symm, hc, hd⟩
  | _ => exact h.elim

section
variable {X : Ctx} {cl : CallFn} {f : FuncId} {n : Nat}

theorem leave_ok {P : Program} {S : St} {e : XE} {c : Code} {k : St → St} (hk : ∀ S, Turn S (k S)) {r : Option (XE × St)} {S' : St} (h : mapN k r = some (e, S'))
    (hr : ∀ e1 S1, r = some (e1, S1) → S1.n = S.n ∧ S1.gl = S.gl ∧ Tri P c S (Is e1 S1)) : S'.n = S.n ∧ S'.gl = S.gl ∧ Tri P c S (Is e S') := by
  unfold mapN at h
  split at h
  · rename_i S1 
    cases h
    obtain ⟨h1, h2, h3⟩ := hr _ _ rfl
    obtain ⟨t1, t2, t3⟩ := hk S1
    refine ⟨t1.trans h1, t2.trans h2, fun φ G a w hrel => wp_mono (h3 φ G a w hrel) fun e' a' w' hp => ?_⟩
    obtain ⟨φ', hn, hr', hk', he⟩ := hp.is
    cases e' with
    | normal =>
      obtain ⟨φ2, hr2, hk2⟩ := t3 φ' G a' w' hr'
      exact ⟨φ2, k S1, t1.trans hn, ⟨rfl, rfl⟩, hr2, hk'.trans hk2⟩
    | exit id => cases he
    | ret => cases he
    | panic chain => obtain ⟨t, x, v, h4, _⟩ := he; cases h4
    | _ => exact he.elim
  · exact hr _ _ h

theorem cert_len {P : Program} {I : Mem → Prop} {all : List Oper} : ∀ {ops : List Oper} {S : St} {ps : List Stp} {S1 : St}, Cert P I all ops S ps S1 → ps.length = ops.length := by
  intro ops S ps S1 h
  induction h with
  | nil S => rfl
  | cons o rest S p ps S1 _ _ _ _ ih => simp [ih]
theorem den_ok (hX : CtxOk X) (hcl : ClOk X cl) : ∀ (c : Code) (S : St) (e : XE) (S' : St), den X f cl n c S = some (e, S') → S.gl = X.gl → codeDst X f S.n c = true →
    S'.n = S.n ∧ S'.gl = S.gl ∧ Tri X.P c S (Is e S') := by
  intro c
  induction c with
  | skip =>
    intro S e S' h hgl hd
    simp only [den, Option.some.injEq, Prod.mk.injEq] at h
    obtain ⟨rfl, rfl⟩ := h
    exact ⟨rfl, rfl, tri_skip ⟨rfl, rfl⟩⟩
  | region id ops draw =>
    intro S e S' h hgl hd
    simp only [den] at h
    simp only [codeDst, Bool.and_eq_true] at hd
    cases draw with
    | false =>
      refine leave_ok (turn_leave X f id) h (fun e1 S1 h1 => ?_)
      obtain ⟨h2, h3, h4⟩ := runOps_ok hcl ops.toList S e1 S1 h1 hgl hd.1
      exact ⟨h2, h3, fun φ G a w hr => wp_region_lit (h4 φ G a w hr _ (fun _ _ _ h => h))⟩
    | true =>
      refine leave_ok (turn_leave X f id) h (fun e1 S1 h1 => ?_)
      obtain ⟨I, hI, rfl, ps, S2, hc, heq, hord⟩ : ∃ I : Mem → Prop, I S.mem ∧ e1 = .normal ∧ ∃ ps S2, Cert X.P I ops.toList ops.toList S ps S2 ∧ Eqv S1 S2 ∧ ordD (X.od f id) ps = true := by
        cases hfl : X.fl f id with
        | nil =>
          rw [hfl] at h1
          simp only [drwA] at h1
          obtain ⟨he, ps, S2, hc, heq, hord⟩ := drwOps_cert hcl ops.toList S [] e1 S1 h1 hgl hd.1
          exact ⟨_, trivial, he, ps, S2, hc, heq, by simpa using hord⟩
        | cons q r =>
          rw [hfl] at h1
          simp only [drwA] at h1
          cases hen : ents S.mem (q :: r) with
          | none => rw [hen] at h1; cases h1
          | some LI =>
            rw [hen] at h1
            simp only [drwE] at h1
            obtain ⟨he, ps, S2, hc, heq, hord⟩ := drwI_cert hcl ops.toList S [] e1 S1 h1 hgl hd.1
            exact ⟨_, ents_inv hen, he, ps, S2, hc, heq, by simpa using hord⟩
      obtain ⟨hn1, hg1⟩ := cert_n hc
      have hordS : ordS ops.toList (X.od f id) = true := by simpa using hd.2
      have hord := ord_of hordS hord (cert_len hc)
      refine ⟨heq.n.trans hn1, heq.gl.trans hg1, fun φ G a w hr => ?_⟩
      exact region_draw (ops := ops.toList) hI hX.mixed hc hord hr (fun φ' a' w' hr' hk' => ⟨φ', S1, heq.n.trans hn1, ⟨rfl, rfl⟩, hr'.eqv heq.symm, by rw [heq.mem]; exact hk'⟩)
  | seq a b iha ihb =>
    intro S e S' h hgl hd
    simp only [codeDst, Bool.and_eq_true] at hd
    simp only [den] at h
    rcases andThen_some h with ⟨S1, h1, h2⟩ | ⟨h1, h2⟩
    · obtain ⟨hn1, hg1, ht1⟩ := iha S _ S1 h1 hgl hd.1
      obtain ⟨hn2, hg2, ht2⟩ := ihb S1 e S' h2 (hg1.trans hgl) (by rw [hn1]; exact hd.2)
      refine ⟨hn2.trans hn1, hg2.trans hg1, tri_seq (ht1.mono fun e1 S2 hq => ?_)⟩
      obtain ⟨rfl, rfl⟩ := hq
      exact ht2
    · obtain ⟨hn1, hg1, ht1⟩ := iha S _ S' h1 hgl hd.1
      refine ⟨hn1, hg1, tri_seq (ht1.mono fun e1 S2 hq => ?_)⟩
      obtain ⟨rfl, rfl⟩ := hq
      cases e1 with
      | normal => exact absurd rfl h2
      | _ => exact ⟨rfl, rfl⟩
  | cond c a b iha ihb =>
    intro S e S' h hgl hd
    simp only [codeDst, Bool.and_eq_true] at hd
    simp only [den] at h
    cases hc : S.opd c with
    | mk g y =>
      rw [hc] at h
      unfold condB at h
      split at h
      · rename_i t heq
        cases heq
        cases t with
        | true =>
          obtain ⟨h1, h2, h3⟩ := iha S e S' (by simpa using h) hgl hd.1
          exact ⟨h1, h2, tri_cond hc (fun _ => h3) (fun hf => by cases hf)⟩
        | false =>
          obtain ⟨h1, h2, h3⟩ := ihb S e S' (by simpa using h) hgl hd.2
          exact ⟨h1, h2, tri_cond hc (fun hf => by cases hf) (fun _ => h3)⟩
      · cases h
  | block id c ih =>
    intro S e S' h hgl hd
    simp only [den] at h
    unfold inBlk at h
    split at h
    · rename_i id' S1 h1
      obtain ⟨hn, hg, ht⟩ := ih S _ S1 h1 hgl hd
      split at h
      · rename_i hid
        cases h
        refine ⟨hn, hg, tri_block (ht.mono fun e1 S2 hq => ?_)⟩
        obtain ⟨rfl, rfl⟩ := hq
        simp only [hid, if_true]
        exact ⟨rfl, rfl⟩
      · rename_i hid
        cases h
        refine ⟨hn, hg, tri_block (ht.mono fun e1 S2 hq => ?_)⟩
        obtain ⟨rfl, rfl⟩ := hq
        simp only [hid, if_false]
        exact ⟨rfl, rfl⟩
    · rename_i hne
      obtain ⟨hn, hg, ht⟩ := ih S _ S' h hgl hd
      refine ⟨hn, hg, tri_block (ht.mono fun e1 S2 hq => ?_)⟩
      obtain ⟨rfl, rfl⟩ := hq
      cases e1 with
      | exit id' => exact absurd h (hne id' S2)
      | _ => exact ⟨rfl, rfl⟩
  | loop c ih =>
    intro S e S' h hgl hd
    simp only [den] at h
    simp only [codeDst] at hd
    have hin : ∀ (k : Nat) (S1 : St), iter (den X f cl n c) k S1 = some (e, S') → S1.gl = X.gl → codeDst X f S1.n c = true → S'.n = S1.n ∧ S'.gl = S1.gl := by
      intro k
      induction k with
      | zero => intro S1 h1; cases h1
      | succ k ihk =>
        intro S1 h1 hg1 hd1
        simp only [iter] at h1
        rcases andThen_some h1 with ⟨S2, h2, h3⟩ | ⟨h2, h3⟩
        · obtain ⟨a1, a2, _⟩ := ih S1 _ S2 h2 hg1 hd1
          obtain ⟨b1, b2⟩ := ihk S2 h3 (a2.trans hg1) (by rw [a1]; exact hd1)
          exact ⟨b1.trans a1, b2.trans a2⟩
        · obtain ⟨a1, a2, _⟩ := ih S1 _ S' h2 hg1 hd1
          exact ⟨a1, a2⟩
    obtain ⟨hn, hg⟩ := hin n S h hgl hd
    refine ⟨hn, hg, ?_⟩
    refine tri_loop (α := Nat × St) (fun x => x.2) (fun x => iter (den X f cl n c) x.1 x.2 = some (e, S') ∧ x.2.gl = X.gl ∧ codeDst X f x.2.n c = true) (fun x => x.1) (n, S) rfl ⟨h, hgl, hd⟩ ?_
    rintro ⟨k, S1⟩ ⟨h1, hg1, hd1⟩
    simp only at h1 hg1 hd1 ⊢
    cases k with
    | zero => cases h1
    | succ k =>
      simp only [iter] at h1
      rcases andThen_some h1 with ⟨S2, h2, h3⟩ | ⟨h2, h3⟩
      · obtain ⟨a1, a2, ht⟩ := ih S1 _ S2 h2 hg1 hd1
        refine ht.mono fun e1 S3 hq => ?_
        obtain ⟨rfl, rfl⟩ := hq
        exact ⟨(k, S3), rfl, ⟨h3, a2.trans hg1, by rw [a1]; exact hd1⟩, Nat.lt_succ_self k⟩
      · obtain ⟨a1, a2, ht⟩ := ih S1 _ S' h2 hg1 hd1
        refine ht.mono fun e1 S3 hq => ?_
        obtain ⟨rfl, rfl⟩ := hq
        cases e1 with
        | normal => exact absurd rfl h3
        | _ => exact ⟨rfl, rfl⟩
  | exit id =>
    intro S e S' h hgl hd
    simp only [den, Option.some.injEq, Prod.mk.injEq] at h
    obtain ⟨rfl, rfl⟩ := h
    exact ⟨rfl, rfl, tri_exit ⟨rfl, rfl⟩⟩
  | ret =>
    intro S e S' h hgl hd
    simp only [den, Option.some.injEq, Prod.mk.injEq] at h
    obtain ⟨rfl, rfl⟩ := h
    exact ⟨rfl, rfl, tri_ret ⟨rfl, rfl⟩⟩
  | rangeFunc _ _ _ _ => intro S e S' h; simp [den] at h
  | scope _ _ => intro S e S' h; simp [den] at h
  | label _ => intro S e S' h; simp [den] at h
  | goto _ => intro S e S' h; simp [den] at h
  | refuse _ => intro S e S' h; simp [den] at h

theorem inM_keys : ∀ (cs : List Cont) (i : Nat), (inM i cs).map (·.key) = List.range' i cs.length
  | [], i => rfl
  | c :: r, i => by simp [inM, inM_keys r, List.range'_succ]
theorem inM_ver : ∀ (cs : List Cont) (i : Nat) (e : Ent), e ∈ inM i cs → e.ver = 0
  | [], i, e, he => by simp [inM] at he
  | c :: r, i, e, he => by
    simp only [inM, List.mem_cons] at he
    rcases he with rfl | he
    · rfl
    · exact inM_ver r (i + 1) e he

theorem runFn_ok (hX : CtxOk X) (hcl : ClOk X cl) {fn : Func} {c : Code} {args : List AV} {cs : List Cont} {out : Out} {l : List (Nat × Cont)} (hf : X.P.funcs[f]? = some fn) (hb : fn.body = some c)
    (h : runFn X f cl n fn c args cs = some (out, l)) : Ev X.P X.gl f args (inM 0 cs) fun o m => o = out ∧ m = mkM 0 l := by
  unfold runFn at h
  split at h
  · rename_i hc
    simp only [Bool.and_eq_true, decide_eq_true_eq, List.all_eq_true] at hc
    obtain ⟨⟨⟨hal, hcs⟩, hs1⟩, hs2⟩ := hc
    intro φ G w vs hm hglob hla hav
    have hkeys : ∀ k, k ∈ (inM 0 cs).map (·.key) ↔ k < cs.length := fun k => by rw [inM_keys]; simp
    have hdis : ∀ k ∈ (X.fp f).sites, k ∉ (inM 0 cs).map (·.key) := by
      intro k hk hkm
      have h1 := hs1 k hk
      have h2 := (hkeys k).1 hkm
      omega
    have hdom : ∀ k L, φ k = some L → k < cs.length ∧ L.ver = 0 := fun k L hL => by
      have hk := hm.dom k L hL
      obtain ⟨e, he, rfl⟩ := List.mem_map.1 hk
      obtain ⟨L', hL', hver, _⟩ := hm.ents e he
      rw [hL] at hL'; cases hL'
      exact ⟨(hkeys _).1 hk, by rw [hver]; exact inM_ver cs 0 e he⟩
    have hm0 := hm.add hs2 hdis
    have hkeep0 : Keeps φ (inM 0 cs) w (φ.add (X.fp f).sites) (inM 0 cs ++ (X.fp f).sites.map dead) w := ⟨le_add hm hdis, fun _ _ _ => rfl, fun b _ ho => (own_add hdis b).1 ho, Nat.le_refl _, rfl, rfl, rfl⟩
    refine calls_of_wp hf hb ?_
    obtain ⟨S0, hS0⟩ : ∃ S0, S0 = entry fn.ntmps X.gl args cs (X.fp f).sites := ⟨_, rfl⟩
    have hr : Rel (φ.add (X.fp f).sites) G S0 { tmps := vs ++ Array.replicate (fn.ntmps - vs.size) undef, defers := [] } w := by
      rw [hS0]
      refine ⟨by simp [entry]; omega, rfl, fun t x hx => ?_, hm0, ?_⟩
      · obtain ⟨j, rfl, hj⟩ := lk_entry 0 args t _ hx
        have hjl : j < vs.size := by rw [← hla]; exact (List.getElem?_eq_some_iff.1 hj).1
        have e : (vs ++ Array.replicate (fn.ntmps - vs.size) undef).getD (0 + j) undef = vs[j] := by
          simp only [Nat.zero_add, Array.getD_eq_getD_getElem?]
          rw [Array.getElem?_append_left hjl]
          simp [hjl]
        rw [e]
        exact hkeep0.av (hav j x _ hj (by simp [hjl]))
      · exact hkeep0.glob hglob
    rw [← hS0] at h
    cases hden : den X f cl n c S0 with
    | none => rw [hden] at h; cases h
    | some q =>
      obtain ⟨e, S'⟩ := q
      rw [hden] at h
      obtain ⟨hn', hg', ht⟩ := den_ok hX hcl c S0 e S' hden (by rw [hS0]; rfl) (by rw [hS0]; exact hX.dsts f fn c hf hb)
      refine wp_mono (ht _ G _ w hr) fun e' a' w' hp => ?_
      obtain ⟨φ', _, hr', hk', he⟩ := hp.is
      have hk0 : Keeps φ (inM 0 cs) w φ' S'.mem w' := by
        have : S0.mem = inM 0 cs ++ (X.fp f).sites.map dead := by rw [hS0]; rfl
        rw [this] at hk'
        exact hkeep0.trans hk'
      have retd : finish X.P (X.fp f) cs.length fn.results.toList S' = some (out, l) →
          a'.defers = [] ∧ ∃ v, (results fn a'.tmps).run X.P w' = .ok v w' ∧ ∃ φ'' m' out', (out' = out ∧ m' = mkM 0 l) ∧ MemRel φ'' G m' w' ∧ Keeps φ (inM 0 cs) w φ'' m' w' ∧ OutRel φ'' w' (Fo G φ'' m') out' (.returned v) := by
        intro hfin
        unfold finish at hfin
        split at hfin
        · rename_i cc xs hxs
          split at hfin
          · rename_i hcc
            obtain ⟨vl, h1, h2, h3⟩ := resAll_run hr' fn.results.toList cc xs hxs hcc
            obtain ⟨φ2, ys, rfl, g1, g2, g3, g4, _⟩ := finVals_ok hfin hr'.mem hr'.glob h2 h3 hk0 hdom
            have hres : (results fn a'.tmps).run X.P w' = .ok (if h : vl.toArray.size = 1 then vl.toArray[0] else .tuple vl.toArray) w' := by
              have e : results fn a'.tmps = (do let vs ← fn.results.mapM (resSem a'.tmps); pure (if h : vs.size = 1 then vs[0] else .tuple vs)) := by
                unfold results
                congr 1
              rw [e, Array.mapM_eq_mapM_toList]
              simp only [Sem.run_bind, Sem.run_map, h1, Result.andThen_ok, Sem.run_pure]
            refine ⟨hr'.defers, _, hres, φ2, _, _, ⟨rfl, rfl⟩, g1, g2, ?_⟩
            show AVRel φ2 w' _ (oneOf ys) _
            by_cases hone : vl.length = 1
            · obtain ⟨v, rfl⟩ : ∃ v, vl = [v] := by
                cases vl with
                | nil => simp at hone
                | cons v r => exact ⟨v, by cases r with | nil => rfl | cons _ _ => simp at hone⟩
              obtain ⟨y, rfl⟩ : ∃ y, ys = [y] := by
                cases ys with
                | nil => simp at g3
                | cons v r => exact ⟨v, by cases r with | nil => rfl | cons _ _ => simp at g3⟩
              simpa [oneOf] using g4 0 y v (by simp) (by simp)
            · have e : oneOf ys = .tup ys := by
                cases ys with
                | nil => rfl
                | cons y r => cases r with | nil => simp at g3; omega | cons _ _ => rfl
              rw [e, dif_neg (by simpa using hone)]
              exact .tup ys vl.toArray (by simpa using g3) (fun i y v h h' => g4 i y v h (by simpa using h'))
          · cases hfin
        · cases hfin
      cases e' with
      | normal => cases he; exact retd h
      | ret => cases he; exact retd h
      | exit id => cases he; cases h
      | panic chain =>
        obtain ⟨t, x, v, rfl, rfl, hd⟩ := he
        have h' : finVals (X.fp f) cs.length S' [] (fun _ => .panic t x) = some (out, l) := h
        obtain ⟨φ2, ys, rfl, g1, g2, _, _, g5⟩ := finVals_ok (vs := []) h' hr'.mem hr'.glob rfl (by simp) hk0 hdom
        exact ⟨hr'.defers, φ2, _, _, ⟨rfl, rfl⟩, g1, g2, v, rfl, hd.mono (fun _ _ _ => rfl) (Nat.le_refl _) (fun b _ => g5 b)⟩
      | _ => exact he.elim
  · cases h

theorem Ev.split {P : Program} {gl f r m K} (h1 : Ev P gl f (.lit (.slice none 0 0) :: r) m K) (h2 : Ev P gl f (.nn :: r) m K) : Ev P gl f (.d (.list []) :: r) m K := by
  intro φ G w vs hm hg hl ha
  have go : ∀ y, (∀ v, vs[0]? = some v → AVRel φ w (Fo G φ m) y v) → ∀ (i : Nat) x v, (y :: r)[i]? = some x → vs[i]? = some v → AVRel φ w (Fo G φ m) x v := by
    intro y hy i x v hx hv
    cases i with
    | zero => simp at hx; subst hx; exact hy v hv
    | succ i => exact ha (i + 1) x v (by simpa using hx) hv
  have hsz : 0 < vs.size := by rw [← hl]; simp
  have h0 := ha 0 (.d (.list [])) vs[0] (by simp) (by simp [hsz])
  generalize hv0 : vs[0] = v0 at h0
  have hget : vs[0]? = some v0 := by rw [← hv0]; simp [hsz]
  cases h0 with
  | d _ _ hd =>
    cases hd with
    | nil a cap hn =>
      cases a with
      | none =>
        have := hn rfl
        subst this
        exact h1 φ G w vs hm hg (by simpa using hl) (go _ (fun v hv => by rw [hget] at hv; cases hv; exact .lit _ rfl))
      | some a => exact h2 φ G w vs hm hg (by simpa using hl) (go _ (fun v hv => by rw [hget] at hv; cases hv; exact .nn a cap))
    | list _ b off cap sz vs' => exact h2 φ G w vs hm hg (by simpa using hl) (go _ (fun v hv => by rw [hget] at hv; cases hv; exact .nn _ cap))

theorem emptyVec_some {r : Option (Out × List (Nat × Cont))} {sz : Nat} (h : emptyVec r = some sz) : r = some (.ret (.vec 0 0 0 0), [(0, .vec sz [])]) := by
  unfold emptyVec at h
  split at h
  · cases h; rfl
  · cases h

theorem orcAns_some {h : List D → Option D} {args : List AV} {cs : List Cont} {r : Out × List (Nat × Cont)} (hr : orcAns h args cs = some r) : cs = [] ∧ ∃ ds d, toDs args = some ds ∧ h ds = some d ∧ r = (.ret (.d d), []) := by
  unfold orcAns at hr
  split at hr
  · split at hr
    · rename_i ds hds
      split at hr
      · rename_i d hd; cases hr; exact ⟨rfl, ds, d, hds, hd, rfl⟩
      · cases hr
    · cases hr
  · cases hr
theorem toDs_eq : ∀ {args : List AV} {ds : List D}, toDs args = some ds → args = ds.map .d
  | [], ds, h => by
    simp only [toDs, Option.some.injEq] at h
    subst h; rfl
  | y :: r, ds, h => by
    cases hr : toDs r with
    | none => unfold toDs at h; rw [hr] at h; cases y <;> cases h
    | some ys =>
      unfold toDs at h
      rw [hr] at h
      cases y <;> cases h
      rw [toDs_eq hr]; rfl
theorem orc_ok (hX : CtxOk X) {g : FuncId} {h : List D → Option D} (hg : X.orc g = some h) {args : List AV} {cs : List Cont} {out : Out} {l : List (Nat × Cont)} (hr : orcAns h args cs = some (out, l)) :
    callable X.P g = true ∧ Ev X.P X.gl g args (inM 0 cs) fun o m => o = out ∧ m = mkM 0 l := by
  obtain ⟨hc, hev⟩ := hX.orc g h hg
  refine ⟨hc, ?_⟩
  obtain ⟨rfl, ds, d, hds, hd, he⟩ := orcAns_some hr
  cases he
  have hargs := toDs_eq hds
  subst hargs
  intro φ G w vs hm hgl hl ha
  have hO : ∀ b, Own φ (inM 0 []) b → False := by
    rintro b ⟨e, he, _⟩
    simp [inM] at he
  refine (hev ds d hd (Fo G φ (inM 0 [])) w vs hgl (by simpa using hl) (fun i x v hx hv => ?_)).mono ?_
  · have := ha i (.d x) v (by simp [hx]) hv
    cases this with
    | d _ _ h => exact h
  · rintro e w' ⟨v, rfl, hb, hdv⟩
    refine ⟨φ, inM 0 [], .ret (.d d), ⟨rfl, rfl⟩, ⟨hm.nodup, hm.dom, fun e he => by simp [inM] at he, fun e he => by simp [inM] at he, fun b hb => (hO b hb).elim, fun b hb' => Nat.lt_of_lt_of_le (hm.bound b hb') hb.size⟩, ⟨Phi.le_refl _, fun b hlt _ => hb.block b hlt, fun b _ ho => ho, hb.size, hb.os, hb.tape, hb.output⟩, ?_⟩
    exact .d _ _ hdv

theorem callN_ok (hX : CtxOk X) : ∀ n, ClOk X (callN X n)
  | 0 => fun g args cs out l h => by cases h
  | n + 1 => fun g args cs out l h => by
    have ih := callN_ok hX n
    simp only [callN] at h
    split at h
    · rename_i h0 hg0
      exact orc_ok hX hg0 h
    split at h
    · rename_i fn hf
      split at h
      · rename_i c hb
        have hcall : callable X.P g = true := by
          unfold callable
          rw [hf]
          simp [hb, hX.names g fn hf]
        refine ⟨hcall, ?_⟩
        unfold runSplit at h
        split at h
        · split at h
          · rename_i r
            unfold splitRun at h
            split at h
            · rename_i a b ha hb2
              split at h
              · rename_i hab
                subst hab
                have e1 := emptyVec_some ha
                have e2 := emptyVec_some hb2
                rw [e1] at h
                cases h
                exact Ev.split (runFn_ok hX ih hf hb e1) (runFn_ok hX ih hf hb e2)
              · cases h
            · cases h
          · exact runFn_ok hX ih hf hb h
        · exact runFn_ok hX ih hf hb h
      · cases h
    · cases h
end
end Go.Am
end
section
namespace Go.Am
open Go

/- Rows that settle. -/
def Mono {α : Type} (f : Nat → Option α) : Prop := ∀ n r, f n = some r → f (n + 1) = some r
theorem Mono.le {α : Type} {f : Nat → Option α} (h : Mono f) {n m : Nat} (hnm : n ≤ m) {r : α} (hr : f n = some r) : f m = some r := by
  induction hnm with
  | refl => exact hr
  | step _ ih => exact h _ _ ih
theorem Mono.const {α : Type} (x : Option α) : Mono fun _ => x := fun _ _ h => h
theorem Mono.bind {α β : Type} {f : Nat → Option α} {g : α → Nat → Option β} (hf : Mono f) (hg : ∀ x, Mono (g x)) : Mono fun n => (f n).bind fun x => g x n := by
  intro n r h
  obtain ⟨x, hx, hr⟩ := Option.bind_eq_some_iff.1 h
  simp only [hf n x hx, Option.bind_some]
  exact hg x n r hr

open Classical in
noncomputable def lim {α : Type} (f : Nat → Option α) : Option α := if h : ∃ n, (f n).isSome = true then f (Classical.choose h) else none
theorem lim_some {α : Type} {f : Nat → Option α} (hf : Mono f) {r : α} : lim f = some r ↔ ∃ n, f n = some r := by
  unfold lim
  constructor
  · intro h
    split at h
    · exact ⟨_, h⟩
    · cases h
  · rintro ⟨n, hn⟩
    have hex : ∃ n, (f n).isSome = true := ⟨n, by rw [hn]; rfl⟩
    rw [dif_pos hex]
    have hc := Classical.choose_spec hex
    obtain ⟨r', hr'⟩ := Option.isSome_iff_exists.1 hc
    rw [hr']
    rcases Nat.le_total n (Classical.choose hex) with h1 | h1
    · rw [← hr']; exact hf.le h1 hn
    · have := hf.le h1 hr'; rw [this] at hn; exact hn
theorem lim_const {α : Type} (x : Option α) : lim (fun _ => x) = x := by
  cases x with
  | some r => exact (lim_some (Mono.const _)).2 ⟨0, rfl⟩
  | none => unfold lim; rw [dif_neg]; rintro ⟨_, h⟩; cases h
theorem lim_bind {α β : Type} {f : Nat → Option α} {g : α → Nat → Option β} (hf : Mono f) (hg : ∀ x, Mono (g x)) : lim (fun n => (f n).bind fun x => g x n) = (lim f).bind fun x => lim (g x) := by
  apply Option.ext
  intro r
  rw [lim_some (hf.bind hg), Option.bind_eq_some_iff]
  constructor
  · rintro ⟨n, hn⟩
    obtain ⟨x, hx, hr⟩ := Option.bind_eq_some_iff.1 hn
    exact ⟨x, (lim_some hf).2 ⟨n, hx⟩, (lim_some (hg x)).2 ⟨n, hr⟩⟩
  · rintro ⟨x, hx, hr⟩
    obtain ⟨n, hn⟩ := (lim_some hf).1 hx
    obtain ⟨m, hm⟩ := (lim_some (hg x)).1 hr
    exact ⟨max n m, by rw [hf.le (Nat.le_max_left n m) hn]; exact (hg x).le (Nat.le_max_right n m) hm⟩
theorem lim_shift {α : Type} {f : Nat → Option α} (hf : Mono f) : lim (fun n => f (n + 1)) = lim f := by
  have hf' : Mono fun n => f (n + 1) := fun n r h => hf (n + 1) r h
  apply Option.ext
  intro r
  rw [lim_some hf', lim_some hf]
  exact ⟨fun ⟨n, h⟩ => ⟨n + 1, h⟩, fun ⟨n, h⟩ => ⟨n, hf n r h⟩⟩

/- All parts of the evaluator by what stands first in them. -/
def aT (k : St → Option (XE × St)) : XE × St → Option (XE × St)
  | (.normal, S) => k S
  | r => some r
theorem andThen_eq (r : Option (XE × St)) (k : St → Option (XE × St)) : andThen r k = r.bind (aT k) := by
  rcases r with _ | ⟨e, S⟩
  · rfl
  · cases e <;> rfl
def mT (k : St → St) : XE × St → Option (XE × St)
  | (.normal, S) => some (.normal, k S)
  | r => some r
theorem mapN_eq (k : St → St) (r : Option (XE × St)) : mapN k r = r.bind (mT k) := by
  rcases r with _ | ⟨e, S⟩
  · rfl
  · cases e <;> rfl
def bT (id : Nat) : XE × St → Option (XE × St)
  | (.exit id', S) => if id' = id then some (.normal, S) else some (.exit id', S)
  | r => some r
theorem inBlk_eq (id : Nat) (r : Option (XE × St)) : inBlk id r = r.bind (bT id) := by
  rcases r with _ | ⟨e, S⟩
  · rfl
  · cases e <;> rfl
def cT (m : Mem) (k0 : Nat) (ρ B : List Nat) (n0 : Nat) (b : Bool) (p : Out × List (Nat × Cont)) : Option CRes := callBack m k0 ρ B (frzR n0 b (some p))
theorem callBack_eq (m : Mem) (k0 : Nat) (ρ B : List Nat) (n0 : Nat) (b : Bool) (r : Option (Out × List (Nat × Cont))) : callBack m k0 ρ B (frzR n0 b r) = r.bind (cT m k0 ρ B n0 b) := by cases r <;> rfl
theorem putC_eq (S : St) (d : Option Nat) (r : Option CRes) : putC S d r = r.bind fun c => putC S d (some c) := by cases r <;> rfl
theorem dcall_eq (S : St) (o : Oper) (r : Option CRes) : dcall S o r = r.bind fun c => dcall S o (some c) := by cases r <;> rfl
theorem dThen_eq (acc : List Stp) (r : Option (St × Stp)) (k : St → List Stp → Option (XE × St)) : dThen acc r k = r.bind fun p => k p.1 (p.2 :: acc) := by cases r <;> rfl
theorem fin_eq (P : Program) (p : FPol) (n0 : Nat) (rs : List ResultVar) (r : Option (XE × St)) : fin P p n0 rs r = r.bind fun q => fin P p n0 rs (some q) := by cases r <;> rfl

/-- A row of functions that settles everywhere. -/
def CMono (C : Nat → CallFn) : Prop := ∀ g a c, Mono fun k => C k g a c

section
variable {X : Ctx} {C : Nat → CallFn} {S : St} {o : Oper} {md : Bool}

theorem callOp_mono (hC : CMono C) (m : Mem) (k0 : Nat) (g : FuncId) (ys : List AV) (mt : List Nat) : Mono (fun k => callOp (C k) m k0 g ys mt) := by
  unfold callOp callOp2 callOp3
  simp only [callBack_eq]
  exact (hC _ _ _).bind fun _ => Mono.const _
theorem callVal_mono (hC : CMono C) (args : List Operand) (fv : Bool × AV) : Mono (fun k => callVal X (C k) S o args fv) := by
  unfold callVal
  split
  · split
    · exact callOp_mono hC _ _ _ _ _
    · exact Mono.const _
  · exact Mono.const _
theorem specOp_mono (hC : CMono C) : Mono (fun k => specOp X (C k) S o) := by
  unfold specOp
  split
  · rename_i fv args tys ho
    have h1 : (fun k => putC S o.dst (callVal X (C k) S o args.toList (S.opd fv))) = fun k => (callVal X (C k) S o args.toList (S.opd fv)).bind fun c => putC S o.dst (some c) := by
      funext k; exact putC_eq ..
    rw [h1]
    exact (callVal_mono hC args.toList (S.opd fv)).bind (fun _ => Mono.const _)
  · exact Mono.const _
  · exact Mono.const _
theorem stepOp_mono (hC : CMono C) (r : Res) : Mono (fun k => stepOp X (C k) S o r) := by
  cases r with
  | no => exact specOp_mono hC
  | val c x => exact Mono.const _
  | upd c x e => exact Mono.const _
theorem guardOp_mono (hC : CMono C) (b : Bool) (r : Res) : Mono (fun k => guardOp X (C k) S o b r) := by
  have other : ∀ r, Mono (fun k => if b = true then stepOp X (C k) S o r else some (.normal, S.put o.dst true .junk)) := by
    intro r
    split
    · exact stepOp_mono hC r
    · exact Mono.const _
  cases r with
  | no => exact other .no
  | val c x => exact Mono.const _
  | upd c x e => exact other (.upd c x e)
theorem gstep_mono (hC : CMono C) (all : List Oper) : Mono (fun k => gstep X (C k) md all S o) := by
  unfold gstep
  split
  · exact stepOp_mono hC _
  · split
    · split
      · exact guardOp_mono hC _ _
      · split
        · exact stepOp_mono hC _
        · exact Mono.const _
    · exact Mono.const _
    · exact Mono.const _
theorem andThen_mono {F : Nat → Option (XE × St)} {K : St → Nat → Option (XE × St)} (hF : Mono F) (hK : ∀ S, Mono (K S)) : Mono (fun n => andThen (F n) (fun S => K S n)) := by
  simp only [andThen_eq]
  refine hF.bind (g := fun x n => aT (fun S => K S n) x) fun x => ?_
  obtain ⟨e, S⟩ := x
  cases e with
  | normal => exact hK S
  | _ => exact Mono.const _
theorem runOps_mono (hC : CMono C) (all : List Oper) : ∀ (ops : List Oper) (S : St), Mono (fun k => runOps X (C k) md all ops S)
  | [], S => Mono.const _
  | o :: r, S => andThen_mono (gstep_mono hC all) (fun S' => runOps_mono hC all r S')
theorem dspec_mono (hC : CMono C) : Mono (fun k => dspec X (C k) S o) := by
  unfold dspec
  split
  · rename_i fv args tys ho
    have h1 : (fun k => dcall S o (callVal X (C k) S o args.toList (S.opd fv))) = fun k => (callVal X (C k) S o args.toList (S.opd fv)).bind fun c => dcall S o (some c) := by
      funext k; exact dcall_eq ..
    rw [h1]
    exact (callVal_mono hC args.toList (S.opd fv)).bind (fun _ => Mono.const _)
  · exact Mono.const _
theorem dstep_mono (hC : CMono C) (r : Res) : Mono (fun k => dstep X (C k) S o r) := by
  cases r with
  | no => exact dspec_mono hC
  | val c x => exact Mono.const _
  | upd c x e => exact Mono.const _
theorem dguard_mono (hC : CMono C) (b : Bool) (r : Res) : Mono (fun k => dguard X (C k) S o b r) := by
  have other : ∀ r, Mono (fun k => if b = true then dstep X (C k) S o r else some (S.put o.dst true .junk, ⟨[], [], true, .junk⟩)) := by
    intro r
    split
    · exact dstep_mono hC r
    · exact Mono.const _
  cases r with
  | no => exact other .no
  | val c x => exact Mono.const _
  | upd c x e => exact other (.upd c x e)
theorem dgstep_mono (hC : CMono C) (all : List Oper) : Mono (fun k => dgstep X (C k) md all S o) := by
  unfold dgstep
  split
  · exact dstep_mono hC _
  · split
    · split
      · exact dguard_mono hC _ _
      · split
        · exact dstep_mono hC _
        · exact Mono.const _
    · exact Mono.const _
    · exact Mono.const _
theorem drwOps_mono (hC : CMono C) (nd : List (List Nat)) (all : List Oper) : ∀ (ops : List Oper) (S : St) (acc : List Stp), Mono (fun k => drwOps X (C k) md nd all ops S acc)
  | [], S, acc => Mono.const _
  | o :: r, S, acc => by
    simp only [drwOps, dThen_eq]
    exact (dgstep_mono hC all).bind (g := fun p n => drwOps X (C n) md nd all r p.1 (p.2 :: acc)) fun p => drwOps_mono hC nd all r p.1 (p.2 :: acc)

def chkP (LI : List Cl) (p : St × Stp) : Option (St × Stp) := if invEs LI p.2.es = true then some p else none
theorem chkI_eq (LI : List Cl) (r : Option (St × Stp)) : chkI LI r = r.bind (chkP LI) := by
  rcases r with _ | ⟨S, p⟩ <;> rfl
theorem drwI_mono (hC : CMono C) (nd : List (List Nat)) (LI : List Cl) (all : List Oper) : ∀ (ops : List Oper) (S : St) (acc : List Stp), Mono (fun k => drwI X (C k) md nd LI all ops S acc)
  | [], S, acc => Mono.const _
  | o :: r, S, acc => by
    simp only [drwI, dThen_eq]
    cases lookI X.P LI S o with
    | some x =>
      simp only [stepI, Option.bind_some]
      exact drwI_mono hC nd LI all r _ _
    | none =>
      simp only [stepI, chkI_eq]
      exact ((dgstep_mono hC all).bind (g := fun p _ => chkP LI p) fun p => Mono.const _).bind (g := fun p n => drwI X (C n) md nd LI all r p.1 (p.2 :: acc)) fun p => drwI_mono hC nd LI all r p.1 (p.2 :: acc)
theorem drwA_mono (hC : CMono C) (nd : List (List Nat)) (all : List Oper) (S : St) (fl : List (Nat × Nat)) : Mono (fun k => drwA X (C k) md nd all S fl) := by
  cases fl with
  | nil => exact drwOps_mono hC nd all all S []
  | cons q r =>
    simp only [drwA]
    cases ents S.mem (q :: r) with
    | none => exact Mono.const _
    | some LI => exact drwI_mono hC nd LI all all S []

theorem iter_fuel (f : St → Option (XE × St)) : ∀ (j : Nat) (S : St) (r : XE × St), iter f j S = some r → iter f (j + 1) S = some r
  | 0, S, r, h => by cases h
  | j + 1, S, r, h => by
    simp only [iter] at h
    rw [iter]
    rcases andThen_some h with ⟨S1, h1, h2⟩ | ⟨h1, h2⟩
    · rw [h1]; exact iter_fuel f j S1 r h2
    · rw [h1]
      obtain ⟨e, S1⟩ := r
      cases e with
      | normal => exact absurd rfl h2
      | _ => rfl
theorem iter_fuel_le (f : St → Option (XE × St)) {j k : Nat} (h : j ≤ k) {S : St} {r : XE × St} (hr : iter f j S = some r) : iter f k S = some r := by
  induction h with
  | refl => exact hr
  | step _ ih => exact iter_fuel f _ S r ih
theorem iter_mono {F : Nat → St → Option (XE × St)} (hF : ∀ S, Mono (fun k => F k S)) : ∀ (j : Nat) (S : St), Mono (fun k => iter (F k) j S)
  | 0, S => Mono.const _
  | j + 1, S => andThen_mono (hF S) (fun S' => iter_mono hF j S')

theorem den_mono (hC : CMono C) (f : FuncId) {m : Nat → Nat} (hm : ∀ k, m k ≤ m (k + 1)) : ∀ (c : Code) (S : St), Mono (fun k => den X f (C k) (m k) c S) := by
  intro c
  induction c with
  | region id ops draw =>
    intro S
    cases draw with
    | false =>
      simp only [den, mapN_eq]
      exact (runOps_mono hC _ _ _).bind fun _ => Mono.const _
    | true =>
      simp only [den, mapN_eq]
      exact (drwA_mono hC _ _ _ _).bind fun _ => Mono.const _
  | seq a b iha ihb => intro S; exact andThen_mono (iha S) (fun S' => ihb S')
  | cond c a b iha ihb =>
    intro S
    simp only [den]
    unfold condB
    split
    · split
      · exact iha S
      · exact ihb S
    · exact Mono.const _
  | block id c ih =>
    intro S
    simp only [den, inBlk_eq]
    exact (ih S).bind fun _ => Mono.const _
  | loop c ih =>
    intro S n r h
    simp only [den] at h ⊢
    have h1 := iter_mono (F := fun k => den X f (C k) (m k) c) ih (m n) S n r h
    exact iter_fuel_le _ (hm n) h1
  | skip => intro S; exact Mono.const _
  | exit id => intro S; exact Mono.const _
  | ret => intro S; exact Mono.const _
  | rangeFunc _ _ _ _ => intro S; exact Mono.const _
  | scope _ _ => intro S; exact Mono.const _
  | label _ => intro S; exact Mono.const _
  | goto _ => intro S; exact Mono.const _
  | refuse _ => intro S; exact Mono.const _

theorem runFn_mono (hC : CMono C) (f : FuncId) {m : Nat → Nat} (hm : ∀ k, m k ≤ m (k + 1)) (fn : Func) (c : Code) (args : List AV) (cs : List Cont) : Mono (fun k => runFn X f (C k) (m k) fn c args cs) := by
  unfold runFn
  split
  · simp only [fin_eq X.P (X.fp f) cs.length fn.results.toList (den _ _ _ _ _ _)]
    exact (den_mono hC f hm c _).bind fun _ => Mono.const _
  · exact Mono.const _

theorem splitRun_mono {F G : Nat → Option (Out × List (Nat × Cont))} (hF : Mono F) (hG : Mono G) : Mono (fun n => splitRun (F n) (G n)) := by
  intro n r h
  replace h : splitRun (F n) (G n) = some r := h
  show splitRun (F (n + 1)) (G (n + 1)) = some r
  unfold splitRun at h
  split at h
  · rename_i a b ha hb
    have e1 := emptyVec_some ha
    have e2 := emptyVec_some hb
    have f1 := hF n _ e1
    have f2 := hG n _ e2
    rw [e1] at h
    rw [f1, f2]
    simp only [splitRun, emptyVec]
    exact h
  · cases h
theorem runSplit_mono {R : Nat → List AV → Option (Out × List (Nat × Cont))} (hR : ∀ a, Mono (fun n => R n a)) (args : List AV) (b : Bool) : Mono (fun n => runSplit (R n) args b) := by
  unfold runSplit
  split
  · split
    · exact splitRun_mono (hR _) (hR _)
    · exact hR _
  · exact hR _

theorem callN_mono (X : Ctx) : ∀ n g a c r, callN X n g a c = some r → callN X (n + 1) g a c = some r
  | 0, g, a, c, r, h => by cases h
  | n + 1, g, a, c, r, h => by
    have ih := callN_mono X n
    have hC : CMono fun k => if k = 0 then callN X n else callN X (n + 1) := by
      intro g a c k r h
      by_cases hk : k = 0
      · subst hk; exact ih g a c r h
      · simp only [hk, if_false] at h; simpa using h
    have hm : ∀ k, (if k = 0 then n else n + 1) ≤ (if k + 1 = 0 then n else n + 1) := by
      intro k
      by_cases hk : k = 0 <;> simp [hk]
    cases hor : X.orc g with
    | some h0 => simp only [callN, hor] at h ⊢; exact h
    | none =>
    cases hf : X.P.funcs[g]? with
    | none => simp only [callN, hor, hf] at h; cases h
    | some fn =>
      cases hb : fn.body with
      | none => simp only [callN, hor, hf, hb] at h; cases h
      | some code =>
        have e1 : ∀ k, callN X (k + 1) g a c = runSplit (fun args => runFn X g (callN X k) k fn code args c) a (X.fp g).split := by
          intro k; simp only [callN, hor, hf, hb]
        rw [e1] at h ⊢
        exact runSplit_mono (R := fun k args => runFn X g ((fun k => if k = 0 then callN X n else callN X (n + 1)) k) ((fun k => if k = 0 then n else n + 1) k) fn code args c) (fun args => runFn_mono hC g hm fn code args c) a _ 0 r h
theorem callN_cmono (X : Ctx) : CMono (callN X) := fun g a c n r h => callN_mono X n g a c r h
end

/- The limits. -/
noncomputable def callT (X : Ctx) : CallFn := fun g a c => lim fun k => callN X k g a c
noncomputable def denT (X : Ctx) (f : FuncId) (c : Code) (S : St) : Option (XE × St) := lim fun k => den X f (callN X k) k c S

theorem callT_of {X : Ctx} {g a c r} (n : Nat) (h : callN X n g a c = some r) : callT X g a c = some r := (lim_some (callN_cmono X g a c)).2 ⟨n, h⟩
theorem callT_ok {X : Ctx} (hX : CtxOk X) : ClOk X (callT X) := fun g args cs out l h => by
  obtain ⟨n, hn⟩ := (lim_some (callN_cmono X g args cs)).1 h
  exact callN_ok hX n g args cs out l hn

section
variable {X : Ctx} {S : St} {o : Oper} {f : FuncId} {md : Bool}

theorem dm (c : Code) (S : St) : Mono (fun k => den X f (callN X k) k c S) := den_mono (callN_cmono X) f (m := fun k => k) (fun k => Nat.le_succ k) c S

theorem callOp_lim (m : Mem) (k0 : Nat) (g : FuncId) (ys : List AV) (mt : List Nat) : lim (fun k => callOp (callN X k) m k0 g ys mt) = callOp (callT X) m k0 g ys mt := by
  unfold callOp callOp2 callOp3
  simp only [callBack_eq]
  rw [lim_bind (callN_cmono X _ _ _) (fun _ => Mono.const _)]
  simp only [lim_const]
  rfl
theorem callVal_lim (args : List Operand) (fv : Bool × AV) : lim (fun k => callVal X (callN X k) S o args fv) = callVal X (callT X) S o args fv := by
  unfold callVal
  split
  · split
    · exact callOp_lim ..
    · exact lim_const _
  · exact lim_const _
theorem specOp_lim : lim (fun k => specOp X (callN X k) S o) = specOp X (callT X) S o := by
  unfold specOp
  split
  · rename_i fv args tys ho
    have h1 : (fun k => putC S o.dst (callVal X (callN X k) S o args.toList (S.opd fv))) = fun k => (callVal X (callN X k) S o args.toList (S.opd fv)).bind fun c => putC S o.dst (some c) := by
      funext k; exact putC_eq ..
    rw [h1, lim_bind (callVal_mono (callN_cmono X) _ _) (fun _ => Mono.const _), callVal_lim, putC_eq]
    simp only [lim_const]
  · exact lim_const _
  · exact lim_const _
theorem stepOp_lim (r : Res) : lim (fun k => stepOp X (callN X k) S o r) = stepOp X (callT X) S o r := by
  cases r with
  | no => exact specOp_lim
  | val c x => exact lim_const _
  | upd c x e => exact lim_const _
theorem guardOp_lim (b : Bool) (r : Res) : lim (fun k => guardOp X (callN X k) S o b r) = guardOp X (callT X) S o b r := by
  have other : ∀ r, lim (fun k => if b = true then stepOp X (callN X k) S o r else some (.normal, S.put o.dst true .junk)) = if b = true then stepOp X (callT X) S o r else some (.normal, S.put o.dst true .junk) := by
    intro r
    split
    · exact stepOp_lim r
    · exact lim_const _
  cases r with
  | no => exact other .no
  | val c x => exact lim_const _
  | upd c x e => exact other (.upd c x e)
theorem gstep_lim (all : List Oper) : lim (fun k => gstep X (callN X k) md all S o) = gstep X (callT X) md all S o := by
  unfold gstep
  split
  · exact stepOp_lim _
  · split
    · split
      · exact guardOp_lim _ _
      · split
        · exact stepOp_lim _
        · exact lim_const _
    · exact lim_const _
    · exact lim_const _
theorem andThen_lim {F : Nat → Option (XE × St)} {K : St → Nat → Option (XE × St)} (hF : Mono F) (hK : ∀ S, Mono (K S)) : lim (fun n => andThen (F n) (fun S => K S n)) = andThen (lim F) (fun S => lim (K S)) := by
  simp only [andThen_eq]
  rw [lim_bind (g := fun x n => aT (fun S => K S n) x) hF (fun x => by
    obtain ⟨e, S⟩ := x
    cases e with
    | normal => exact hK S
    | _ => exact Mono.const _)]
  congr 1
  funext x
  obtain ⟨e, S⟩ := x
  cases e <;> first | rfl | exact lim_const _
theorem runOps_lim (all : List Oper) : ∀ (ops : List Oper) (S : St), lim (fun k => runOps X (callN X k) md all ops S) = runOps X (callT X) md all ops S
  | [], S => lim_const _
  | o :: r, S => by
    simp only [runOps]
    have := andThen_lim (F := fun k => gstep X (callN X k) md all S o) (K := fun S' k => runOps X (callN X k) md all r S') (gstep_mono (callN_cmono X) all) (fun S' => runOps_mono (callN_cmono X) all r S')
    rw [gstep_lim] at this
    simp only [runOps_lim all r] at this
    exact this
theorem dspec_lim : lim (fun k => dspec X (callN X k) S o) = dspec X (callT X) S o := by
  unfold dspec
  split
  · rename_i fv args tys ho
    have h1 : (fun k => dcall S o (callVal X (callN X k) S o args.toList (S.opd fv))) = fun k => (callVal X (callN X k) S o args.toList (S.opd fv)).bind fun c => dcall S o (some c) := by
      funext k; exact dcall_eq ..
    rw [h1, lim_bind (callVal_mono (callN_cmono X) _ _) (fun _ => Mono.const _), callVal_lim, dcall_eq]
    simp only [lim_const]
  · exact lim_const _
theorem dstep_lim (r : Res) : lim (fun k => dstep X (callN X k) S o r) = dstep X (callT X) S o r := by
  cases r with
  | no => exact dspec_lim
  | val c x => exact lim_const _
  | upd c x e => exact lim_const _
theorem dguard_lim (b : Bool) (r : Res) : lim (fun k => dguard X (callN X k) S o b r) = dguard X (callT X) S o b r := by
  have other : ∀ r, lim (fun k => if b = true then dstep X (callN X k) S o r else some (S.put o.dst true .junk, (⟨[], [], true, .junk⟩ : Stp))) = if b = true then dstep X (callT X) S o r else some (S.put o.dst true .junk, ⟨[], [], true, .junk⟩) := by
    intro r
    split
    · exact dstep_lim r
    · exact lim_const _
  cases r with
  | no => exact other .no
  | val c x => exact lim_const _
  | upd c x e => exact other (.upd c x e)
theorem dgstep_lim (all : List Oper) : lim (fun k => dgstep X (callN X k) md all S o) = dgstep X (callT X) md all S o := by
  unfold dgstep
  split
  · exact dstep_lim _
  · split
    · split
      · exact dguard_lim _ _
      · split
        · exact dstep_lim _
        · exact lim_const _
    · exact lim_const _
    · exact lim_const _
theorem drwOps_lim (nd : List (List Nat)) (all : List Oper) : ∀ (ops : List Oper) (S : St) (acc : List Stp), lim (fun k => drwOps X (callN X k) md nd all ops S acc) = drwOps X (callT X) md nd all ops S acc
  | [], S, acc => lim_const _
  | o :: r, S, acc => by
    simp only [drwOps, dThen_eq]
    rw [lim_bind (g := fun p n => drwOps X (callN X n) md nd all r p.1 (p.2 :: acc)) (dgstep_mono (callN_cmono X) all) (fun p => drwOps_mono (callN_cmono X) nd all r p.1 (p.2 :: acc)), dgstep_lim]
    simp only [drwOps_lim nd all r]

theorem drwI_lim (nd : List (List Nat)) (LI : List Cl) (all : List Oper) : ∀ (ops : List Oper) (S : St) (acc : List Stp), lim (fun k => drwI X (callN X k) md nd LI all ops S acc) = drwI X (callT X) md nd LI all ops S acc
  | [], S, acc => lim_const _
  | o :: r, S, acc => by
    simp only [drwI, dThen_eq]
    cases lookI X.P LI S o with
    | some x =>
      simp only [stepI, Option.bind_some]
      exact drwI_lim nd LI all r _ _
    | none =>
      simp only [stepI, chkI_eq]
      rw [lim_bind (g := fun p n => drwI X (callN X n) md nd LI all r p.1 (p.2 :: acc)) ((dgstep_mono (callN_cmono X) all).bind (g := fun p _ => chkP LI p) fun p => Mono.const _) (fun p => drwI_mono (callN_cmono X) nd LI all r p.1 (p.2 :: acc)),
        lim_bind (g := fun p _ => chkP LI p) (dgstep_mono (callN_cmono X) all) (fun p => Mono.const _), dgstep_lim]
      simp only [drwI_lim nd LI all r, lim_const]
theorem drwA_lim (nd : List (List Nat)) (all : List Oper) (S : St) (fl : List (Nat × Nat)) : lim (fun k => drwA X (callN X k) md nd all S fl) = drwA X (callT X) md nd all S fl := by
  cases fl with
  | nil => exact drwOps_lim nd all all S []
  | cons q r =>
    simp only [drwA]
    cases ents S.mem (q :: r) with
    | none => exact lim_const _
    | some LI => exact drwI_lim nd LI all all S []

/- What the evaluator does with code. -/
theorem denT_skip : denT X f .skip S = some (.normal, S) := lim_const _
theorem denT_exit {id : Nat} : denT X f (.exit id) S = some (.exit id, S) := lim_const _
theorem denT_ret : denT X f .ret S = some (.ret, S) := lim_const _
theorem denT_seq {a b : Code} : denT X f (.seq a b) S = andThen (denT X f a S) (denT X f b) := andThen_lim (dm a S) (fun S' => dm b S')
theorem denT_cond {c : Operand} {a b : Code} : denT X f (.cond c a b) S = condB (denT X f a S) (denT X f b S) (S.opd c) := by
  unfold denT
  simp only [den]
  unfold condB
  split
  · split <;> rfl
  · exact lim_const _
theorem denT_block {id : Nat} {c : Code} : denT X f (.block id c) S = inBlk id (denT X f c S) := by
  unfold denT
  simp only [den, inBlk_eq]
  rw [lim_bind (dm c S) (fun _ => Mono.const _)]
  simp only [lim_const]
theorem denT_region {id : Nat} {ops : Array Oper} : denT X f (.region id ops false) S = mapN (St.leave X f id) (runOps X (callT X) (X.md f id) ops.toList ops.toList S) := by
  unfold denT
  simp only [den, mapN_eq]
  rw [lim_bind (runOps_mono (callN_cmono X) _ _ _) (fun _ => Mono.const _), runOps_lim]
  simp only [lim_const]
theorem denT_draw {id : Nat} {ops : Array Oper} : denT X f (.region id ops true) S = mapN (St.leave X f id) (drwA X (callT X) (X.md f id) (X.od f id) ops.toList S (X.fl f id)) := by
  unfold denT
  simp only [den, mapN_eq]
  rw [lim_bind (drwA_mono (callN_cmono X) _ _ _ _) (fun _ => Mono.const _), drwA_lim]
  simp only [lim_const]
theorem denT_loop {c : Code} : denT X f (.loop c) S = andThen (denT X f c S) (denT X f (.loop c)) := by
  apply Option.ext
  intro r
  have hl : ∀ S r, denT X f (.loop c) S = some r ↔ ∃ k, iter (den X f (callN X k) k c) k S = some r := fun S r => lim_some (dm (.loop c) S)
  have hi : ∀ {k j i : Nat} {S r}, k ≤ j → i ≤ j → iter (den X f (callN X k) k c) i S = some r → iter (den X f (callN X j) j c) j S = some r := by
    intro k j i S r hk hij h
    exact iter_fuel_le _ hij ((iter_mono (F := fun k => den X f (callN X k) k c) (fun S => dm c S) i S).le hk h)
  rw [hl]
  constructor
  · rintro ⟨k, hk⟩
    cases k with
    | zero => cases hk
    | succ k =>
      simp only [iter] at hk
      rcases andThen_some hk with ⟨S1, h1, h2⟩ | ⟨h1, h2⟩
      · have : denT X f c S = some (.normal, S1) := (lim_some (dm c S)).2 ⟨k + 1, h1⟩
        rw [this]
        exact (hl S1 r).2 ⟨k + 1, hi (Nat.le_refl _) (Nat.le_succ k) h2⟩
      · have : denT X f c S = some r := (lim_some (dm c S)).2 ⟨k + 1, h1⟩
        rw [this]
        obtain ⟨e, S1⟩ := r
        cases e with
        | normal => exact absurd rfl h2
        | _ => rfl
  · intro h
    rcases andThen_some h with ⟨S1, h1, h2⟩ | ⟨h1, h2⟩
    · obtain ⟨k, hk⟩ := (lim_some (dm c S)).1 h1
      obtain ⟨j, hj⟩ := (hl S1 r).1 h2
      refine ⟨max k j + 1, ?_⟩
      rw [iter, (dm c S).le (show k ≤ max k j + 1 by omega) hk]
      have := (iter_mono (F := fun k => den X f (callN X k) k c) (fun S => dm c S) j S1).le (show j ≤ max k j + 1 by omega) hj
      exact iter_fuel_le _ (show j ≤ max k j by omega) this
    · obtain ⟨k, hk⟩ := (lim_some (dm c S)).1 h1
      refine ⟨k + 1, ?_⟩
      rw [iter, (dm c S).le (Nat.le_succ k) hk]
      obtain ⟨e, S1⟩ := r
      cases e with
      | normal => exact absurd rfl h2
      | _ => rfl

noncomputable def runFnT (X : Ctx) (f : FuncId) (fn : Func) (c : Code) (cs : List Cont) (args : List AV) : Option (Out × List (Nat × Cont)) :=
  if (decide (args.length ≤ fn.ntmps) && decide (cs.length ≤ 100) && (X.fp f).sites.all (fun k => decide (100 ≤ k)) && decide (X.fp f).sites.Nodup) = true then
    fin X.P (X.fp f) cs.length fn.results.toList (denT X f c (entry fn.ntmps X.gl args cs (X.fp f).sites))
  else none

theorem callT_orc {h : List D → Option D} {args : List AV} {cs : List Cont} (hor : X.orc f = some h) : callT X f args cs = orcAns h args cs := by
  unfold callT
  rw [← lim_shift (callN_cmono X f args cs)]
  have : (fun n => callN X (n + 1) f args cs) = fun _ => orcAns h args cs := by funext n; simp only [callN, hor]
  rw [this, lim_const]
theorem callT_eq {fn : Func} {c : Code} {args : List AV} {cs : List Cont} (hor : X.orc f = none) (hf : X.P.funcs[f]? = some fn) (hb : fn.body = some c) :
    callT X f args cs = runSplit (runFnT X f fn c cs) args (X.fp f).split := by
  have hm : ∀ args, Mono (fun k => runFn X f (callN X k) k fn c args cs) := fun args => runFn_mono (callN_cmono X) f (m := fun k => k) (fun k => Nat.le_succ k) fn c args cs
  have hr : ∀ args, lim (fun k => runFn X f (callN X k) k fn c args cs) = runFnT X f fn c cs args := by
    intro args
    unfold runFn runFnT
    split
    · rename_i h
      have h1 : (fun k => fin X.P (X.fp f) cs.length fn.results.toList (den X f (callN X k) k c (entry fn.ntmps X.gl args cs (X.fp f).sites))) = fun k => (den X f (callN X k) k c (entry fn.ntmps X.gl args cs (X.fp f).sites)).bind fun q => fin X.P (X.fp f) cs.length fn.results.toList (some q) := by
        funext k; exact fin_eq ..
      rw [h1, lim_bind (dm c _) (fun _ => Mono.const _), fin_eq]
      simp only [lim_const]
      rfl
    · exact lim_const _
  have e1 : callT X f args cs = lim (fun k => runSplit (fun args => runFn X f (callN X k) k fn c args cs) args (X.fp f).split) := by
    unfold callT
    rw [← lim_shift (callN_cmono X f args cs)]
    congr 1
    funext k
    rw [callN, hor, hf]
    simp only [hb]
  rw [e1]
  unfold runSplit
  split
  · split
    · rename_i r
      apply Option.ext
      intro y
      rw [lim_some (splitRun_mono (hm _) (hm _)), ← hr, ← hr]
      constructor
      · rintro ⟨n, hn⟩
        unfold splitRun at hn ⊢
        split at hn
        · rename_i a b ha hb2
          have f1 := (lim_some (hm _)).2 ⟨n, emptyVec_some ha⟩
          have f2 := (lim_some (hm _)).2 ⟨n, emptyVec_some hb2⟩
          rw [f1, f2]
          rw [emptyVec_some ha] at hn
          exact hn
        · cases hn
      · intro h
        unfold splitRun at h
        split at h
        · rename_i a b ha hb2
          obtain ⟨n, hn⟩ := (lim_some (hm _)).1 (emptyVec_some ha)
          obtain ⟨m, hm2⟩ := (lim_some (hm _)).1 (emptyVec_some hb2)
          refine ⟨max n m, ?_⟩
          rw [(hm _).le (Nat.le_max_left n m) hn, (hm _).le (Nat.le_max_right n m) hm2]
          rw [emptyVec_some ha] at h
          exact h
        · cases h
    · exact hr _
  · exact hr _
end
end Go.Am
end

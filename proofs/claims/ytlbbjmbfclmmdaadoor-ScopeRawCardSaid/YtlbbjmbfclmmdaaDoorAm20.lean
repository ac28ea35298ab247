/-
  The abstract machine, part 20: whatever order a region draws.
-/
import Derived.Test.YtlbbjmbfclmmdaaDoorAm19
namespace Go.Am
open Go

/-- What one operation of a region did: the keys that it may look at, the entries that it lays, whether its value counts, its value. -/
structure Stp where
  ks : List Nat
  es : List Ent
  g : Bool
  x : AV

def Stp.app (p : Stp) (o : Oper) (S : St) : St := ({ S with mem := putAll S.mem p.es } : St).put o.dst p.g p.x

def lkDst (all : List Oper) (j : Nat) : List Nat :=
  match all[j]? with
  | some o => match o.dst with | some t => [t] | none => []
  | none => []
/-- The slots that an operation looks at. -/
def looks (all : List Oper) (o : Oper) : List Nat :=
  (o.op.operands.toList.filterMap fun | .tmp t => some t | _ => none) ++ (match o.guard with | some (j, _) => lkDst all j | none => [])

structure Agree (all : List Oper) (o : Oper) (ks : List Nat) (S' S : St) : Prop where
  n : S'.n = S.n
  gl : S'.gl = S.gl
  keys : S'.mem.map (·.key) = S.mem.map (·.key)
  env : ∀ t ∈ looks all o, Env.lk S'.env t = Env.lk S.env t
  mem : ∀ k ∈ ks, Mem.get S'.mem k = Mem.get S.mem k

/-- An operation at its turn does what the step says, in every state that looks alike to it. -/
def StepL (P : Program) (all : List Oper) (S : St) (o : Oper) (p : Stp) : Prop :=
  ∀ S', Agree all o p.ks S' S → ∀ φ G a w, Rel φ G S' a w → ∀ (next : Act → World → Prop) (R : Exit → Act → World → Prop),
    (∀ φ' a' w', Rel φ' G (p.app o S') a' w' → Keeps φ S'.mem w φ' (p.app o S').mem w' → next a' w') →
    if Region.wanted o (yielded all.toArray a.tmps) then o.wp P a w next R else next (a.put o.dst undef) w

/-- A region's steps in the order of the text. -/
inductive Cert (P : Program) (all : List Oper) : List Oper → St → List Stp → St → Prop
  | nil (S) : Cert P all [] S [] S
  | cons (o rest S p ps S1) (hk : ∀ e ∈ p.es, e.key ∈ p.ks) (h : StepL P all S o p) (hr : Cert P all rest (p.app o S) ps S1) : Cert P all (o :: rest) S (p :: ps) S1

/- The order: of two operations neither ahead of the other, none looks at what the other writes. -/
def preds (o : Oper) : List Nat := (o.after.toList.filter (Region.binds .any)).map (·.on)
/-- Of each operation all that stand ahead of it by the edges. -/
def ancs : List Oper → List (List Nat) → List (List Nat)
  | [], acc => acc
  | o :: r, acc => ancs r (acc ++ [((preds o).flatMap fun p => p :: acc.getD p []).eraseDups])

def disj (l r : List Nat) : Bool := l.all fun x => !r.contains x
def apartB (all : List Oper) (o o' : Oper) (p p' : Stp) : Bool :=
  disj o.dst.toList (looks all o') && disj o'.dst.toList (looks all o) && disj o.dst.toList o'.dst.toList && disj (p.es.map (·.key)) p'.ks && disj (p'.es.map (·.key)) p.ks
/-- What is asked of the region's operation j against all ahead of it in the text. -/
def ordAt (all : List Oper) (ps : List Stp) (an : List (List Nat)) (j : Nat) : Bool :=
  match all[j]?, ps[j]? with
  | some o, some p => (preds o).all (fun i => decide (i < j)) && (List.range j).all fun i => (an.getD j []).contains i || (match all[i]?, ps[i]? with
    | some o', some p' => apartB all o' o p' p
    | _, _ => false)
  | _, _ => false
def ordOk (all : List Oper) (ps : List Stp) : Bool := (List.range all.length).all (ordAt all ps (ancs all []))

theorem ancs_append : ∀ (l : List Oper) (acc : List (List Nat)), ∃ r, ancs l acc = acc ++ r ∧ r.length = l.length
  | [], acc => ⟨[], by simp [ancs]⟩
  | o :: l, acc => by
    obtain ⟨r, h1, h2⟩ := ancs_append l (acc ++ [((preds o).flatMap fun p => p :: acc.getD p []).eraseDups])
    exact ⟨((preds o).flatMap fun p => p :: acc.getD p []).eraseDups :: r, by rw [ancs, h1, List.append_assoc, List.singleton_append], by simp [h2]⟩

theorem mem_eraseDups {l : List Nat} {x : Nat} : x ∈ l.eraseDups ↔ x ∈ l := List.mem_eraseDups

/-- The ancestors of operation j: its direct ones and theirs. -/
theorem ancs_spec : ∀ (l : List Oper) (acc : List (List Nat)) (j : Nat) (o : Oper), l[j]? = some o → (∀ p ∈ preds o, p < acc.length + j) →
    ∀ i, i ∈ (ancs l acc).getD (acc.length + j) [] ↔ ∃ p ∈ preds o, i = p ∨ i ∈ (ancs l acc).getD p []
  | [], acc, j, o, h, _ => by simp at h
  | x :: l, acc, j, o, h, hp => by
    simp only [ancs]
    cases j with
    | zero =>
      simp at h; subst h
      obtain ⟨r, h1, _⟩ := ancs_append l (acc ++ [((preds x).flatMap fun p => p :: acc.getD p []).eraseDups])
      rw [h1]
      intro i
      have e1 : (acc ++ [((preds x).flatMap fun p => p :: acc.getD p []).eraseDups] ++ r).getD (acc.length + 0) [] = ((preds x).flatMap fun p => p :: acc.getD p []).eraseDups := by
        simp [List.getD_eq_getElem?_getD, List.append_assoc]
      rw [e1, mem_eraseDups, List.mem_flatMap]
      constructor
      · rintro ⟨p, hpm, hi⟩
        refine ⟨p, hpm, ?_⟩
        have hlt := hp p hpm
        rcases List.mem_cons.1 hi with rfl | hi
        · exact .inl rfl
        · right
          rw [List.getD_eq_getElem?_getD] at hi ⊢
          rw [List.append_assoc, List.getElem?_append_left (by omega)]
          exact hi
      · rintro ⟨p, hpm, hi⟩
        refine ⟨p, hpm, ?_⟩
        have hlt := hp p hpm
        rcases hi with rfl | hi
        · simp
        · rw [List.getD_eq_getElem?_getD, List.append_assoc, List.getElem?_append_left (by omega), ← List.getD_eq_getElem?_getD] at hi
          exact List.mem_cons_of_mem _ hi
    | succ j =>
      have := ancs_spec l (acc ++ [((preds x).flatMap fun p => p :: acc.getD p []).eraseDups]) j o (by simpa using h) (fun p hpm => by have := hp p hpm; simp; omega)
      simp only [List.length_append, List.length_cons, List.length_nil] at this
      rw [show acc.length + (j + 1) = acc.length + (0 + 1) + j by omega]
      exact this

/-- A set of operations that holds with each one all that stand ahead of it. -/
theorem anc_closed {all : List Oper} {L : Nat → Prop} (hp : ∀ j o, all[j]? = some o → ∀ p ∈ preds o, p < j) (hL : ∀ j o, all[j]? = some o → L j → ∀ p ∈ preds o, L p) :
    ∀ j, (∃ o, all[j]? = some o) → ∀ i, i ∈ (ancs all []).getD j [] → i < j ∧ ((∀ o, all[j]? = some o → ∀ p ∈ preds o, L p) → L i) := by
  intro j
  induction j using Nat.strongRecOn with
  | _ j ih =>
    rintro ⟨o, ho⟩ i hi
    have hs := (ancs_spec all [] j o ho (fun p hpm => by simpa using hp j o ho p hpm) i)
    simp only [List.length_nil, Nat.zero_add] at hs
    obtain ⟨p, hpm, h⟩ := hs.1 hi
    have hpj := hp j o ho p hpm
    rcases h with rfl | h
    · exact ⟨hpj, fun hh => hh o ho i hpm⟩
    · have hjl : j < all.length := (List.getElem?_eq_some_iff.1 ho).1
      obtain ⟨op, hop⟩ : ∃ op, all[p]? = some op := ⟨all[p], by simp [show p < all.length by omega]⟩
      obtain ⟨h1, h2⟩ := ih p hpj ⟨op, hop⟩ i h
      exact ⟨by omega, fun hh => h2 (fun o' ho' q hq => hL p o' ho' (hh o ho p hpm) q hq)⟩

/- States by the set of operations that have been carried out. -/
def runAll (all : List Oper) (ps : List Stp) (S : St) (l : List Nat) : St :=
  l.foldl (fun S i => match all[i]?, ps[i]? with | some o, some p => p.app o S | _, _ => S) S

theorem app_n (p : Stp) (o : Oper) (S : St) : (p.app o S).n = S.n := by simp [Stp.app, put_n]
theorem app_gl (p : Stp) (o : Oper) (S : St) : (p.app o S).gl = S.gl := by cases h : o.dst <;> simp [Stp.app, h, St.put]
theorem app_keys (p : Stp) (o : Oper) (S : St) : (p.app o S).mem.map (·.key) = S.mem.map (·.key) := by simp [Stp.app, put_mem, putAll_keys]

theorem app_lk (p : Stp) (o : Oper) (S : St) (t : Nat) : Env.lk (p.app o S).env t = if o.dst = some t then some (p.g, p.x) else Env.lk S.env t := by
  cases hd : o.dst with
  | none => simp [Stp.app, St.put, hd]
  | some d =>
    by_cases h : d = t
    · subst h; simp [Stp.app, St.put, hd, Env.lk]
    · simp [Stp.app, St.put, hd, Env.lk, h]

theorem putAll_get_ne : ∀ (es : List Ent) (m : Mem) (k : Nat), k ∉ es.map (·.key) → Mem.get (putAll m es) k = Mem.get m k
  | [], m, k, _ => rfl
  | e :: r, m, k, h => by
    simp only [List.map_cons, List.mem_cons, not_or] at h
    rw [putAll, putAll_get_ne r _ k h.2, Mem.get_set_ne (fun he => h.1 he.symm)]
/-- What is put at a key hangs on the keys that there are and on what is put alone. -/
theorem putAll_get_eq : ∀ (es : List Ent) (m m' : Mem) (k : Nat), m.map (·.key) = m'.map (·.key) → (k ∈ es.map (·.key) ∨ Mem.get m k = Mem.get m' k) → Mem.get (putAll m es) k = Mem.get (putAll m' es) k
  | [], m, m', k, _, h => by simpa [putAll] using h
  | e :: r, m, m', k, hk, h => by
    simp only [putAll]
    refine putAll_get_eq r _ _ k (by rw [Mem.set_keys, Mem.set_keys, hk]) ?_
    by_cases he : e.key = k
    · right
      subst he
      by_cases hin : e.key ∈ m.map (·.key)
      · rw [Mem.get_set_same hin, Mem.get_set_same (hk ▸ hin)]
      · have none_of : ∀ (m : Mem), e.key ∉ m.map (·.key) → Mem.get (Mem.set m e) e.key = none := by
          intro m hm
          cases hg : Mem.get (Mem.set m e) e.key with
          | none => rfl
          | some y =>
            obtain ⟨h1, h2⟩ := Mem.get_mem hg
            have : y.key ∈ (Mem.set m e).map (·.key) := List.mem_map_of_mem h1
            rw [Mem.set_keys, h2] at this
            exact absurd this hm
        rw [none_of m hin, none_of m' (hk ▸ hin)]
    · rw [Mem.get_set_ne he, Mem.get_set_ne he]
      rcases h with h | h
      · simp only [List.map_cons, List.mem_cons] at h
        rcases h with h | h
        · exact absurd h.symm he
        · exact .inl h
      · exact .inr h

theorem app_get_ne (p : Stp) (o : Oper) (S : St) (k : Nat) (h : k ∉ p.es.map (·.key)) : Mem.get (p.app o S).mem k = Mem.get S.mem k := by
  simp only [Stp.app, put_mem]; exact putAll_get_ne _ _ _ h

section
variable {all : List Oper} {ps : List Stp} {S : St}
theorem runAll_n (l : List Nat) : ∀ (S : St), (runAll all ps S l).n = S.n := by
  induction l with
  | nil => exact fun _ => rfl
  | cons i l ih =>
    intro S
    have e1 : runAll all ps S (i :: l) = runAll all ps (runAll all ps S [i]) l := by simp [runAll]
    rw [e1, ih]
    simp only [runAll, List.foldl_cons, List.foldl_nil]
    split
    · exact app_n ..
    · rfl
theorem runAll_gl (l : List Nat) : ∀ (S : St), (runAll all ps S l).gl = S.gl := by
  induction l with
  | nil => exact fun _ => rfl
  | cons i l ih =>
    intro S
    have e1 : runAll all ps S (i :: l) = runAll all ps (runAll all ps S [i]) l := by simp [runAll]
    rw [e1, ih]
    simp only [runAll, List.foldl_cons, List.foldl_nil]
    split
    · exact app_gl ..
    · rfl
theorem runAll_keys (l : List Nat) : ∀ (S : St), (runAll all ps S l).mem.map (·.key) = S.mem.map (·.key) := by
  induction l with
  | nil => exact fun _ => rfl
  | cons i l ih =>
    intro S
    have e1 : runAll all ps S (i :: l) = runAll all ps (runAll all ps S [i]) l := by simp [runAll]
    rw [e1, ih]
    simp only [runAll, List.foldl_cons, List.foldl_nil]
    split
    · exact app_keys ..
    · rfl
theorem runAll_append (l l' : List Nat) (S : St) : runAll all ps S (l ++ l') = runAll all ps (runAll all ps S l) l' := by simp [runAll]

/-- Operations that don't write a slot change nothing in it: those that do, in their order, decide. -/
theorem runAll_lk (t : Nat) (q : Nat → Bool) (l : List Nat) : ∀ (S S' : St), (∀ i ∈ l, ∀ o, all[i]? = some o → o.dst = some t → q i = true) → Env.lk S.env t = Env.lk S'.env t → Env.lk (runAll all ps S l).env t = Env.lk (runAll all ps S' (l.filter q)).env t := by
  induction l with
  | nil => intro S S' _ h; exact h
  | cons i l ih =>
    intro S S' hq h
    have e1 : runAll all ps S (i :: l) = runAll all ps (runAll all ps S [i]) l := by simp [runAll]
    have hq' : ∀ i' ∈ l, ∀ o, all[i']? = some o → o.dst = some t → q i' = true := fun i' hi' => hq i' (List.mem_cons_of_mem _ hi')
    rw [e1]
    by_cases hqi : q i = true
    · rw [List.filter_cons_of_pos hqi]
      have e2 : runAll all ps S' (i :: l.filter q) = runAll all ps (runAll all ps S' [i]) (l.filter q) := by simp [runAll]
      rw [e2]
      refine ih _ _ hq' ?_
      simp only [runAll, List.foldl_cons, List.foldl_nil]
      split
      · rw [app_lk, app_lk, h]
      · exact h
    · rw [List.filter_cons_of_neg hqi]
      refine ih _ _ hq' ?_
      simp only [runAll, List.foldl_cons, List.foldl_nil]
      split
      · rename_i o p ho hp
        rw [app_lk, if_neg (fun hd => hqi (hq i (by simp) o ho hd)), h]
      · exact h
theorem runAll_get (k : Nat) (q : Nat → Bool) (l : List Nat) : ∀ (S S' : St), (∀ i ∈ l, ∀ p, ps[i]? = some p → k ∈ p.es.map (·.key) → q i = true) → S.mem.map (·.key) = S'.mem.map (·.key) → Mem.get S.mem k = Mem.get S'.mem k → Mem.get (runAll all ps S l).mem k = Mem.get (runAll all ps S' (l.filter q)).mem k := by
  induction l with
  | nil => intro S S' _ _ h; exact h
  | cons i l ih =>
    intro S S' hq hk h
    have e1 : runAll all ps S (i :: l) = runAll all ps (runAll all ps S [i]) l := by simp [runAll]
    have hq' : ∀ i' ∈ l, ∀ p, ps[i']? = some p → k ∈ p.es.map (·.key) → q i' = true := fun i' hi' => hq i' (List.mem_cons_of_mem _ hi')
    rw [e1]
    by_cases hqi : q i = true
    · rw [List.filter_cons_of_pos hqi]
      have e2 : runAll all ps S' (i :: l.filter q) = runAll all ps (runAll all ps S' [i]) (l.filter q) := by simp [runAll]
      rw [e2]
      refine ih _ _ hq' (by rw [runAll_keys, runAll_keys, hk]) ?_
      simp only [runAll, List.foldl_cons, List.foldl_nil]
      split
      · simp only [Stp.app, put_mem]
        exact putAll_get_eq _ _ _ k hk (.inr h)
      · exact h
    · rw [List.filter_cons_of_neg hqi]
      refine ih _ _ hq' (by rw [runAll_keys, hk]) ?_
      simp only [runAll, List.foldl_cons, List.foldl_nil]
      split
      · rename_i o p ho hp
        rw [app_get_ne _ _ _ _ (fun hd => hqi (hq i (by simp) p hp hd)), h]
      · exact h
end

/- States alike. -/
structure Eqv (S' S : St) : Prop where
  n : S'.n = S.n
  gl : S'.gl = S.gl
  mem : S'.mem = S.mem
  env : ∀ t, Env.lk S'.env t = Env.lk S.env t
theorem Rel.eqv {φ G S S' a w} (h : Rel φ G S' a w) (he : Eqv S' S) : Rel φ G S a w :=
  ⟨by rw [← he.n]; exact h.size, h.defers, fun t x hx => by rw [← he.mem]; exact h.env t x (by rw [he.env]; exact hx), by rw [← he.mem]; exact h.mem, by rw [← he.gl, ← he.mem]; exact h.glob⟩
theorem Mem.ext {m m' : Mem} (hn : (m.map (·.key)).Nodup) (hk : m.map (·.key) = m'.map (·.key)) (h : ∀ k, Mem.get m k = Mem.get m' k) : m = m' := by
  induction m generalizing m' with
  | nil => cases m' with | nil => rfl | cons _ _ => simp at hk
  | cons e r ih =>
    cases m' with
    | nil => simp at hk
    | cons e' r' =>
      simp only [List.map_cons, List.cons.injEq] at hk
      simp only [List.map_cons, List.nodup_cons] at hn
      have h0 := h e.key
      simp only [Mem.get, if_true, hk.1] at h0
      cases h0
      congr 1
      refine ih hn.2 hk.2 fun k => ?_
      have := h k
      simp only [Mem.get] at this
      by_cases he : e.key = k
      · subst he
        have nn : ∀ {r : Mem}, e.key ∉ r.map (·.key) → Mem.get r e.key = none := by
          intro r hr
          cases hg : Mem.get r e.key with
          | none => rfl
          | some y => obtain ⟨h1, h2⟩ := Mem.get_mem hg; exact absurd (h2 ▸ List.mem_map_of_mem h1) hr
        rw [nn hn.1, nn (by rw [← hk.2]; exact hn.1)]
      · simpa [he] using this

/- The listed operations in the order of the text. -/
def lst (n : Nat) (f : Nat → Bool) : List Nat := (List.range n).filter f
theorem range_split {j n : Nat} (h : j < n) : List.range n = List.range j ++ j :: List.range' (j + 1) (n - j - 1) := by
  have h2 : (j :: List.range' (j + 1) (n - j - 1)) = List.range' j (n - j) := by
    rw [show n - j = (n - j - 1) + 1 by omega, List.range'_succ]; simp
  rw [h2, List.range_eq_range', List.range_eq_range']
  rw [show List.range' 0 n = List.range' 0 (j + (n - j)) by rw [show j + (n - j) = n by omega]]
  rw [← List.range'_append_1]; simp
theorem lst_split {j n : Nat} {f : Nat → Bool} (h : j < n) (hf : f j = false) : lst n f = (List.range j).filter f ++ (List.range' (j + 1) (n - j - 1)).filter f := by
  rw [lst, range_split h, List.filter_append, List.filter_cons_of_neg (by simp [hf])]
theorem lst_split1 {j n : Nat} {f g : Nat → Bool} (h : j < n) (hg : g j = true) (hne : ∀ i, i ≠ j → g i = f i) : lst n g = (List.range j).filter f ++ j :: (List.range' (j + 1) (n - j - 1)).filter f := by
  rw [lst, range_split h, List.filter_append, List.filter_cons_of_pos hg]
  congr 1
  · exact List.filter_congr fun i hi => hne i (by have := List.mem_range.1 hi; omega)
  · congr 1
    exact List.filter_congr fun i hi => hne i (by have := List.mem_range'_1.1 hi; omega)

theorem disj_spec {l r : List Nat} (h : disj l r = true) {x : Nat} (hl : x ∈ l) (hr : x ∈ r) : False := by
  have := List.all_eq_true.1 h x hl
  simp at this
  exact this hr

structure Apart (all : List Oper) (o o' : Oper) (p p' : Stp) : Prop where
  a : ∀ t, o.dst = some t → t ∉ looks all o'
  b : ∀ t, o'.dst = some t → t ∉ looks all o
  c : ∀ t, o.dst = some t → o'.dst ≠ some t
  d : ∀ k ∈ p.es.map (·.key), k ∉ p'.ks
  e : ∀ k ∈ p'.es.map (·.key), k ∉ p.ks
theorem apartB_spec {all o o' p p'} (h : apartB all o o' p p' = true) : Apart all o o' p p' := by
  simp only [apartB, Bool.and_eq_true] at h
  obtain ⟨⟨⟨⟨h1, h2⟩, h3⟩, h4⟩, h5⟩ := h
  exact ⟨fun t ht hl => disj_spec h1 (by simp [ht]) hl, fun t ht hl => disj_spec h2 (by simp [ht]) hl, fun t ht hl => disj_spec h3 (x := t) (by simp [ht]) (by simp [hl]), fun k hk hl => disj_spec h4 hk hl, fun k hk hl => disj_spec h5 hk hl⟩

section
variable {all : List Oper} {ps : List Stp}
theorem ordOk_spec (h : ordOk all ps = true) {j : Nat} {o : Oper} (ho : all[j]? = some o) : ∃ p, ps[j]? = some p ∧ (∀ i ∈ preds o, i < j) ∧
    ∀ i, i < j → i ∈ (ancs all []).getD j [] ∨ ∃ o' p', all[i]? = some o' ∧ ps[i]? = some p' ∧ Apart all o' o p' p := by
  have hj : j < all.length := (List.getElem?_eq_some_iff.1 ho).1
  have h1 := List.all_eq_true.1 h j (List.mem_range.2 hj)
  unfold ordAt at h1
  rw [ho] at h1
  cases hp : ps[j]? with
  | none => rw [hp] at h1; simp at h1
  | some p =>
    rw [hp] at h1
    simp only [Bool.and_eq_true, List.all_eq_true, decide_eq_true_eq, Bool.or_eq_true, List.mem_range] at h1
    refine ⟨p, rfl, h1.1, fun i hi => ?_⟩
    rcases h1.2 i hi with h2 | h2
    · exact .inl (by simpa using h2)
    · right
      split at h2
      · rename_i o' p' ho' hp'; exact ⟨o', p', ho', hp', apartB_spec h2⟩
      · cases h2

/-- The steps in the order of the text are the states by running. -/
theorem Cert.at {P : Program} {rest : List Oper} {S0 S : St} {qs : List Stp} {S1 : St} (h : Cert P all rest S qs S1) : ∀ (pre : List Oper) (pp : List Stp), pre.length = pp.length → all = pre ++ rest → ps = pp ++ qs → runAll all ps S0 (List.range pre.length) = S →
    runAll all ps S0 (List.range all.length) = S1 ∧ ps.length = all.length ∧ ∀ j o p, pre.length ≤ j → all[j]? = some o → ps[j]? = some p → (∀ e ∈ p.es, e.key ∈ p.ks) ∧ StepL P all (runAll all ps S0 (List.range j)) o p := by
  induction h with
  | nil S =>
    intro pre pp hl ha hps hS
    simp only [List.append_nil] at ha hps
    subst ha hps
    refine ⟨hS, hl.symm, fun j o p hj ho _ => ?_⟩
    rw [List.getElem?_eq_none (by omega)] at ho
    cases ho
  | cons o rest S p qs S1 hk hst hr ih =>
    intro pre pp hl ha hps hS
    have e1 : all[pre.length]? = some o := by rw [ha]; simp
    have e2 : ps[pre.length]? = some p := by rw [hps, hl]; simp
    obtain ⟨h1, h2, h3⟩ := ih (pre ++ [o]) (pp ++ [p]) (by simp [hl]) (by rw [ha]; simp) (by rw [hps]; simp) (by
      rw [List.length_append, List.length_singleton, List.range_succ, runAll_append, hS]
      simp [runAll, e1, e2])
    refine ⟨h1, h2, fun j o' p' hj ho' hp' => ?_⟩
    rcases Nat.eq_or_lt_of_le hj with rfl | hj
    · rw [e1] at ho'; rw [e2] at hp'
      cases ho'; cases hp'
      exact ⟨hk, by rw [hS]; exact hst⟩
    · exact h3 j o' p' (by simp; omega) ho' hp'

variable {S : St} {f : Nat → Bool}
/-- A set of listed operations that holds what stands ahead of each. -/
def Closed (all : List Oper) (f : Nat → Bool) : Prop := ∀ j o, all[j]? = some o → f j = true → ∀ p ∈ preds o, f p = true

theorem ready_agree (hlen : ps.length = all.length) (hord : ordOk all ps = true) (hcl : Closed all f) {j : Nat} {o : Oper} {p : Stp} (ho : all[j]? = some o) (hp : ps[j]? = some p) (hj : f j = false) (hpre : ∀ i ∈ preds o, f i = true) :
    Agree all o p.ks (runAll all ps S (lst all.length f)) (runAll all ps S (List.range j)) := by
  have hlt : j < all.length := (List.getElem?_eq_some_iff.1 ho).1
  have hpl : ∀ j o, all[j]? = some o → ∀ p ∈ preds o, p < j := fun j o ho => (ordOk_spec hord ho).choose_spec.2.1
  obtain ⟨p0, hp0, _, hap⟩ := ordOk_spec hord ho
  rw [hp] at hp0; cases hp0
  -- what stands ahead of j is listed
  have hanc : ∀ i ∈ (ancs all []).getD j [], i < j ∧ f i = true := fun i hi => by
    obtain ⟨h1, h2⟩ := anc_closed (L := fun i => f i = true) hpl (fun j o ho hf => hcl j o ho hf) j ⟨o, ho⟩ i hi
    exact ⟨h1, h2 fun o' ho' => by rw [ho] at ho'; cases ho'; exact hpre⟩
  let q : Nat → Bool := fun i => (ancs all []).getD j [] |>.contains i
  have hq : ∀ i, q i = true ↔ i ∈ (ancs all []).getD j [] := fun i => by simp [q]
  -- any other listed one, and any other ahead in the text, is apart
  have hother : ∀ i, (i < j ∨ (j < i ∧ f i = true)) → q i = false → ∀ oi pi, all[i]? = some oi → ps[i]? = some pi → Apart all oi o pi p ∨ Apart all o oi p pi := by
    rintro i (hi | ⟨hi, hfi⟩) hqi oi pi hoi hpi
    · rcases hap i hi with h | ⟨o', p', ho', hp', h⟩
      · rw [(hq i).2 h] at hqi; cases hqi
      · rw [hoi] at ho'; rw [hpi] at hp'; cases ho'; cases hp'
        exact .inl h
    · obtain ⟨pi', hpi', _, hapi⟩ := ordOk_spec hord hoi
      rw [hpi] at hpi'; cases hpi'
      rcases hapi j hi with h | ⟨o', p', ho', hp', h⟩
      · have := (anc_closed (L := fun i => f i = true) hpl (fun j o ho hf => hcl j o ho hf) i ⟨oi, hoi⟩ j h).2 (fun o' ho' => by rw [hoi] at ho'; cases ho'; exact hcl i oi hoi hfi)
        simp [hj] at this
      · rw [ho] at ho'; rw [hp] at hp'; cases ho'; cases hp'
        exact .inr h
  have hfilter : (lst all.length f).filter q = (List.range j).filter q := by
    rw [lst_split hlt hj, List.filter_append, List.filter_filter, List.filter_filter]
    have : (List.range' (j + 1) (all.length - j - 1)).filter (fun a => q a && f a) = [] := by
      rw [List.filter_eq_nil_iff]
      intro i hi
      have := (List.mem_range'_1.1 hi).1
      simp only [Bool.and_eq_true, not_and]
      intro hqi
      have := (hanc i ((hq i).1 hqi)).1
      omega
    rw [this, List.append_nil]
    refine List.filter_congr fun i hi => ?_
    cases hqi : q i with
    | false => rfl
    | true => simp [(hanc i ((hq i).1 hqi)).2]
  have hl : ∀ i ∈ lst all.length f, i < j ∨ (j < i ∧ f i = true) := fun i hi => by
    have hfi := (List.mem_filter.1 hi).2
    rcases Nat.lt_trichotomy i j with h | h | h
    · exact .inl h
    · subst h; simp [hj] at hfi
    · exact .inr ⟨h, hfi⟩
  have hr : ∀ i ∈ List.range j, i < j ∨ (j < i ∧ f i = true) := fun i hi => .inl (List.mem_range.1 hi)
  refine ⟨by rw [runAll_n, runAll_n], by rw [runAll_gl, runAll_gl], by rw [runAll_keys, runAll_keys], fun t ht => ?_, fun k hk => ?_⟩
  · have key : ∀ l : List Nat, (∀ i ∈ l, i < j ∨ (j < i ∧ f i = true)) → ∀ i ∈ l, ∀ oi, all[i]? = some oi → oi.dst = some t → q i = true := by
      intro l hl i hi oi hoi hd
      cases hqi : q i with
      | true => rfl
      | false =>
        obtain ⟨pi, hpi, _⟩ := ordOk_spec hord hoi
        rcases hother i (hl i hi) hqi oi pi hoi hpi with h | h
        · exact absurd ht (h.a t hd)
        · exact absurd ht (h.b t hd)
    rw [runAll_lk t q _ S S (key _ hl) rfl, runAll_lk t q (List.range j) S S (key _ hr) rfl, hfilter]
  · have key : ∀ l : List Nat, (∀ i ∈ l, i < j ∨ (j < i ∧ f i = true)) → ∀ i ∈ l, ∀ pi, ps[i]? = some pi → k ∈ pi.es.map (·.key) → q i = true := by
      intro l hl i hi pi hpi hd
      cases hqi : q i with
      | true => rfl
      | false =>
        have hil : i < ps.length := (List.getElem?_eq_some_iff.1 hpi).1
        cases hoi : all[i]? with
        | none =>
          rw [List.getElem?_eq_none_iff] at hoi
          omega
        | some oi =>
          rcases hother i (hl i hi) hqi oi pi hoi hpi with h | h
          · exact absurd hk (h.d k hd)
          · exact absurd hk (h.e k hd)
    rw [runAll_get k q _ S S (key _ hl) rfl rfl, runAll_get k q (List.range j) S S (key _ hr) rfl rfl, hfilter]

/-- Carrying out a ready operation lists it. -/
theorem ready_step (hlen : ps.length = all.length) (hord : ordOk all ps = true) (hcl : Closed all f) (hks : ∀ (j : Nat) (p : Stp), ps[j]? = some p → ∀ e ∈ p.es, e.key ∈ p.ks) (hnd : (S.mem.map (·.key)).Nodup) {j : Nat} {o : Oper} {p : Stp} (ho : all[j]? = some o) (hp : ps[j]? = some p) (hj : f j = false) {g : Nat → Bool} (hg : g j = true) (hgf : ∀ i, i ≠ j → g i = f i) :
    Eqv (p.app o (runAll all ps S (lst all.length f))) (runAll all ps S (lst all.length g)) := by
  have hlt : j < all.length := (List.getElem?_eq_some_iff.1 ho).1
  have hpl : ∀ j o, all[j]? = some o → ∀ p ∈ preds o, p < j := fun j o ho => (ordOk_spec hord ho).choose_spec.2.1
  have hlate : ∀ i ∈ (List.range' (j + 1) (all.length - j - 1)).filter f, ∀ oi pi, all[i]? = some oi → ps[i]? = some pi → Apart all o oi p pi := by
    intro i hi oi pi hoi hpi
    obtain ⟨hi, hfi⟩ := List.mem_filter.1 hi
    have hji := (List.mem_range'_1.1 hi).1
    obtain ⟨pi', hpi', _, hapi⟩ := ordOk_spec hord hoi
    rw [hpi] at hpi'; cases hpi'
    rcases hapi j (by omega) with h | ⟨o', p', ho', hp', h⟩
    · have := (anc_closed (L := fun i => f i = true) hpl (fun j o ho hf => hcl j o ho hf) i ⟨oi, hoi⟩ j h).2 (fun o' ho' => by rw [hoi] at ho'; cases ho'; exact hcl i oi hoi hfi)
      simp [hj] at this
    · rw [ho] at ho'; rw [hp] at hp'; cases ho'; cases hp'
      exact h
  rw [lst_split1 hlt hg hgf, lst_split hlt hj]
  generalize hL1 : (List.range j).filter f = L1
  generalize hL2 : (List.range' (j + 1) (all.length - j - 1)).filter f = L2 at hlate
  have hne1 : ∀ i ∈ L1 ++ L2, i ≠ j := by
    intro i hi
    rw [← hL1, ← hL2] at hi
    rcases List.mem_append.1 hi with h | h
    · have := List.mem_range.1 (List.mem_filter.1 h).1; omega
    · have := (List.mem_range'_1.1 (List.mem_filter.1 h).1).1; omega
  have hpsall : ∀ {i pi}, ps[i]? = some pi → ∃ oi, all[i]? = some oi := fun {i pi} h => by
    have := (List.getElem?_eq_some_iff.1 h).1
    exact ⟨all[i]'(by omega), List.getElem?_eq_getElem _⟩
  let q : Nat → Bool := fun i => i != j
  have hf1 : (L1 ++ j :: L2).filter q = L1 ++ L2 := by
    rw [List.filter_append, List.filter_cons_of_neg (by simp [q]), ← List.filter_append, List.filter_eq_self]
    intro i hi; simpa [q] using hne1 i hi
  have hone : ∀ S, runAll all ps S (L1 ++ j :: L2) = runAll all ps (p.app o (runAll all ps S L1)) L2 := fun S => by
    rw [runAll_append]
    simp [runAll, ho, hp]
  have hkeys : (p.app o (runAll all ps S (L1 ++ L2))).mem.map (·.key) = (runAll all ps S (L1 ++ j :: L2)).mem.map (·.key) := by
    rw [app_keys, runAll_keys, runAll_keys]
  refine ⟨by rw [app_n, runAll_n, runAll_n], by rw [app_gl, runAll_gl, runAll_gl], Mem.ext (by rw [app_keys, runAll_keys]; exact hnd) hkeys fun k => ?_, fun t => ?_⟩
  · by_cases hk : k ∈ p.es.map (·.key)
    · have h1 : Mem.get (p.app o (runAll all ps S (L1 ++ L2))).mem k = Mem.get (p.app o (runAll all ps S L1)).mem k := by
        simp only [Stp.app, put_mem]
        exact putAll_get_eq _ _ _ k (by rw [runAll_keys, runAll_keys]) (.inl hk)
      rw [h1, hone]
      rw [runAll_get k (fun _ => false) L2 _ (p.app o (runAll all ps S L1)) ?_ rfl rfl]
      · rw [List.filter_eq_nil_iff.2 (by simp)]; rfl
      · intro i hi pi hpi hki
        obtain ⟨oi, hoi⟩ := hpsall hpi
        have := (hlate i hi oi pi hoi hpi).e k hki
        obtain ⟨e, he, rfl⟩ := List.mem_map.1 hk
        exact absurd (hks j p hp e he) this
    · rw [app_get_ne _ _ _ _ hk, runAll_get k q (L1 ++ j :: L2) S S ?_ rfl rfl, hf1]
      intro i hi pi hpi hki
      by_cases hij : i = j
      · subst hij; rw [hp] at hpi; cases hpi; exact absurd hki hk
      · simpa [q] using hij
  · rw [app_lk]
    by_cases hd : o.dst = some t
    · rw [if_pos hd, hone]
      rw [runAll_lk t (fun _ => false) L2 _ (p.app o (runAll all ps S L1)) ?_ rfl]
      · rw [List.filter_eq_nil_iff.2 (by simp)]; simp [runAll, app_lk, hd]
      · intro i hi oi hoi hdi
        obtain ⟨pi, hpi, _⟩ := ordOk_spec hord hoi
        exact absurd hdi ((hlate i hi oi pi hoi hpi).c t hd)
    · rw [if_neg hd, runAll_lk t q (L1 ++ j :: L2) S S ?_ rfl, hf1]
      intro i hi oi hoi hdi
      by_cases hij : i = j
      · subst hij; rw [ho] at hoi; cases hoi; exact absurd hdi hd
      · simpa [q] using hij

/-- Whatever order is drawn, a region with a certificate ends in its state. -/
theorem wpAny_cert {P : Program} {S0 S1 : St} {φ0 : Phi} {G : Nat → Prop} {w0 : World} {Q : Exit → Act → World → Prop} (hc : Cert P all all S0 ps S1) (hord : ordOk all ps = true) (hnd : (S0.mem.map (·.key)).Nodup)
    (hQ : ∀ φ' a' w', Rel φ' G S1 a' w' → Keeps φ0 S0.mem w0 φ' S1.mem w' → Q .normal a' w') :
    ∀ (fuel : Nat) (listed : Array Bool) φ a w, listed.size = all.length → Closed all (fun i => listed.getD i false) → Rel φ G (runAll all ps S0 (lst all.length fun i => listed.getD i false)) a w → Keeps φ0 S0.mem w0 φ (runAll all ps S0 (lst all.length fun i => listed.getD i false)).mem w →
      ((List.range all.length).filter fun i => !listed.getD i false).length ≤ fuel → wpAny P .any all.toArray Q fuel listed a w := by
  obtain ⟨hfin, hlen, hst⟩ := Cert.at (ps := ps) (S0 := S0) hc [] [] rfl rfl rfl rfl
  have hks : ∀ (j : Nat) (p : Stp), ps[j]? = some p → ∀ e ∈ p.es, e.key ∈ p.ks := fun j p hp => by
    have hjl : j < ps.length := (List.getElem?_eq_some_iff.1 hp).1
    exact (hst j (all[j]'(by omega)) p (by simp) (by simp) hp).1
  -- the first that isn't listed is ready
  have first : ∀ (f : Nat → Bool) (n : Nat), n ≤ all.length → (∀ i, i < n → f i = true) ∨ ∃ i, i < n ∧ f i = false ∧ ∀ i', i' < i → f i' = true := by
    intro f n
    induction n with
    | zero => exact fun _ => .inl (fun i hi => by omega)
    | succ n ih =>
      intro hn
      rcases ih (by omega) with h | ⟨i, h1, h2, h3⟩
      · cases hf : f n with
        | true =>
          refine .inl fun i hi => ?_
          rcases Nat.lt_succ_iff_lt_or_eq.1 hi with h' | h'
          · exact h i h'
          · rw [h']; exact hf
        | false => exact .inr ⟨n, by omega, hf, h⟩
      · exact .inr ⟨i, by omega, h2, h3⟩
  have done : ∀ (listed : Array Bool) φ a w, listed.size = all.length → Rel φ G (runAll all ps S0 (lst all.length fun i => listed.getD i false)) a w → Keeps φ0 S0.mem w0 φ (runAll all ps S0 (lst all.length fun i => listed.getD i false)).mem w → Region.ready .any all.toArray listed = [] → Q .normal a w := by
    intro listed φ a w hsz hr hk hemp
    have hall : ∀ i, i < all.length → listed.getD i false = true := by
      rcases first (fun i => listed.getD i false) all.length (Nat.le_refl _) with h | ⟨i, h1, h2, h3⟩
      · exact h
      · exfalso
        have : i ∈ Region.ready .any all.toArray listed := by
          rw [mem_ready]
          refine ⟨?_, all[i], by simp [h1], fun e he hb => ?_⟩
          · have : i < listed.size := by omega
            simp only [Array.getD_eq_getD_getElem?, Array.getElem?_eq_getElem this, Option.getD_some] at h2 ⊢
            exact h2
          · obtain ⟨p, _, hp, _⟩ := ordOk_spec hord (show all[i]? = some all[i] by simp [h1])
            exact h3 e.on (hp e.on (by
              simp only [preds, List.mem_map, List.mem_filter]
              exact ⟨e, ⟨by simpa using he, hb⟩, rfl⟩))
        rw [hemp] at this
        cases this
    have hl : (lst all.length fun i => listed.getD i false) = List.range all.length := by
      rw [lst, List.filter_eq_self]
      intro i hi
      exact hall i (List.mem_range.1 hi)
    rw [hl, hfin] at hr hk
    exact hQ φ a w hr hk
  intro fuel
  induction fuel with
  | zero =>
    intro listed φ a w hsz hcl hr hk hf
    have hemp : Region.ready .any all.toArray listed = [] := by
      cases h : Region.ready .any all.toArray listed with
      | nil => rfl
      | cons i r =>
        exfalso
        have hi : i ∈ Region.ready .any all.toArray listed := by rw [h]; simp
        rw [mem_ready] at hi
        obtain ⟨h0, o, ho, _⟩ := hi
        have hil : i < all.length := by
          have := (Array.getElem?_eq_some_iff.1 ho).1; simpa using this
        have h0' : listed.getD i false = false := by
          have : i < listed.size := by omega
          simp only [Array.getD_eq_getD_getElem?, Array.getElem?_eq_getElem this, Option.getD_some] at h0 ⊢
          exact h0
        have : i ∈ (List.range all.length).filter fun i => !listed.getD i false := List.mem_filter.2 ⟨List.mem_range.2 hil, by simp [h0']⟩
        have := List.length_pos_of_mem this
        omega
    exact ⟨hemp, done listed φ a w hsz hr hk hemp⟩
  | succ fuel ih =>
    intro listed φ a w hsz hcl hr hk hf
    refine ⟨done listed φ a w hsz hr hk, fun i hi => ?_⟩
    rw [mem_ready] at hi
    obtain ⟨h0, o, ho, hafter⟩ := hi
    have ho' : all[i]? = some o := by simpa using ho
    have hil : i < all.length := (List.getElem?_eq_some_iff.1 ho').1
    have hil2 : i < listed.size := by omega
    have h0' : listed.getD i false = false := by
      simp only [Array.getD_eq_getD_getElem?, Array.getElem?_eq_getElem hil2, Option.getD_some] at h0 ⊢
      exact h0
    have hpre : ∀ k ∈ preds o, listed.getD k false = true := by
      intro k hk'
      simp only [preds, List.mem_map, List.mem_filter] at hk'
      obtain ⟨e, ⟨he, hb⟩, rfl⟩ := hk'
      exact hafter e (by simpa using he) hb
    obtain ⟨p, hp, _⟩ := ordOk_spec hord ho'
    obtain ⟨hke, hstep⟩ := hst i o p (by simp) ho' hp
    have hag := ready_agree (S := S0) hlen hord hcl ho' hp h0' hpre
    have hset : (listed.setIfInBounds i true).getD i false = true := by simp [hil2]
    have hsne : ∀ k, k ≠ i → (listed.setIfInBounds i true).getD k false = listed.getD k false := fun k hk' => getD_set_ne false (Ne.symm hk')
    have heq := ready_step (S := S0) (f := fun i => listed.getD i false) (g := fun k => (listed.setIfInBounds i true).getD k false) hlen hord hcl hks hnd ho' hp h0' hset hsne
    have hcl' : Closed all (fun k => (listed.setIfInBounds i true).getD k false) := by
      intro k ok hok hfk x hx
      by_cases hxi : x = i
      · subst hxi; exact hset
      · show (listed.setIfInBounds i true).getD x false = true
        rw [hsne x hxi]
        by_cases hki : k = i
        · subst hki; rw [ho'] at hok; cases hok; exact hpre x hx
        · exact hcl k ok hok ((hsne k hki).symm.trans hfk) x hx
    have hcount : ((List.range all.length).filter fun k => !(listed.setIfInBounds i true).getD k false).length ≤ fuel := by
      have h1 : (List.range all.length).filter (fun k => !(listed.setIfInBounds i true).getD k false) = ((List.range all.length).filter fun k => !listed.getD k false).filter (fun k => k != i) := by
        rw [List.filter_filter]
        refine List.filter_congr fun k _ => ?_
        by_cases hki : k = i
        · subst hki; rw [hset]; simp
        · rw [hsne k hki]; simp [hki]
      have hmem : i ∈ (List.range all.length).filter fun k => !listed.getD k false := List.mem_filter.2 ⟨List.mem_range.2 hil, by simp [h0']⟩
      rw [h1]
      have : (((List.range all.length).filter fun k => !listed.getD k false).filter (fun k => k != i)).length < ((List.range all.length).filter fun k => !listed.getD k false).length := by
        rw [List.length_filter_lt_length_iff_exists]
        exact ⟨i, hmem, by simp⟩
      omega
    have hs := hstep _ hag φ G a w hr (wpAny P .any all.toArray Q fuel (listed.setIfInBounds i true)) Q (fun φ' a' w' hr' hk' =>
      ih _ φ' a' w' (by simpa using hsz) hcl' (hr'.eqv heq) (by rw [← heq.mem]; exact hk.trans hk') hcount)
    unfold wpOp
    rw [ho]
    simp only
    split at hs
    · rename_i hw; rw [if_pos hw]; exact .inl hs
    · rename_i hw; rw [if_neg hw]; exact hs
end
theorem region_draw {P : Program} {S S1 : St} {id : Nat} {ops : List Oper} {ps : List Stp} (hm : P.follows .mixedOrders = true) (hc : Cert P ops ops S ps S1) (hord : ordOk ops ps = true) {φ G a w} (hr : Rel φ G S a w) {Q : Exit → Act → World → Prop}
    (hQ : ∀ φ' a' w', Rel φ' G S1 a' w' → Keeps φ S.mem w φ' S1.mem w' → Q .normal a' w') : (Code.region id ops.toArray true).wp P Q a w := by
  refine wp_region_any hm ?_
  have hdr : Rel φ G S a { w with drawn := w.drawn + 1 } := hr.grow (fun _ _ => rfl) (Nat.le_refl _)
  have hl0 : (lst ops.length fun i => (Array.replicate ops.length false).getD i false) = [] := by
    rw [lst, List.filter_eq_nil_iff]
    intro i hi
    simp [Array.getD_eq_getD_getElem?, List.mem_range.1 hi]
  refine wpAny_cert (S0 := S) (φ0 := φ) (w0 := w) (G := G) hc hord hr.mem.nodup (fun φ' a' w' hr' hk' => hQ φ' a' w' hr' hk') _ _ φ a _ (by simp) ?_ ?_ ?_ ?_
  · intro j o _ hj
    exfalso
    simp only [Array.getD_eq_getD_getElem?] at hj
    by_cases h : j < ops.length
    · simp [h] at hj
    · simp [h] at hj
  · simp only [List.size_toArray]; rw [hl0]; exact hdr
  · simp only [List.size_toArray]; rw [hl0]; exact Keeps.grow (fun _ _ => rfl) (Nat.le_refl _) rfl rfl rfl
  · simp only [List.size_toArray]
    exact Nat.le_trans (List.length_filter_le _ _) (by simp)
theorem cert_n {P : Program} {ops : List Oper} {S S1 : St} {ps : List Stp} (hc : Cert P ops ops S ps S1) : S1.n = S.n ∧ S1.gl = S.gl := by
  obtain ⟨hfin, _, _⟩ := Cert.at (ps := ps) (S0 := S) hc [] [] rfl rfl rfl rfl
  rw [← hfin]
  exact ⟨runAll_n .., runAll_gl ..⟩
end Go.Am
